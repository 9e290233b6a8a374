/- The runner's operations, all of them, are the model's. -/
import Derived.Test.YtgfcakdpfedokaaRunM
import Derived.Laws.BytesString
namespace Go.Proofs.Ytgfcakdpfedokaa
namespace Rn
set_option linter.unusedVariables false
set_option linter.unusedSimpArgs false

theorem aAppend_spec {tS tX ty : TypeId} {dX : TypeDesc} (hx : PP.underlying tX = some dX) (hd : ∀ k, dX ≠ .int k) {s x v : AV} {S S' : St} (h : aAppend tS s x S = some (v, S')) :
    Ab S S' ∧ ∀ (F G : Nat → Prop) (m : M) (w : World) (us ux : Value), Fits F G S' → Free m S S' → Rel F m S.h w → CR m s us → CR m x ux →
      VOk F G m S S' w (Builtin.append_ #[tS, tX] ty #[us, ux]) v := by
  unfold aAppend at h
  split at h
  · rename_i e n he hn
    split at h
    · rename_i sz by_ z hsz hby hz
      have hcs := cond_some h; clear h; obtain ⟨hb, h⟩ := hcs
      simp only [Bool.and_eq_true] at hb
      have A : App tS tX ty e dX sz by_ := ⟨elemT_spec he, hx, hd, hsz, blt_spec hb.1, hby, z, hz, Nat.eq_of_beq_eq_true hb.2⟩
      unfold appAny at h
      split at h
      · cases h
      · rename_i new S1 hfirst
        obtain ⟨ab1, hh1, hn1, hnl, hfs⟩ := aFirst_spec hfirst
        have ev1 : ∀ {F G m} {w : World}, Rel F m S.h w → Ev F G m m S S1 w w := fun hr => ⟨fun _ _ => rfl, Sub.rfl, by rw [hh1]; exact hr, Nat.le_refl _, fun _ _ _ => rfl, fun _ _ a b => by omega, rfl, rfl, rfl⟩
        have key : ∀ {F G : Nat → Prop} {m : M} {w : World} {ux : Value}, Fits F G S1 → Rel F m S.h w → CR m x ux →
            ∀ w1 : World, w1.heap = w.heap → ∃ news, CRL m new news ∧ news.length = n * sz ∧ (Builtin.firstCells sz n ux).run PP w1 = .ok news.toArray w1 := by
          intro F G m w ux hf hr hxx w1 hw1
          obtain ⟨news, h1, h2, _⟩ := hfs F G m w1 ux hf (hr.drew hw1) hxx
          exact ⟨news, h1, by rw [h1.length, hnl], h2⟩
        split at h
        · obtain ⟨ab2, hs⟩ := appNil_spec (ty := ty) A h
          refine ⟨ab1.trans ab2, fun F G m w us ux hf hfree hr hs' hxx => ?_⟩
          simp only [CR] at hs'; subst hs'
          obtain ⟨m', w', u, ev, hrun, hcr⟩ := hs F G m w ux hf (fun k a b => hfree k (by omega) b) (by rw [hh1]; exact hr) (fun w => aLen_spec hn hxx w) (fun w1 hw1 => let ⟨news, h1, _, h2⟩ := key (hf.back ab2) hr hxx w1 hw1; ⟨news, h1, h2⟩)
          exact ⟨m', w', u, (ev1 hr).trans ev ab1.nx ab2.nx, hrun, hcr⟩
        · rename_i id off
          unfold appSe at h
          cases hn0 : Nat.beq n 0 with
          | true =>
            rw [hn0] at h
            injection h with h; injection h with h1 h2; subst h2; subst h1
            have hn0 := Nat.eq_of_beq_eq_true hn0
            refine ⟨ab1, fun F G m w us ux hf hfree hr hs hxx => ?_⟩
            obtain ⟨news, hcn, hnn, hnews⟩ := key hf hr hxx w rfl
            have hnl0 : news = [] := List.eq_nil_of_length_eq_zero (by rw [hnn, hn0, Nat.zero_mul])
            subst hnl0
            have hs' := hs
            simp only [CR] at hs
            obtain ⟨L, a, c, hL, rfl, ha, hsp, hc⟩ := hs
            have hrun := run_append_in (ty := ty) A.hu A.hx A.hd A.hsz a 0 c n ux (by omega) w w (fun w => aLen_spec hn hxx w) [] hnews (by simp [storeCells])
            rw [hn0] at hrun
            rw [hn0] at *
            exact ⟨m, w, _, ev1 hr, hrun, hs'⟩
          | false =>
            rw [hn0] at h
            have hn0 := Nat.ne_of_beq_eq_false hn0
            simp only [cond_false] at h
            obtain ⟨ab2, hs⟩ := appSe2_spec (ty := ty) (S0 := S) A (by omega) h
            refine ⟨ab1.trans ab2, fun F G m w us ux hf hfree hr hs' hxx => ?_⟩
            obtain ⟨m', w', u, ev, hrun, hcr⟩ := hs F G m w us ux hf (fun k a b => hfree k (by omega) b) (by rw [hh1]; exact hr) hs' (fun w => aLen_spec hn hxx w) (key (hf.back ab2) hr hxx)
            exact ⟨m', w', u, (ev1 hr).trans ev ab1.nx ab2.nx, hrun, hcr⟩
        · rename_i id off len cap op
          obtain ⟨ab2, hs⟩ := appSl2_spec (ty := ty) A hnl h
          refine ⟨ab1.trans ab2, fun F G m w us ux hf hfree hr hs' hxx => ?_⟩
          obtain ⟨m', w', u, ev, hrun, hcr⟩ := hs F G m w us ux hf (fun k a b => hfree k (by omega) b) (by rw [hh1]; exact hr) hs' (fun w => aLen_spec hn hxx w) (key (hf.back ab2) hr hxx)
          exact ⟨m', w', u, (ev1 hr).trans ev ab1.nx ab2.nx, hrun, hcr⟩
        · cases h
    · cases h
  · cases h

theorem aCopy_spec {tD tX ty : TypeId} {d x v : AV} {S S' : St} (h : aCopy tD d x S = some (v, S')) :
    Ab S S' ∧ ∀ (F G : Nat → Prop) (m : M) (w : World) (ud ux : Value), Fits F G S' → Free m S S' → Rel F m S.h w → CR m d ud → CR m x ux →
      VOk F G m S S' w (Builtin.copy_ #[tD, tX] ty #[ud, ux]) v := by
  unfold aCopy at h
  split at h
  · rename_i e dl xl he hdl hxl
    have hu := elemT_spec he
    split at h
    · cases h
    · rename_i sz hsz
      split at h
      · cases h
      · rename_i new S1 hfirst
        obtain ⟨ab1, hh1, hn1, hnl, hfs⟩ := aFirst_spec hfirst
        have ev1 : ∀ {F G m} {w : World}, Rel F m S.h w → Ev F G m m S S1 w w := fun hr => ⟨fun _ _ => rfl, Sub.rfl, by rw [hh1]; exact hr, Nat.le_refl _, fun _ _ _ => rfl, fun _ _ a b => by omega, rfl, rfl, rfl⟩
        split at h
        · injection h with h; injection h with h1 h2; subst h2; subst h1
          refine ⟨ab1, fun F G m w ud ux hf hfree hr hd hx => ?_⟩
          obtain ⟨news, hcn, hnews, _⟩ := hfs F G m w ux hf hr hx
          have hlx := aLen_spec hxl hx w
          injection hdl with hdl
          subst hdl
          simp only [CR] at hd; subst hd
          refine ⟨m, w, .int .i64 0, ev1 hr, ?_, rfl⟩
          simp only [Nat.min_zero] at hnews
          simp [Builtin.copy_, run_underlying hu, hlx, run_sz hsz, hnews, goInt]
        · injection h with h; injection h with h1 h2; subst h2; subst h1
          refine ⟨ab1, fun F G m w ud ux hf hfree hr hd hx => ?_⟩
          obtain ⟨news, hcn, hnews, _⟩ := hfs F G m w ux hf hr hx
          have hlx := aLen_spec hxl hx w
          injection hdl with hdl
          subst hdl
          have hnl0 : news = [] := List.eq_nil_of_length_eq_zero (by rw [hcn.length, hnl]; simp)
          subst hnl0
          simp only [CR] at hd
          obtain ⟨L, a, c, hL, rfl, ha, hsp, hc⟩ := hd
          refine ⟨m, w, .int .i64 0, ev1 hr, ?_, rfl⟩
          simp only [Nat.min_zero] at hnews
          simp [Builtin.copy_, run_underlying hu, hlx, run_sz hsz, hnews, goInt, storeCells]
        · rename_i id off len cap op
          split at h
          · rename_i l sz' S2 hl
            have hcs := cond_some h; clear h; obtain ⟨hb, h⟩ := hcs
            simp only [Bool.and_eq_true] at hb
            have e1 := ble_spec hb.1
            split at h
            · rename_i S3 hput
              injection h with h; injection h with h1 h2; subst h2; subst h1
              obtain ⟨ab2, hh2, hn2, hg2, _, _, hid⟩ := look_ab hl
              obtain ⟨ab3, hh3, hn3, _⟩ := put_ab hput hid (by rw [hh2, hg2]; rfl)
              refine ⟨(ab1.trans ab2).trans ab3, fun F G m w ud ux hf hfree hr hd hx => ?_⟩
              have f2 := hf.back ab3
              have f1 := f2.back ab2
              obtain ⟨news, hcn, hnews, _⟩ := hfs F G m w ux f1 hr hx
              have hlx := aLen_spec hxl hx w
              injection hdl with hdl
              subst hdl
              simp only [CR] at hd
              obtain ⟨L, hL, rfl⟩ := hd
              have r1 : Rel F m S1.h w := by rw [hh1]; exact hr
              obtain ⟨ev2, _, hg3, L', hL', pre, xs, post, e', hw, hp, hc, hext⟩ := look_rel hl f2 r1
              rw [hL] at hL'
              injection hL' with hL'
              subst hL'
              have hlxs := hc.length
              have hnn := hcn.length
              have ev3 := put_rel hid hput hf hg3 ev2.rel hL hw hp (CRL.splice off hc hcn) hext
              have hfit : off + news.length ≤ xs.length := by omega
              have hst := run_storeCells_at PP L.blk (pre.length + off) e' news 0 _ w hw (by simp; omega) (CRL.flat hcn hb.2)
              have hsg := seg_put pre xs post news off hfit
              refine ⟨m, _, .int .i64 (Nat.min xl len), ((ev1 hr).trans ev2 ab1.nx ab2.nx).trans ev3 (Nat.le_trans ab1.nx ab2.nx) ab3.nx, ?_, rfl⟩
              rw [hp] at hst
              simp only [Builtin.copy_, List.getElem?_toArray, List.getElem?_cons_zero, List.getElem?_cons_succ, Sem.run_bind, run_underlying hu, Result.andThen_ok, hlx, run_sz hsz, hnews, hst, Sem.run_pure, goInt]
              congr 2
              simp only [Nat.add_zero, List.toList_toArray]
              rw [← hp]
              rw [hsg]
            · cases h
          · cases h
        · cases h
  · cases h

theorem aConv_spec {src dst : TypeId} {x v : AV} {S S' : St} (h : aConv src dst x S = some (v, S')) :
    Ab S S' ∧ ∀ (F G : Nat → Prop) (m : M) (w : World) (u : Value), Fits F G S' → Free m S S' → Rel F m S.h w → CR m x u → VOk F G m S S' w (convert src dst u) v := by
  unfold aConv at h
  split at h
  · rename_i k0 k k1 n h1 h2
    injection h with h; injection h with e1 e2; subst e2; subst e1
    refine ⟨Ab.rfl, fun F G m w u hf hfree hr hx => ?_⟩
    simp only [CR] at hx; subst hx
    exact ⟨m, w, _, Ev.rfl hr, by simp only [convert, Sem.run_bind, run_underlying h1, run_underlying h2, Result.andThen_ok, Conv.intToInt, Sem.run_pure], rfl⟩
  · rename_i y h1 h2
    injection h with h; injection h with e1 e2; subst e2; subst e1
    refine ⟨Ab.rfl, fun F G m w u hf hfree hr hx => ?_⟩
    simp only [CR] at hx; subst hx
    exact ⟨m, w, _, Ev.rfl hr, by simp only [convert, Sem.run_bind, run_underlying h1, run_underlying h2, Result.andThen_ok, Sem.run_pure], rfl⟩
  · rename_i e h1 h2
    split at h
    · rename_i he
      unfold aToStr at h
      split at h
      · injection h with h; injection h with e1 e2; subst e2; subst e1
        refine ⟨Ab.rfl, fun F G m w u hf hfree hr hx => ?_⟩
        simp only [CR] at hx; subst hx
        exact ⟨m, w, .string .empty, Ev.rfl hr, by rw [run_convert_bytes_string w src dst e _ _ _ h1 he h2]; simp [Conv.bytesToString], rfl⟩
      · injection h with h; injection h with e1 e2; subst e2; subst e1
        refine ⟨Ab.rfl, fun F G m w u hf hfree hr hx => ?_⟩
        simp only [CR] at hx
        obtain ⟨L, a, c, hL, rfl, _⟩ := hx
        exact ⟨m, w, .string .empty, Ev.rfl hr, by rw [run_convert_bytes_string w src dst e _ _ _ h1 he h2]; exact run_bytesToString w a 0 c [] (by simp [loadCells, loadCellsFrom]), rfl⟩
      · rename_i id off len cap op
        split at h
        · rename_i l S1 hfirst
          split at h
          · rename_i ns hns
            injection h with h; injection h with e1 e2; subst e2; subst e1
            obtain ⟨ab, hh, hn, hnl, hfs⟩ := aFirst_spec hfirst
            refine ⟨ab, fun F G m w u hf hfree hr hx => ?_⟩
            obtain ⟨vs, hc, hrun, _⟩ := hfs F G m w u hf hr hx
            have hvs : vs = ns.map (Value.int .u8) := by
              clear hrun hfs hnl hfirst
              induction l generalizing vs ns with
              | nil =>
                simp only [CRL] at hc
                simp only [aInts, Option.some.injEq] at hns
                subst hc; subst hns; rfl
              | cons x l ih =>
                simp only [CRL] at hc
                obtain ⟨y, r, rfl, hy, hr⟩ := hc
                unfold aInts at hns
                split at hns
                · rename_i e; cases e
                · rename_i n l' e
                  injection e with e1 e2
                  subst e1; subst e2
                  split at hns
                  · rename_i r' hr'
                    injection hns with hns
                    subst hns
                    simp only [CR] at hy
                    subst hy
                    rw [ih r' hr' r hr (by simp)]; rfl
                  · cases hns
                · cases hns
            subst hvs
            simp only [CR] at hx
            obtain ⟨L, hL, rfl⟩ := hx
            simp only [Builtin.firstCells, Nat.mul_one] at hrun
            exact ⟨m, w, _, ⟨fun _ _ => rfl, Sub.rfl, by rw [hh]; exact hr, Nat.le_refl _, fun _ _ _ => rfl, fun _ _ a b => by omega, rfl, rfl, rfl⟩, by rw [run_convert_bytes_string w src dst e _ _ _ h1 he h2]; exact run_bytesToString w _ len _ ns hrun, rfl⟩
          · cases h
        · cases h
      · cases h
    · cases h
  · cases h

/-! calls -/
theorem aLenT_spec {m : M} {t ty : TypeId} {x v : AV} (h : aLenT t x = some v) {u : Value} (hx : CR m x u) (tys : List TypeId) (w : World) :
    ∃ y, (Builtin.len_ (t :: tys).toArray ty #[u]).run PP w = .ok y w ∧ CR m v y := by
  unfold aLenT at h
  split at h
  · rename_i y hu
    injection h with h; subst h
    simp only [CR] at hx; subst hx
    exact ⟨_, by simp [Builtin.len_, run_underlying hu, goInt], rfl⟩
  · rename_i e hu
    injection h with h; subst h
    simp only [CR] at hx; subst hx
    exact ⟨_, by simp [Builtin.len_, run_underlying hu, goInt], rfl⟩
  · rename_i e _ _ hu
    injection h with h; subst h
    simp only [CR] at hx; obtain ⟨L, a, c, _, rfl, _⟩ := hx
    exact ⟨_, by simp [Builtin.len_, run_underlying hu, goInt], rfl⟩
  · rename_i e _ _ n _ _ hu
    injection h with h; subst h
    simp only [CR] at hx; obtain ⟨L, _, rfl⟩ := hx
    exact ⟨_, by simp [Builtin.len_, run_underlying hu, goInt], rfl⟩
  · cases h
theorem aCapT_spec {m : M} {t ty : TypeId} {x v : AV} (h : aCapT t x = some v) {u : Value} (hx : CR m x u) (tys : List TypeId) (w : World) :
    ∃ y, (Builtin.cap_ (t :: tys).toArray ty #[u]).run PP w = .ok y w ∧ CR m v y := by
  unfold aCapT at h
  split at h
  · rename_i e hu
    injection h with h; subst h
    simp only [CR] at hx; subst hx
    exact ⟨_, by simp [Builtin.cap_, run_underlying hu, goInt], rfl⟩
  · rename_i e _ _ _ n hu
    injection h with h; subst h
    simp only [CR] at hx; obtain ⟨L, _, rfl⟩ := hx
    exact ⟨_, by simp [Builtin.cap_, run_underlying hu, goInt], rfl⟩
  · cases h
theorem aMax_spec {m : M} {l : List AV} {v : AV} (h : aMinMax true l = some v) {us : List Value} (hx : CRL m l us) (tys : Array TypeId) (ty : TypeId) (w : World) :
    ∃ y, (Builtin.max_ tys ty us.toArray).run PP w = .ok y w ∧ CR m v y := by
  unfold aMinMax at h
  split at h
  · injection h with h; subst h
    simp only [CRL, CR] at hx
    obtain ⟨_, _, rfl, rfl, _, _, rfl, rfl, rfl⟩ := hx
    exact ⟨_, by simp [Builtin.max_, Builtin.max2], rfl⟩
  · cases h
theorem aMin_spec {m : M} {l : List AV} {v : AV} (h : aMinMax false l = some v) {us : List Value} (hx : CRL m l us) (tys : Array TypeId) (ty : TypeId) (w : World) :
    ∃ y, (Builtin.min_ tys ty us.toArray).run PP w = .ok y w ∧ CR m v y := by
  unfold aMinMax at h
  split at h
  · injection h with h; subst h
    simp only [CRL, CR] at hx
    obtain ⟨_, _, rfl, rfl, _, _, rfl, rfl, rfl⟩ := hx
    exact ⟨_, by simp [Builtin.min_, Builtin.min2], rfl⟩
  · cases h

/-- what a step may come to -/
def ResOk (F G : Nat → Prop) (m : M) (S : St) (w : World) (s : Sem Next) : Res → Prop
  | .no => True
  | .val v S' => ∃ m' w' u, Ev F G m m' S S' w w' ∧ CR m' v u ∧ (s.run PP w = .ok (.value u) w' ∨ (s.run PP w = .ok .skip w' ∧ u = undef))
  | .enter (.fn f) args S' => ∃ vs, CRL m args vs ∧ s.run PP w = .ok (.enter f vs.toArray) w ∧ S' = S
  | .enter (.yd id) args S' => ∃ vs L, CRL m args vs ∧ m id = some L ∧ s.run PP w = (Instr.yield L.blk vs.toArray).run PP w ∧ S' = S
def ResAb (S : St) : Res → Prop
  | .no => True
  | .val _ S' => Ab S S'
  | .enter _ _ S' => S' = S
def ResSt (S : St) : Res → St
  | .no => S
  | .val _ S' => S'
  | .enter _ _ S' => S'
/-- an operation of the runner stands for one of the model -/
def Stands (S : St) (r : Res) (P : (F G : Nat → Prop) → (m : M) → (w : World) → Prop) : Prop :=
  ResAb S r ∧ ∀ (F G : Nat → Prop) (m : M) (w : World), Fits F G (ResSt S r) → Free m S (ResSt S r) → Rel F m S.h w → P F G m w

theorem run_v {s : Sem Value} {w w' : World} {u : Value} (h : s.run PP w = .ok u w') : (do pure (Next.value (← s)) : Sem Next).run PP w = .ok (.value u) w' := by
  simp only [Sem.run_bind, h, Result.andThen_ok, Sem.run_pure]
theorem run_u {s : Sem Unit} {w w' : World} (h : s.run PP w = .ok () w') : (do s; pure Next.skip : Sem Next).run PP w = .ok .skip w' := by
  simp only [Sem.run_bind, h, Result.andThen_ok, Sem.run_pure]

theorem asVal_ab {x : Option AV} {S : St} : ResAb S (asVal x S) := by
  cases x with
  | none => trivial
  | some v => exact Ab.rfl
theorem asVal_ok {F G : Nat → Prop} {m : M} {S : St} {w : World} {x : Option AV} {s : Sem Value} (hr : Rel F m S.h w) (h : ∀ v, x = some v → ∃ y, s.run PP w = .ok y w ∧ CR m v y) :
    ResOk F G m S w (do pure (.value (← s))) (asVal x S) := by
  cases x with
  | none => trivial
  | some v =>
    obtain ⟨y, h1, h2⟩ := h v rfl
    exact ⟨m, w, y, Ev.rfl hr, h2, .inl (run_v h1)⟩
theorem asValS_ab {x : Option (AV × St)} {S : St} (h : ∀ v S', x = some (v, S') → Ab S S') : ResAb S (asValS x) := by
  cases x with
  | none => trivial
  | some p => exact h p.1 p.2 rfl
theorem asValS_ok {F G : Nat → Prop} {m : M} {S : St} {w : World} {x : Option (AV × St)} {s : Sem Value} (hf : Fits F G (ResSt S (asValS x))) (hfree : Free m S (ResSt S (asValS x))) (h : ∀ v S', x = some (v, S') → Fits F G S' → Free m S S' → VOk F G m S S' w s v) :
    ResOk F G m S w (do pure (.value (← s))) (asValS x) := by
  cases x with
  | none => trivial
  | some p =>
    obtain ⟨m', w', u, h1, h2, h3⟩ := h p.1 p.2 rfl hf hfree
    exact ⟨m', w', u, h1, h3, .inl (run_v h2)⟩

theorem aMethod_spec {t : TypeId} {v r : AV} {name : String} {f : FuncId} (h : aMethod t v name = some (f, r)) :
    r = v ∧ ∀ (k : Nat) (u : Value) (w : World), (method (k + 1) t u name).run PP w = .ok (f, u) w ∧ (nilAhead (k + 1) t u name).run PP w = .ok (some false) w := by
  unfold aMethod at h
  split at h
  · cases h
  · rename_i info hi
    have hti : ∀ w, (typeInfo t).run PP w = .ok info w := fun w => by simp [typeInfo, hi]
    split at h
    · cases h
    · rename_i mm hm
      split at h
      · rename_i f' pr hp hf
        have hpe : mm.path.isEmpty = true := by
          have : mm.path = #[] := by apply Array.ext'; simpa using hp
          rw [this]; rfl
        split at h
        · rename_i e hu
          injection h with h; injection h with h1 h2; subst h1
          refine ⟨h2.symm, fun k u w => ⟨?_, ?_⟩⟩
          · simp [method, hti, hm, hp, follow, hf, receiverAt, run_underlying hu, Place.get]
          · simp [nilAhead, hti, hm, hp, followBlind, hf]
        · cases h
        · rename_i d hn hu
          injection h with h; injection h with h1 h2; subst h1
          refine ⟨h2.symm, fun k u w => ⟨?_, ?_⟩⟩
          · simp only [method, Sem.run_bind, hti, Result.andThen_ok, hm, hp, follow, Sem.run_pure, hf, receiverAt, run_underlying hu, Place.get]
          · simp only [nilAhead, Sem.run_bind, hti, Result.andThen_ok, hm, hp, followBlind, Sem.run_pure, hf, run_underlying hu]
            cases d <;> first | (exact absurd rfl (hn _)) | rfl
        · cases h
      · cases h
theorem depth_succ : ∃ k, PP.types.size + Made.depth = k + 1 := ⟨PP.types.size + 99, rfl⟩

theorem aNil_spec {m : M} {x v : AV} (h : aNil x = some v) {u : Value} (hx : CR m x u) (o : Operand) (d : Option Tmp) (ty : TypeId) (pos : String) (af : Array Edge) (gd : Option (Nat × Bool)) (ρ : Operand → Value) (hρ : ρ o = u) (w : World) :
    (execOp ρ ⟨d, .nilCheck o, ty, pos, af, gd⟩).run PP w = .ok (.value u) w ∧ CR m v u := by
  subst hρ
  unfold aNil at h
  split at h
  · injection h with h; subst h
    refine ⟨?_, hx⟩
    simp only [CR] at hx
    obtain ⟨L, _, e⟩ := hx
    simp only [execOp, e, Sem.run_pure]
  · injection h with h; subst h
    refine ⟨?_, hx⟩
    simp only [CR] at hx
    obtain ⟨L, _, e⟩ := hx
    simp only [execOp, e, Sem.run_pure]
  · injection h with h; subst h
    refine ⟨?_, hx⟩
    simp only [CR] at hx
    simp only [execOp, hx, Sem.run_pure]
  · injection h with h; subst h
    refine ⟨?_, hx⟩
    simp only [CR] at hx
    obtain ⟨L, a, c, _, e, _⟩ := hx
    simp only [execOp, e, Sem.run_pure]
  · injection h with h; subst h
    refine ⟨?_, hx⟩
    simp only [CR] at hx
    obtain ⟨y, e, _⟩ := hx
    simp only [execOp, e, Sem.run_pure]
  · injection h with h; subst h
    refine ⟨?_, hx⟩
    simp only [CR] at hx
    obtain ⟨a, c, e, _⟩ := hx
    simp only [execOp, e, Sem.run_pure]
  · injection h with h; subst h
    refine ⟨?_, hx⟩
    simp only [CR] at hx
    obtain ⟨L, _, e⟩ := hx
    simp only [execOp, e, Sem.run_pure]
  · rename_i name t x' l cap
    split at h
    · rename_i f r hm
      injection h with h; subst h
      refine ⟨?_, hx⟩
      simp only [CR] at hx
      obtain ⟨xs, ys, e, h1, h2⟩ := hx
      simp only [CRL, CR] at h1
      obtain ⟨_, rest, rfl, ⟨y, rfl, hy⟩, _⟩ := h1
      obtain ⟨_, hmm⟩ := aMethod_spec hm
      obtain ⟨k, hk⟩ := depth_succ
      have := (hmm k y w).2
      rw [← hk] at this
      simp [execOp, e, this]
    · cases h
  · cases h

theorem callable_spec {f : FuncId} (h : callable f = true) (args : Array Value) (w : World) : (callFunc f args).run PP w = .ok (.enter f args) w := by
  unfold callable at h
  split at h
  · rename_i fn hf
    simp only [Bool.and_eq_true, bne_iff_ne, ne_eq] at h
    have h1 : (fn.name == "runtime.NumGoroutine") = false := by simpa using h.1
    have h2 : fn.body.isNone = false := by simpa using h.2
    simp only [callFunc, Sem.run_bind, run_program, Result.andThen_ok, hf, h1, h2, Bool.false_eq_true, if_false, Sem.run_pure]
  · cases h

theorem aEnter_ok {F G : Nat → Prop} {m : M} {S : St} {w : World} {f : FuncId} {args : List AV} {vs : List Value} (hc : CRL m args vs) : ResOk F G m S w (callFunc f vs.toArray) (aEnter f args S) := by
  unfold aEnter
  cases hb : callable f with
  | true => exact ⟨vs, hc, callable_spec hb _ _, rfl⟩
  | false => trivial
theorem aEnter_ab {S : St} {f : FuncId} {args : List AV} : ResAb S (aEnter f args S) := by
  unfold aEnter
  cases callable f <;> first | trivial | rfl
theorem aInvoke_ab {S : St} {x : AV} {name : String} {args : List AV} : ResAb S (aInvoke x name args S) := by
  unfold aInvoke
  split
  · split
    · exact aEnter_ab
    · trivial
  · trivial
theorem ResOk.of_run {F G : Nat → Prop} {m : M} {S : St} {w : World} {s s' : Sem Next} {r : Res} (h : s.run PP w = s'.run PP w) (hk : ResOk F G m S w s' r) : ResOk F G m S w s r := by
  cases r with
  | no => trivial
  | val v S' => simpa only [ResOk, h] using hk
  | enter g a S' => cases g <;> simpa only [ResOk, h] using hk

theorem aInvoke_ok {F G : Nat → Prop} {m : M} {S : St} {w : World} {x : AV} {u : Value} {name : String} {args : List AV} {vs : List Value} (hx : CR m x u) (hc : CRL m args vs) :
    ResOk F G m S w (callMethod u name vs.toArray) (aInvoke x name args S) := by
  unfold aInvoke
  split
  · rename_i t v
    simp only [CR] at hx
    obtain ⟨y, rfl, hy⟩ := hx
    split
    · rename_i f r hm
      obtain ⟨rfl, hmm⟩ := aMethod_spec hm
      obtain ⟨k, hk⟩ := depth_succ
      have h1 := (hmm k y w).1
      rw [← hk] at h1
      have h2 := aEnter_ok (F := F) (G := G) (S := S) (w := w) (f := f) (args := r :: args) (vs := y :: vs) ⟨y, vs, rfl, hy, hc⟩
      have hsem : (callMethod (.iface t y) name vs.toArray).run PP w = (callFunc f (y :: vs).toArray).run PP w := by
        simp only [callMethod, Sem.run_bind, run_program, Result.andThen_ok, h1]
        congr 2
        simp
      generalize hq : aEnter f (r :: args) S = q at h2 ⊢
      exact ResOk.of_run hsem h2
    · trivial
  · trivial
theorem Stands.of_val {S : St} {x : Option AV} {P : (F G : Nat → Prop) → (m : M) → (w : World) → Prop} (h : ∀ F G m w, Rel F m S.h w → P F G m w) : Stands S (asVal x S) P :=
  ⟨asVal_ab, fun F G m w _ _ hr => h F G m w hr⟩
theorem Stands.no {S : St} {P : (F G : Nat → Prop) → (m : M) → (w : World) → Prop} (h : ∀ F G m w, P F G m w) : Stands S .no P := ⟨trivial, fun F G m w _ _ _ => h F G m w⟩
theorem Stands.same {S : St} {r : Res} {P : (F G : Nat → Prop) → (m : M) → (w : World) → Prop} (ha : ResAb S r) (h : ∀ F G m w, Rel F m S.h w → P F G m w) : Stands S r P := ⟨ha, fun F G m w _ _ hr => h F G m w hr⟩

theorem appT_st {t u : TypeId} {s x : AV} {S : St} : Stands S (appT (PP.underlying u) t s x S) fun F G m w => ∀ (ty : TypeId) (cs : Array Bool) (us ux : Value), CR m s us → CR m x ux →
    ResOk F G m S w (builtin .append #[t, u] ty cs #[us, ux]) (appT (PP.underlying u) t s x S) := by
  generalize hu : PP.underlying u = d
  unfold appT
  split
  · exact Stands.no fun _ _ _ _ _ _ _ _ _ _ => trivial
  · rename_i d' hn
    refine ⟨asValS_ab fun v S' h => (aAppend_spec (ty := 0) hu (fun k e => hn k (by rw [e])) h).1, fun F G m w hf hfree hr ty cs us ux hs hx => ?_⟩
    exact asValS_ok hf hfree fun v S' h f1 f2 => (aAppend_spec (ty := ty) hu (fun k e => hn k (by rw [e])) h).2 F G m w us ux f1 f2 hr hs hx
  · exact Stands.no fun _ _ _ _ _ _ _ _ _ _ => trivial
theorem aBuiltin_st {b : Builtin} {tys : List TypeId} {args : List AV} {S : St} : Stands S (aBuiltin b tys args S) fun F G m w => ∀ (ty : TypeId) (cs : Array Bool) (vs : List Value), CRL m args vs →
    ResOk F G m S w (builtin b tys.toArray ty cs vs.toArray) (aBuiltin b tys args S) := by
  unfold aBuiltin
  split
  · unfold bLen
    split
    · rename_i t tys x
      generalize hu : PP.underlying t = d
      unfold lenM
      split
      · rename_i kt e
        refine ⟨asValS_ab fun v S' h => (aMapLen_spec hu h tys 0).1, fun F G m w hf hfree hr ty cs vs hc => ?_⟩
        simp only [CRL] at hc
        obtain ⟨u, _, rfl, hx, rfl⟩ := hc
        exact asValS_ok hf hfree fun v S' h f1 f2 => (aMapLen_spec hu h tys ty).2 F G m w u f1 f2 hr hx
      · refine Stands.of_val fun F G m w hr ty cs vs hc => ?_
        simp only [CRL] at hc
        obtain ⟨u, _, rfl, hx, rfl⟩ := hc
        exact asVal_ok hr fun v h => aLenT_spec h hx _ w
    · exact Stands.no fun _ _ _ _ _ _ _ _ => trivial
  · unfold bCap
    split
    · refine Stands.of_val fun F G m w hr ty cs vs hc => ?_
      simp only [CRL] at hc
      obtain ⟨u, _, rfl, hx, rfl⟩ := hc
      exact asVal_ok hr fun v h => aCapT_spec h hx _ w
    · exact Stands.no fun _ _ _ _ _ _ _ _ => trivial
  · unfold bAppend
    split
    · obtain ⟨h1, h2⟩ := appT_st
      refine ⟨h1, fun F G m w hf hfree hr ty cs vs hc => ?_⟩
      simp only [CRL] at hc
      obtain ⟨us, _, rfl, hs, ux, _, rfl, hx, rfl⟩ := hc
      exact h2 F G m w hf hfree hr ty cs us ux hs hx
    · exact Stands.no fun _ _ _ _ _ _ _ _ => trivial
  · unfold bCopy
    split
    · rename_i t t' d x
      refine ⟨asValS_ab fun v S' h => (aCopy_spec (tX := t') (ty := 0) h).1, fun F G m w hf hfree hr ty cs vs hc => ?_⟩
      simp only [CRL] at hc
      obtain ⟨us, _, rfl, hs, ux, _, rfl, hx, rfl⟩ := hc
      exact asValS_ok hf hfree fun v S' h f1 f2 => (aCopy_spec (ty := ty) h).2 F G m w us ux f1 f2 hr hs hx
    · exact Stands.no fun _ _ _ _ _ _ _ _ => trivial
  · unfold bDelete
    split
    · rename_i t tys x k
      unfold unitR
      cases hd : aMapDel t x k S with
      | none => exact Stands.no fun _ _ _ _ _ _ _ _ => trivial
      | some S' =>
        obtain ⟨ab, _⟩ := aMapDel_spec hd tys 0
        refine ⟨ab, fun F G m w hf hfree hr ty cs vs hc => ?_⟩
        simp only [CRL] at hc
        obtain ⟨us, _, rfl, hs, ux, _, rfl, hx, rfl⟩ := hc
        obtain ⟨w', ev, hrun⟩ := (aMapDel_spec hd tys ty).2 F G m w us ux hf hfree hr hs hx
        exact ⟨m, w', .tuple #[], ev, ⟨[], rfl, rfl⟩, .inl (run_v hrun)⟩
    · exact Stands.no fun _ _ _ _ _ _ _ _ => trivial
  · exact Stands.of_val fun F G m w hr ty cs vs hc => asVal_ok hr fun v h => aMax_spec h hc _ _ w
  · exact Stands.of_val fun F G m w hr ty cs vs hc => asVal_ok hr fun v h => aMin_spec h hc _ _ w
  · exact Stands.no fun _ _ _ _ _ _ _ _ => trivial

theorem CRL.append_inv {m : M} {l : List AV} {vs : List Value} (x : AV) (h : CRL m (x :: l) vs) : ∃ v r, vs = v :: r ∧ CR m x v ∧ CRL m l r := h

theorem aCall_st {c : Call} {tm : T AV} {S : St} {nt : Nat} : Stands S (aCall c tm S) fun F G m w => ∀ (a : Act) (ty : TypeId), Tm m nt tm a →
    ResOk F G m S w (do let d ← resolve a.eval c ty; invoke d.target d.args) (aCall c tm S) := by
  unfold aCall
  split
  · exact Stands.no fun _ _ _ _ _ _ _ => trivial
  · rename_i args hargs
    have hvs : ∀ {m : M} {a : Act}, Tm m nt tm a → CRL m args (c.args.toList.map a.eval) := fun ht => evalL_spec ht hargs
    obtain ⟨callee, cargs, ctys⟩ := c
    simp only at hvs ⊢
    unfold aCallee
    split
    · rename_i b
      obtain ⟨h1, h2⟩ := aBuiltin_st (b := b) (tys := ctys.toList) (args := args) (S := S)
      refine ⟨h1, fun F G m w hf hfree hr a ty ht => ?_⟩
      refine ResOk.of_run ?_ (h2 F G m w hf hfree hr ty (cargs.map fun | .const _ => true | _ => false) _ (hvs ht))
      simp only [resolve, Sem.run_bind, Sem.run_pure, Result.andThen_ok, invoke, Array.toArray_toList]
      congr 2
      apply Array.ext'; simp
    · rename_i r name
      refine Stands.same ?_ fun F G m w hr a ty ht => ?_
      · unfold aCallI
        split
        · exact aInvoke_ab
        · trivial
      · unfold aCallI
        split
        · rename_i rv hrv
          refine ResOk.of_run ?_ (aInvoke_ok (evalO_spec hrv ht) (hvs ht))
          have e3 : (#[a.eval r] ++ cargs.map a.eval) = (a.eval r :: cargs.toList.map a.eval).toArray := by apply Array.ext'; simp
          simp only [resolve, Sem.run_bind, Sem.run_pure, Result.andThen_ok, invoke, e3]
          have e4 : (cargs.toList.map a.eval).take cargs.size = cargs.toList.map a.eval := List.take_of_length_le (by simp)
          simp [e4]
        · trivial
    · rename_i fo
      refine Stands.same ?_ fun F G m w hr a ty ht => ?_
      · unfold aCallV
        split
        · exact aEnter_ab
        · split
          · exact aInvoke_ab
          · trivial
        · rfl
        · trivial
      · unfold aCallV
        split
        · rename_i g first cap hfo
          have hx := evalO_spec hfo ht
          simp only [CR] at hx
          obtain ⟨xs, ys, e, h1, h2⟩ := hx
          refine ResOk.of_run ?_ (aEnter_ok ((h1.append (hvs ht)).append h2))
          simp only [resolve, e, Deferred.ofValue, Sem.run_bind, Sem.run_pure, Result.andThen_ok, invoke]
          congr 2
          apply Array.ext'; simp
        · rename_i name first cap hfo
          have hx := evalO_spec hfo ht
          simp only [CR] at hx
          obtain ⟨xs, ys, e, h1, h2⟩ := hx
          have h3 := h1.append (hvs ht)
          split
          · rename_i r rest hrr
            rw [hrr] at h3
            obtain ⟨v, rs, e2, h4, h5⟩ := h3.append_inv
            refine ResOk.of_run ?_ (aInvoke_ok h4 h5)
            have e3 : (xs.toArray ++ cargs.map a.eval) = (v :: rs).toArray := by rw [← e2]; apply Array.ext'; simp
            simp only [resolve, e, Deferred.ofValue, Sem.run_bind, Sem.run_pure, Result.andThen_ok, invoke, e3]
            simp
          · trivial
        · rename_i id hfo
          have hx := evalO_spec hfo ht
          simp only [CR] at hx
          obtain ⟨L, hL, e⟩ := hx
          refine ⟨_, L, hvs ht, hL, ?_, rfl⟩
          simp only [resolve, e, Deferred.ofValue, Sem.run_bind, Sem.run_pure, Result.andThen_ok, invoke]
          congr 2
          apply Array.ext'; simp
        · trivial

/-! all operations -/
theorem on1_st {g : AV → Option AV} {o : Operand} {tm : T AV} {S : St} {nt : Nat} {sem : Value → Sem Value} (h : ∀ (m : M) (x v : AV) (u : Value) (w : World), g x = some v → CR m x u → ∃ y, (sem u).run PP w = .ok y w ∧ CR m v y) :
    Stands S (on1 g (evalO o tm) S) fun F G m w => ∀ (a : Act), Tm m nt tm a → ResOk F G m S w (do pure (.value (← sem (a.eval o)))) (on1 g (evalO o tm) S) := by
  unfold on1
  split
  · rename_i x hx
    exact Stands.of_val fun F G m w hr a ht => asVal_ok hr fun v hv => h m x v _ w hv (evalO_spec hx ht)
  · exact Stands.no fun _ _ _ _ _ _ => trivial
theorem on2_st {g : AV → AV → Option AV} {o o' : Operand} {tm : T AV} {S : St} {nt : Nat} {sem : Value → Value → Sem Value} (h : ∀ (m : M) (x y v : AV) (u u' : Value) (w : World), g x y = some v → CR m x u → CR m y u' → ∃ z, (sem u u').run PP w = .ok z w ∧ CR m v z) :
    Stands S (on2 g (evalO o tm) (evalO o' tm) S) fun F G m w => ∀ (a : Act), Tm m nt tm a → ResOk F G m S w (do pure (.value (← sem (a.eval o) (a.eval o')))) (on2 g (evalO o tm) (evalO o' tm) S) := by
  unfold on2
  split
  · rename_i x y hx hy
    exact Stands.of_val fun F G m w hr a ht => asVal_ok hr fun v hv => h m x y v _ _ w hv (evalO_spec hx ht) (evalO_spec hy ht)
  · exact Stands.no fun _ _ _ _ _ _ => trivial
theorem on1S_st {g : AV → St → Option (AV × St)} {o : Operand} {tm : T AV} {S : St} {nt : Nat} {sem : Value → Sem Value} (ha : ∀ x v S', g x S = some (v, S') → Ab S S')
    (h : ∀ x v S', g x S = some (v, S') → ∀ (F G : Nat → Prop) (m : M) (w : World) (u : Value), Fits F G S' → Free m S S' → Rel F m S.h w → CR m x u → VOk F G m S S' w (sem u) v) :
    Stands S (on1S g (evalO o tm) S) fun F G m w => ∀ (a : Act), Tm m nt tm a → ResOk F G m S w (do pure (.value (← sem (a.eval o)))) (on1S g (evalO o tm) S) := by
  unfold on1S
  split
  · rename_i x hx
    exact ⟨asValS_ab fun v S' e => ha x v S' e, fun F G m w hf hfree hr a ht => asValS_ok hf hfree fun v S' e f1 f2 => h x v S' e F G m w _ f1 f2 hr (evalO_spec hx ht)⟩
  · exact Stands.no fun _ _ _ _ _ _ => trivial
theorem onP_st {g : List (Nat × AV) → St → Option (AV × St)} {ps : List (Nat × Operand)} {tm : T AV} {S : St} {nt : Nat} {sem : Array (Nat × Value) → Sem Value} (ha : ∀ x v S', g x S = some (v, S') → Ab S S')
    (h : ∀ x v S', g x S = some (v, S') → ∀ (F G : Nat → Prop) (m : M) (w : World) (us : List (Nat × Value)), Fits F G S' → Free m S S' → Rel F m S.h w → CRP m x us → VOk F G m S S' w (sem us.toArray) v) :
    Stands S (onP g (evalP ps tm) S) fun F G m w => ∀ (a : Act), Tm m nt tm a → ResOk F G m S w (do pure (.value (← sem (ps.map fun (i, x) => (i, a.eval x)).toArray))) (onP g (evalP ps tm) S) := by
  unfold onP
  split
  · rename_i x hx
    exact ⟨asValS_ab fun v S' e => ha x v S' e, fun F G m w hf hfree hr a ht => asValS_ok hf hfree fun v S' e f1 f2 => h x v S' e F G m w _ f1 f2 hr (evalP_spec ht hx)⟩
  · exact Stands.no fun _ _ _ _ _ _ => trivial

theorem Stands.mono {S : St} {r : Res} {P Q : (F G : Nat → Prop) → (m : M) → (w : World) → Prop} (h : Stands S r P) (k : ∀ F G m w, P F G m w → Q F G m w) : Stands S r Q :=
  ⟨h.1, fun F G m w a b c => k F G m w (h.2 F G m w a b c)⟩

def StR (nt : Nat) (tm : T AV) (S : St) (sem : Act → Sem Next) (r : Res) : Prop :=
  Stands S r fun F G m w => ∀ (a : Act), Tm m nt tm a → ResOk F G m S w (sem a) r
def OpSt (nt : Nat) (o : Oper) (tm : T AV) (S : St) : Prop := StR nt tm S (fun a => execOp a.eval o) (aOp o.op tm S)
theorem StR.no {nt : Nat} {tm : T AV} {S : St} {sem : Act → Sem Next} : StR nt tm S sem .no := Stands.no fun _ _ _ _ _ _ => trivial

theorem map3_st {nt : Nat} {tm : T AV} {S : St} {t : TypeId} {x k y : Operand} : StR nt tm S (fun a => (do Instr.mapUpdate t (a.eval x) (a.eval k) (a.eval y); pure .skip : Sem Next)) (opMap3 t (evalO x tm) (evalO k tm) (evalO y tm) S) := by
  unfold opMap3
  split
  · rename_i x' k' y' hx hk hy
    unfold unitR
    cases hd : aMapSet t x' k' y' S with
    | none => exact StR.no
    | some S' =>
      obtain ⟨ab, hs⟩ := aMapSet_spec hd
      refine ⟨ab, fun F G m w hf hfree hr a ht => ?_⟩
      obtain ⟨w', ev, hrun⟩ := hs F G m w _ _ _ hf hfree hr (evalO_spec hx ht) (evalO_spec hk ht) (evalO_spec hy ht)
      exact ⟨m, w', undef, ev, ⟨[], rfl, rfl⟩, .inr ⟨run_u hrun, rfl⟩⟩
  · exact StR.no
theorem aOp_st (nt : Nat) (o : Oper) (tm : T AV) (S : St) : OpSt nt o tm S := by
  obtain ⟨dst, op, ty, pos, af, gd⟩ := o
  unfold OpSt StR
  have hno : ∀ {P : (F G : Nat → Prop) → (m : M) → (w : World) → Prop}, (∀ F G m w, P F G m w) → Stands S .no P := Stands.no
  cases op
  case move x => exact Stands.of_val fun F G m w hr a ht => ResOk.of_run rfl (asVal_ok (s := pure (a.eval x)) hr fun v h => ⟨_, rfl, evalO_spec h ht⟩)
  case assign x => exact Stands.of_val fun F G m w hr a ht => ResOk.of_run rfl (asVal_ok (s := pure (a.eval x)) hr fun v h => ⟨_, rfl, evalO_spec h ht⟩)
  case pick c x y =>
    show StR nt tm S _ (opPick c x y tm S)
    unfold opPick
    split
    · rename_i t hc
      cases t with
      | true =>
        show StR nt tm S _ (asVal (evalO x tm) S)
        refine Stands.of_val fun F G m w hr a ht => ?_
        have hcc := evalO_spec hc ht
        simp only [CR] at hcc
        refine ResOk.of_run ?_ (asVal_ok (s := pure (a.eval x)) hr fun v h => ⟨_, rfl, evalO_spec h ht⟩)
        simp [execOp, hcc, asBool]
      | false =>
        show StR nt tm S _ (asVal (evalO y tm) S)
        refine Stands.of_val fun F G m w hr a ht => ?_
        have hcc := evalO_spec hc ht
        simp only [CR] at hcc
        refine ResOk.of_run ?_ (asVal_ok (s := pure (a.eval y)) hr fun v h => ⟨_, rfl, evalO_spec h ht⟩)
        simp [execOp, hcc, asBool]
    · exact StR.no
  case alloc e =>
    exact ⟨asValS_ab fun v S' h => (opAlloc_spec h).1, fun F G m w hf hfree hr a ht => asValS_ok hf hfree fun v S' h f1 f2 => (opAlloc_spec h).2 F G m w f1 f2 hr⟩
  case box e x =>
    exact on1S_st (sem := Instr.box e) (fun x v S' h => (opBox_spec h).1) fun x v S' h F G m w u f1 f2 hr hx => (opBox_spec h).2 F G m w e u f1 f2 hr hx
  case build t ps =>
    refine (onP_st (nt := nt) (sem := Instr.build t) (ps := ps.toList) (fun x v S' h => ?_) fun x v S' h F G m w us f1 f2 hr hx => ?_).mono fun F G m w k a ht => ResOk.of_run ?_ (k a ht)
    · unfold opBuild at h
      split at h
      · injection h with h; injection h with h1 h2; subst h2; exact Ab.rfl
      · cases h
    · unfold opBuild at h
      split at h
      · rename_i v' hv
        injection h with h; injection h with h1 h2; subst h2; subst h1
        obtain ⟨u, h1, h2⟩ := aBuild_spec hv hx w
        exact ⟨m, w, u, Ev.rfl hr, h1, h2⟩
      · cases h
    · have e : (ps.toList.map fun (i, x) => (i, a.eval x)).toArray = ps.map fun (i, x) => (i, a.eval x) := by apply Array.ext'; simp
      rw [e]; rfl
  case buildSlice t len ps =>
    refine (onP_st (nt := nt) (sem := Instr.buildSlice t len) (ps := ps.toList) (fun x v S' h => (aBuildSlice_spec h).1) fun x v S' h F G m w us f1 f2 hr hx => (aBuildSlice_spec h).2 F G m w us f1 f2 hr hx).mono fun F G m w k a ht => ResOk.of_run ?_ (k a ht)
    have e : (ps.toList.map fun (i, x) => (i, a.eval x)).toArray = ps.map fun (i, x) => (i, a.eval x) := by apply Array.ext'; simp
    rw [e]; rfl
  case load t x =>
    exact on1S_st (sem := Instr.loadAt t) (fun x v S' h => aLoad_ab h) fun x v S' h F G m w u f1 f2 hr hx => aLoad_spec h hx f1 hr
  case store t x y =>
    show StR nt tm S _ (opStore t (evalO x tm) (evalO y tm) S)
    unfold opStore
    split
    · rename_i v u hv hu
      split
      · rename_i S' h
        obtain ⟨ab, hs⟩ := aStore_spec h
        refine ⟨ab, fun F G m w hf hfree hr a ht => ?_⟩
        obtain ⟨w', ev, hrun⟩ := hs F G m w _ _ hf hr (evalO_spec hv ht) (evalO_spec hu ht)
        exact ⟨m, w', undef, ev, ⟨[], rfl, rfl⟩, .inr ⟨run_u hrun, rfl⟩⟩
      · exact StR.no
    · exact StR.no
  case nilCheck x =>
    show StR nt tm S _ (on1 aNil (evalO x tm) S)
    unfold on1
    split
    · rename_i y hy
      cases hn : aNil y with
      | none => exact StR.no
      | some v =>
        show StR nt tm S _ (.val v S)
        refine Stands.same Ab.rfl fun F G m w hr a ht => ?_
        obtain ⟨h1, h2⟩ := aNil_spec hn (evalO_spec hy ht) x dst ty pos af gd a.eval rfl w
        exact ⟨m, w, _, Ev.rfl hr, h2, .inl h1⟩
    · exact StR.no
  case binOp bop t x y yt =>
    exact on2_st (sem := fun u u' => do eqGuard bop t x y u u'; binOp bop t u u') fun m x' y' v u u' w h hx hy => aBin_spec h hx hy x y w
  case unOp uop t x => exact on1_st (sem := Op.unary uop) fun m x v u w h hx => aUn_spec h hx w
  case convert s d x =>
    exact on1S_st (sem := convert s d) (fun x v S' h => (aConv_spec h).1) fun x v S' h F G m w u f1 f2 hr hx => (aConv_spec h).2 F G m w u f1 f2 hr hx
  case makeInterface t x => exact on1_st (sem := Instr.makeInterface t) fun m x v u w h hx => opIface_spec h hx w
  case makeFunc fn first cap =>
    show StR nt tm S _ (opFunc fn (evalL first.toList tm) (evalL cap.toList tm) S)
    unfold opFunc
    split
    · rename_i l1 l2 h1 h2
      refine Stands.same Ab.rfl fun F G m w hr a ht => ?_
      refine ⟨m, w, _, Ev.rfl hr, ⟨_, _, rfl, evalL_spec ht h1, evalL_spec ht h2⟩, .inl ?_⟩
      have e1 : (first.toList.map a.eval).toArray = first.map a.eval := by apply Array.ext'; simp
      have e2 : (cap.toList.map a.eval).toArray = cap.map a.eval := by apply Array.ext'; simp
      rw [e1, e2]
      rfl
    · exact StR.no
  case makeSlice t l c =>
    show StR nt tm S _ (opMakeSlice t (evalO l tm) (evalO c tm) S)
    unfold opMakeSlice
    split
    · rename_i x y hx hy
      exact ⟨asValS_ab fun v S' h => (aMakeSlice_spec h).1, fun F G m w hf hfree hr a ht => asValS_ok hf hfree fun v S' h f1 f2 => (aMakeSlice_spec h).2 F G m w _ _ f1 f2 hr (evalO_spec hx ht) (evalO_spec hy ht)⟩
    · exact StR.no
  case slice t x lo hi mx =>
    show StR nt tm S _ (opSlice t (evalO x tm) (evalL lo.toList tm) (evalL hi.toList tm) (evalL mx.toList tm) S)
    unfold opSlice
    split
    · rename_i v l h m' hv hl hh hm
      exact Stands.of_val fun F G m w hr a ht => asVal_ok hr fun v h => aSlice_spec h (evalO_spec hv ht) (CRO_of ht hl) (CRO_of ht hh) (CRO_of ht hm) w
    · exact StR.no
  case makeMap t r =>
    show StR nt tm S _ (opMakeMap t (evalL r.toList tm) S)
    generalize hl : evalL r.toList tm = l
    unfold opMakeMap
    split
    · refine ⟨asValS_ab fun v S' h => (aMakeMap_spec h).1, fun F G m w hf hfree hr a ht => asValS_ok hf hfree fun v S' h f1 f2 => ?_⟩
      obtain ⟨m', ev, hc⟩ := (aMakeMap_spec h).2 F G m w f1 f2 hr
      have hrn : r = none := by
        cases r with
        | none => rfl
        | some o =>
          have hc := evalL_spec ht hl
          simp only [CRL, Option.toList, List.map_cons, List.map_nil] at hc
          cases hc
      subst hrn
      exact ⟨m', _, _, ev, by simp [Instr.makeMap, World.alloc_eq], hc⟩
    · rename_i kk n
      cases hb : (mapT t).isSome with
      | false => exact StR.no
      | true =>
        obtain ⟨q, hq⟩ := Option.isSome_iff_exists.1 hb
        obtain ⟨kt, d, e⟩ := q
        obtain ⟨hu, _⟩ := mapT_spec hq
        show StR nt tm S _ (asValS (aMakeMap S))
        refine ⟨asValS_ab fun v S' h => (aMakeMap_spec h).1, fun F G m w hf hfree hr a ht => asValS_ok hf hfree fun v S' h f1 f2 => ?_⟩
        obtain ⟨m', ev, hc⟩ := (aMakeMap_spec h).2 F G m w f1 f2 hr
        cases r with
        | none => have hcl := evalL_spec ht hl; simp only [CRL, Option.toList, List.map_nil] at hcl; obtain ⟨_, _, hh, _⟩ := hcl; cases hh
        | some o =>
          have hcl := evalL_spec ht hl
          simp only [CRL, Option.toList, List.map_cons, List.map_nil] at hcl
          obtain ⟨y, r', e1, h1, h2⟩ := hcl
          injection e1 with e1 e2
          simp only [CR] at h1
          rw [h1] at e1
          exact ⟨m', _, _, ev, by simp [Instr.makeMap, run_underlying hu, e1, asInt, asIntOf, World.alloc_eq], hc⟩
    · exact StR.no
  case lookup t x k ok =>
    show StR nt tm S _ (opGet t ok (evalO x tm) (evalO k tm) S)
    unfold opGet
    split
    · rename_i x' k' hx hk
      exact ⟨asValS_ab fun v S' h => (aMapGet_spec h).1, fun F G m w hf hfree hr a ht => asValS_ok hf hfree fun v S' h f1 f2 => (aMapGet_spec h).2 F G m w _ _ f1 f2 hr (evalO_spec hx ht) (evalO_spec hk ht)⟩
    · exact StR.no
  case mapUpdate t x k y =>
    show StR nt tm S _ (opMap3 t (evalO x tm) (evalO k tm) (evalO y tm) S)
    exact map3_st
  case insert t x k y =>
    show StR nt tm S _ (opMap3 t (evalO x tm) (evalO k tm) (evalO y tm) S)
    exact map3_st
  case fieldAddr t x k => exact on1_st (sem := fun u => Instr.fieldAt t u k) fun m x v u w h hx => aFieldAt_spec h hx w
  case field t x k => exact on1_st (sem := fun u => Instr.field t u k) fun m x v u w h hx => aField_spec h hx w
  case indexAddr t x ix => exact on2_st (sem := fun u u' => Instr.indexAt t u u') fun m x y v u u' w h hx hy => aIndexAt_spec h hx hy w
  case index t x ix => exact on2_st (sem := fun u u' => Instr.index t u u') fun m x y v u u' w h hx hy => aIndex_spec h hx hy w
  case extract x k => exact on1_st (sem := fun u => Instr.extract u k) fun m x v u w h hx => aExtract_spec h hx w
  case call c => exact (aCall_st (nt := nt)).mono fun F G m w k a ht => ResOk.of_run rfl (k a ty ht)
  all_goals exact hno fun _ _ _ _ _ _ => trivial
end Rn
end Go.Proofs.Ytgfcakdpfedokaa
