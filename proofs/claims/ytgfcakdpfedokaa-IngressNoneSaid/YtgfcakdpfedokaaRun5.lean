/- The runner's appends and copies are the model's. -/
import Derived.Test.YtgfcakdpfedokaaRun4
namespace Go.Proofs.Ytgfcakdpfedokaa
namespace Rn
set_option linter.unusedVariables false
set_option linter.unusedSimpArgs false

theorem aLen_spec {m : M} {x : AV} {n : Nat} {u : Value} (h : aLen x = some n) (hx : CR m x u) (w : World) : (Builtin.lenOf u).run PP w = .ok n w := by
  unfold aLen at h
  split at h <;> first | cases h | skip
  · simp only [CR] at hx; subst hx; simp [Builtin.lenOf]
  · simp only [CR] at hx; obtain ⟨L, a, c, _, rfl, _⟩ := hx; simp [Builtin.lenOf]
  · simp only [CR] at hx; obtain ⟨L, _, rfl⟩ := hx; simp [Builtin.lenOf]
  · simp only [CR] at hx; subst hx; simp [Builtin.lenOf]

theorem bytes_CRL {m : M} : ∀ (l : List UInt8), CRL m (l.map fun b => .i .u8 b.toNat) (l.map fun b => .int .u8 b.toNat)
  | [] => rfl
  | b :: l => ⟨_, _, rfl, rfl, bytes_CRL l⟩

theorem window_len {l r : List AV} {off n : Nat} (e : window l off n = some r) : r.length = n := by
  unfold Rn.window at e
  obtain ⟨hb, e⟩ := cond_some e
  injection e with e
  subst e
  have := ble_spec hb
  simp; omega
theorem Rel.drew {F : Nat → Prop} {m : M} {h : H AObj} {w w1 : World} (hr : Rel F m h w) (hh : w1.heap = w.heap) : Rel F m h w1 :=
  ⟨fun k o hk hF hg => let ⟨L, h1, h2⟩ := hr.obj k o hk hF hg; ⟨L, h1, h2.congr Sub.rfl (by rw [hh])⟩, hr.apart⟩
theorem Ev.from {F G : Nat → Prop} {m m' : M} {S S' : St} {w w1 w' : World} (h : Ev F G m m' S S' w1 w') (hh : w1.heap = w.heap) (ho : w1.os = w.os) (ht : w1.tape = w.tape) (hp : w1.output = w.output) : Ev F G m m' S S' w w' :=
  ⟨h.old, h.sub, h.rel, by rw [← hh]; exact h.size, fun b hb hG => by rw [← hh]; exact h.keep b (by rw [hh]; exact hb) hG, fun k L a b c => by rw [← hh]; exact h.fresh k L a b c, h.os.trans ho, h.tape.trans ht, h.output.trans hp⟩

/-- what is taken of a row -/
theorem aFirst_spec {sz n : Nat} {x : AV} {S S' : St} {new : List AV} (h : aFirst sz n x S = some (new, S')) :
    Ab S S' ∧ S'.h = S.h ∧ S'.nx = S.nx ∧ new.length = n * sz ∧ ∀ (F G : Nat → Prop) (m : M) (w : World) (u : Value), Fits F G S' → Rel F m S.h w → CR m x u →
      ∃ vs, CRL m new vs ∧ (Builtin.firstCells sz n u).run PP w = .ok vs.toArray w ∧ (∀ v ∈ vs, True) := by
  unfold aFirst at h
  split at h
  · have hcs := cond_some h; clear h; obtain ⟨hb, h⟩ := hcs
    injection h with h; injection h with h1 h2; subst h2; subst h1
    have hn := Nat.eq_of_beq_eq_true hb
    subst hn
    refine ⟨Ab.rfl, rfl, rfl, by simp, fun F G m w u hf hr hx => ?_⟩
    simp only [CR] at hx; subst hx
    exact ⟨[], rfl, by simp [Builtin.firstCells], by simp⟩
  · have hcs := cond_some h; clear h; obtain ⟨hb, h⟩ := hcs
    injection h with h; injection h with h1 h2; subst h2; subst h1
    have hn := Nat.eq_of_beq_eq_true hb
    subst hn
    refine ⟨Ab.rfl, rfl, rfl, by simp, fun F G m w u hf hr hx => ?_⟩
    simp only [CR] at hx; obtain ⟨L, a, c, _, rfl, _⟩ := hx
    exact ⟨[], rfl, by simp [Builtin.firstCells, loadCells, loadCellsFrom], by simp⟩
  · rename_i id off len cap op
    split at h
    · rename_i l sz' S1 hl
      split at h
      · rename_i r hw
        injection h with h; injection h with h1 h2; subst h2; subst h1
        obtain ⟨ab, e1, e2, e3, _, e4, _⟩ := look_ab hl
        refine ⟨ab, e1, e2, window_len hw, fun F G m w u hf hr hx => ?_⟩
        simp only [CR] at hx
        obtain ⟨L, hL, rfl⟩ := hx
        obtain ⟨ev, _, hg1, L', hL', pre, xs, post, e, hwb, hp, hc, hext⟩ := look_rel hl hf hr
        rw [hL] at hL'
        injection hL' with hL'
        subst hL'
        obtain ⟨h1, h2, h3⟩ := hc.window hw
        have hlx := hc.length
        refine ⟨_, h3, ?_, by simp⟩
        rw [← hp]
        simp only [Builtin.firstCells]
        exact run_window hwb (by omega)
      · cases h
    · cases h
  · rename_i y
    have hcs := cond_some h; clear h; obtain ⟨hb, h⟩ := hcs
    injection h with h; injection h with h1 h2; subst h2; subst h1
    simp only [Bool.and_eq_true] at hb
    have hn := Nat.eq_of_beq_eq_true hb.1
    have hs := Nat.eq_of_beq_eq_true hb.2
    subst hn; subst hs
    refine ⟨Ab.rfl, rfl, rfl, by rw [List.length_map, Array.length_toList, Nat.mul_one]; rfl, fun F G m w u hf hr hx => ?_⟩
    simp only [CR] at hx; subst hx
    refine ⟨_, bytes_CRL y.data.toList, ?_, by simp⟩
    have he : y.extract 0 y.size = y := ByteArray.extract_zero_size
    simp only [Builtin.firstCells, he, Sem.run_pure]
    congr 1
    apply Array.ext'
    simp
  · cases h

/-- a block goes out of use -/
theorem kill_rel {F G : Nat → Prop} {m : M} {S S' : St} {w : World} {id : Nat} (hid : id < 32768) (h : S.put id none = some S') (hlive : (H.get S.h id).isSome = true) (hr : Rel F m S.h w) :
    Ev F G m m S S' w w := by
  obtain ⟨ab, h1, h2, h3, h4⟩ := put_ab h hid hlive
  have key : ∀ k o, k < 32768 → H.get S'.h k = some o → H.get S.h k = some o := by
    intro k o hk hg
    rw [h1, H.get_set _ _ _ _ hid hk] at hg
    by_cases hkn : k = id
    · rw [if_pos hkn] at hg; cases hg
    · rw [if_neg hkn] at hg; exact hg
  exact ⟨fun _ _ => rfl, Sub.rfl, ⟨fun k o hk hF hg => hr.obj k o hk hF (key k o hk hg), fun k k' o o' L L' hk hk' hF hF' hg hg' => hr.apart k k' o o' L L' hk hk' hF hF' (key k o hk hg) (key k' o' hk' hg')⟩,
    Nat.le_refl _, fun _ _ _ => rfl, fun _ _ a b => by omega, rfl, rfl, rfl⟩

/-- a block goes out of use, and another number takes a part of it over -/
theorem move_rel {F G : Nat → Prop} {m : M} {S S1 S' : St} {w : World} {id id' : Nat} (hid : id < 32768) {o : AObj} (hg : H.get S.h id = some o) (h : S.put id none = some S1) {l : List AV} {sz : Nat} (h' : S1.new (.cells l sz) = some (id', S')) (hf : Fits F G S')
    (hfree : m id' = none) (hr : Rel F m S.h w) {L : Loc} (hL : m id = some L) {old : Array Value} {e : TypeId} (hw : w.heap[L.blk]? = some (.cells old e (0, 0))) {pre xs post : List Value} (hc : CRL m l xs) (ext : Nat) (hext : ext * sz ≤ post.length) :
    let m' : M := fun k => if k = id' then some ⟨L.blk, pre.length, ext⟩ else m k
    Ev F G m m' S S' w (w.setRow L.blk (pre ++ (xs ++ post)).toArray) ∧ m' id' = some ⟨L.blk, pre.length, ext⟩ := by
  intro m'
  obtain ⟨ab, h1, h2, h3, h4⟩ := put_ab h hid (by rw [hg]; rfl)
  obtain ⟨ab', h1', h2', hid', h3', h4', h5'⟩ := new_ab h'
  have hne : id' ≠ id := by rintro rfl; rw [hfree] at hL; cases hL
  have hsub : Sub m m' := fun k K hk => by
    show (if k = id' then _ else _) = _
    rw [if_neg (by rintro rfl; rw [hfree] at hk; cases hk)]; exact hk
  have hheap := setRow_heap w L.blk old (pre ++ (xs ++ post)).toArray e (0, 0) hw
  have hsz : (w.setRow L.blk (pre ++ (xs ++ post)).toArray).heap.size = w.heap.size := by simp [World.setRow]
  have hold : ∀ b, b ≠ L.blk → (w.setRow L.blk (pre ++ (xs ++ post)).toArray).heap[b]? = w.heap[b]? := by
    intro b hb
    simp only [World.setRow, Array.getElem?_modify]
    rw [if_neg (by omega)]
  have hGid := hf.2 id (ab'.wr id h4)
  have get' : ∀ k, k < 32768 → H.get S'.h k = if k = id' then some (.cells l sz) else if k = id then none else H.get S.h k := by
    intro k hk
    rw [h1', H.get_set _ _ _ _ (by omega) hk, h1, H.get_set _ _ _ _ hid hk]
  refine ⟨⟨fun k hk => ?_, hsub, ⟨fun k o hk hF hgk => ?_, fun k k' o o' K K' hk hk' hF hF' hgk hgk' hm hm' hne' => ?_⟩, by omega, fun b hb hG => hold b (fun e => hG id L hGid.2 hL e.symm), fun k K a b hk => ?_, rfl, rfl, rfl⟩, if_pos rfl⟩
  · show (if k = id' then _ else _) = _
    rw [if_neg (by omega)]
  · rw [get' k hk] at hgk
    by_cases hkn : k = id'
    · rw [if_pos hkn] at hgk
      injection hgk with hgk
      subst hgk
      exact ⟨⟨L.blk, pre.length, ext⟩, if_pos hkn, pre, xs, post, e, hheap, rfl, CRL.mono hsub _ _ hc, hext⟩
    · rw [if_neg hkn] at hgk
      by_cases hki : k = id
      · rw [if_pos hki] at hgk; cases hgk
      · rw [if_neg hki] at hgk
        obtain ⟨K, hK, hO⟩ := hr.obj k o hk hF hgk
        exact ⟨K, hsub _ _ hK, hO.congr hsub (hold _ (hr.apart k id o _ K L hk hid hF hGid.1 hgk hg hK hL hki))⟩
  · rw [get' k hk] at hgk
    rw [get' k' hk'] at hgk'
    have hm1 : (if k = id' then some (⟨L.blk, pre.length, ext⟩ : Loc) else m k) = some K := hm
    have hm2 : (if k' = id' then some (⟨L.blk, pre.length, ext⟩ : Loc) else m k') = some K' := hm'
    by_cases hkn : k = id'
    · by_cases hkn' : k' = id'
      · omega
      · rw [if_pos hkn] at hm1
        rw [if_neg hkn'] at hm2 hgk'
        injection hm1 with hm1
        subst hm1
        by_cases hki : k' = id
        · rw [if_pos hki] at hgk'; cases hgk'
        · rw [if_neg hki] at hgk'
          exact fun he => hr.apart k' id o' _ K' L hk' hid hF' hGid.1 hgk' hg hm2 hL hki he.symm
    · by_cases hkn' : k' = id'
      · rw [if_pos hkn'] at hm2
        rw [if_neg hkn] at hm1 hgk
        injection hm2 with hm2
        subst hm2
        by_cases hki : k = id
        · rw [if_pos hki] at hgk; cases hgk
        · rw [if_neg hki] at hgk
          exact hr.apart k id o _ K L hk hid hF hGid.1 hgk hg hm1 hL hki
      · rw [if_neg hkn] at hm1 hgk
        rw [if_neg hkn'] at hm2 hgk'
        by_cases hki : k = id
        · rw [if_pos hki] at hgk; cases hgk
        · by_cases hki' : k' = id
          · rw [if_pos hki'] at hgk'; cases hgk'
          · rw [if_neg hki] at hgk
            rw [if_neg hki'] at hgk'
            exact hr.apart k k' o o' K K' hk hk' hF hF' hgk hgk' hm1 hm2 hne'
  · have hkn : k = id' := by omega
    have hm1 : (if k = id' then some (⟨L.blk, pre.length, ext⟩ : Loc) else m k) = some K := hk
    rw [if_pos hkn] at hm1
    injection hm1 with hm1
    subst hm1
    exact .inr ⟨id, L, hGid.2, hL, rfl⟩

/-! growing -/
theorem growBy_le (n B : Nat) (hB : n + (n + 768) / 4 ≤ B) : ∀ r c, c ≤ B → Builtin.growBy n r c ≤ B
  | 0, c, h => h
  | r + 1, c, h => by
    unfold Builtin.growBy
    split
    · exact h
    · exact growBy_le n B hB r _ (by omega)
theorem nextcap_le (n c : Nat) (h : c < n) : Builtin.nextslicecap n c ≤ 2 * n + 200 := by
  unfold Builtin.nextslicecap
  split
  · omega
  · split
    · omega
    · exact growBy_le n _ (by omega) 4 c (by omega)

theorem bytesT_spec {t : TypeId} {n : Nat} (h : bytesT t = some n) : ∃ i, PP.info? t = some i ∧ i.bytes = n := by
  unfold bytesT at h
  cases hi : PP.info? t with
  | none => rw [hi] at h; cases h
  | some i => rw [hi] at h; exact ⟨i, rfl, by simpa using h⟩

/-- an append that must grow -/
theorem run_append_grow {tS tX ty e : TypeId} {dX : TypeDesc} (hu : PP.underlying tS = some (.slice e)) (hx : PP.underlying tX = some dX) (hd : ∀ k, dX ≠ .int k) {sz by_ : Nat} (hsz : szT e = some sz) (hsz0 : 0 < sz) (hby : bytesT e = some by_) {z : List AV} (hz : zeroT e = some z) (hzl : z.length = sz)
    (base : Option Addr) (sLen sCap n : Nat) (x : Value) (hgrow : sCap < sLen + n) (hbig : (2 * (sLen + n) + 200) * by_ ≤ 2 ^ 48) (hsmall : sLen + n ≤ 1073741824)
    (w : World) (hlen : ∀ w, (Builtin.lenOf x).run PP w = .ok n w) (olds news : List Value)
    (hold : (Builtin.firstCells sz sLen (.slice base sLen sCap)).run PP { w with drawn := w.drawn + 1 } = .ok olds.toArray { w with drawn := w.drawn + 1 })
    (hnew : (Builtin.firstCells sz n x).run PP { w with drawn := w.drawn + 1 } = .ok news.toArray { w with drawn := w.drawn + 1 }) :
    ∃ (ext : Nat) (post : List Value), ext * sz ≤ post.length ∧
      (Builtin.append_ #[tS, tX] ty #[.slice base sLen sCap, x]).run PP w =
        .ok (.slice (some ⟨w.heap.size, 0, none⟩) (sLen + n) (sLen + n + ext)) (World.alloc { w with drawn := w.drawn + 1 } (.cells ((olds ++ news) ++ post).toArray e (0, 0))) := by
  obtain ⟨i, hi, hib⟩ := bytesT_spec hby
  have hti : ∀ w, (typeInfo e).run PP w = .ok i w := fun w => by simp [typeInfo, hi]
  obtain ⟨zv, hzr, hzc⟩ := zeroT_spec hz
  have hzl2 : zv.cells.size = sz := by rw [← Array.length_toList, ← hzl]; exact (hzc fun _ => none).length
  have hdx : (match dX with | .int _ => true | _ => false) = false := by
    cases dX <;> first | rfl | exact absurd rfl (hd _)
  have hneed : ¬ (sLen + n ≤ sCap) := by omega
  have hm : IntKind.i64.max = 9223372036854775807 := by decide
  have h1 : ¬ (((sLen + n : Nat) : Int) > IntKind.i64.max ∧ (False ∨ i.bytes = 0)) := by rw [hm]; omega
  have h2 : ¬ (Builtin.nextslicecap (sLen + n) sCap * i.bytes > 2 ^ 48) := by
    have := nextcap_le (sLen + n) sCap hgrow
    have h3 : Builtin.nextslicecap (sLen + n) sCap * i.bytes ≤ (2 * (sLen + n) + 200) * by_ := by rw [hib]; exact Nat.mul_le_mul_right _ this
    omega
  refine ⟨w.tape w.drawn (.appendCap (sLen + n) sCap e) % (2 ^ 63 - (sLen + n)), (Builtin.zeroCells zv.cells (w.tape w.drawn (.appendCap (sLen + n) sCap e) % (2 ^ 63 - (sLen + n)))).toList, ?_, ?_⟩
  · simp [Builtin.zeroCells, hzl2]
  · have hcut : (Question.appendCap (sLen + n) sCap e).cut (w.tape w.drawn (.appendCap (sLen + n) sCap e)) = sLen + n + w.tape w.drawn (.appendCap (sLen + n) sCap e) % (2 ^ 63 - (sLen + n)) := rfl
    have hfo : (Question.appendCap (sLen + n) sCap e).forced = false := rfl
    have h1' : ¬ (((sLen + n : Nat) : Int) > IntKind.i64.max ∧ (false = true ∨ i.bytes = 0)) := by rw [hm]; omega
    simp only [Builtin.append_, List.getElem?_toArray, List.getElem?_cons_zero, List.getElem?_cons_succ, Sem.run_bind, run_underlying hu, run_underlying hx, Result.andThen_ok, run_sz hsz, Sem.run_pure, hdx,
      Bool.false_eq_true, if_false, hlen, if_neg hneed, hti]
    rw [if_neg (by simpa using h1')]
    simp only [Sem.run_bind, hti, Result.andThen_ok]
    rw [if_neg h2]
    simp only [Sem.run_bind, run_choose, hfo, Bool.false_eq_true, if_false, hcut, Result.andThen_ok, hti, run_askRoom, hold, Bool.not_false, if_true, hnew, hzr, newRow, run_newObj, Sem.run_pure, Nat.add_sub_cancel_left]
    congr 1
    rw [World.alloc]
    congr 3
    apply Array.ext'
    simp
/-- an append that has room -/
theorem run_append_in {tS tX ty e : TypeId} {dX : TypeDesc} (hu : PP.underlying tS = some (.slice e)) (hx : PP.underlying tX = some dX) (hd : ∀ k, dX ≠ .int k) {sz : Nat} (hsz : szT e = some sz)
    (a : Addr) (sLen sCap n : Nat) (x : Value) (hroom : sLen + n ≤ sCap) (w w' : World) (hlen : ∀ w, (Builtin.lenOf x).run PP w = .ok n w) (news : List Value)
    (hnew : (Builtin.firstCells sz n x).run PP w = .ok news.toArray w) (hst : (storeCells (a.add (sLen * sz)) news).run PP w = .ok () w') :
    (Builtin.append_ #[tS, tX] ty #[.slice (some a) sLen sCap, x]).run PP w = .ok (.slice (some a) (sLen + n) sCap) w' := by
  have hdx : (match dX with | .int _ => true | _ => false) = false := by
    cases dX <;> first | rfl | exact absurd rfl (hd _)
  simp only [Builtin.append_, List.getElem?_toArray, List.getElem?_cons_zero, List.getElem?_cons_succ, Sem.run_bind, run_underlying hu, run_underlying hx, Result.andThen_ok, run_sz hsz, Sem.run_pure, hdx,
      Bool.false_eq_true, if_false, hlen, if_pos hroom, Bool.not_false, if_true, hnew, hst]
theorem run_append_nil {tS tX ty e : TypeId} {dX : TypeDesc} (hu : PP.underlying tS = some (.slice e)) (hx : PP.underlying tX = some dX) (hd : ∀ k, dX ≠ .int k) {sz : Nat} (hsz : szT e = some sz)
    (x : Value) (w : World) (hlen : ∀ w, (Builtin.lenOf x).run PP w = .ok 0 w) (news : List Value) (hnew : (Builtin.firstCells sz 0 x).run PP w = .ok news.toArray w) :
    (Builtin.append_ #[tS, tX] ty #[.slice none 0 0, x]).run PP w = .ok (.slice none 0 0) w := by
  have hdx : (match dX with | .int _ => true | _ => false) = false := by
    cases dX <;> first | rfl | exact absurd rfl (hd _)
  simp [Builtin.append_, run_underlying hu, run_underlying hx, run_sz hsz, hdx, hlen, hnew]

/-- the surroundings of an append -/
structure App (tS tX ty e : TypeId) (dX : TypeDesc) (sz by_ : Nat) : Prop where
  hu : PP.underlying tS = some (.slice e)
  hx : PP.underlying tX = some dX
  hd : ∀ k, dX ≠ .int k
  hsz : szT e = some sz
  hsz0 : 0 < sz
  hby : bytesT e = some by_
  hz : ∃ z, zeroT e = some z ∧ z.length = sz

theorem small_spec {by_ need : Nat} (h : small by_ need = true) : need * by_ ≤ 1073741824 ∧ need ≤ 1073741824 := by
  unfold small at h
  simp only [Bool.and_eq_true] at h
  exact ⟨ble_spec h.1, ble_spec h.2⟩
theorem small_big {by_ need : Nat} (h : small by_ need = true) (h0 : 0 < need) : (2 * need + 200) * by_ ≤ 2 ^ 48 ∧ need ≤ 1073741824 := by
  obtain ⟨h1, h2⟩ := small_spec h
  have : (2 * need + 200) * by_ ≤ 202 * (need * by_) := by
    rw [← Nat.mul_assoc]
    exact Nat.mul_le_mul_right _ (by omega)
  exact ⟨by omega, h2⟩

theorem growS_spec {tS tX ty e : TypeId} {dX : TypeDesc} {sz by_ : Nat} (A : App tS tX ty e dX sz by_) {new : List AV} {need : Nat} {S S' : St} {v : AV} (h : growS new sz need S = some (v, S')) :
    Ab S S' ∧ ∀ (F G : Nat → Prop) (m : M) (w : World) (base : Option Addr) (sLen sCap n : Nat) (ux : Value) (olds news : List Value), Fits F G S' → Free m S S' → Rel F m S.h w → CRL m new (olds ++ news) →
      need = sLen + n → sCap < need → (2 * need + 200) * by_ ≤ 2 ^ 48 → need ≤ 1073741824 → (∀ w, (Builtin.lenOf ux).run PP w = .ok n w) →
      (Builtin.firstCells sz sLen (.slice base sLen sCap)).run PP { w with drawn := w.drawn + 1 } = .ok olds.toArray { w with drawn := w.drawn + 1 } →
      (Builtin.firstCells sz n ux).run PP { w with drawn := w.drawn + 1 } = .ok news.toArray { w with drawn := w.drawn + 1 } →
      VOk F G m S S' w (Builtin.append_ #[tS, tX] ty #[.slice base sLen sCap, ux]) v := by
  unfold growS at h
  split at h
  · rename_i id S2 hnew
    injection h with h; injection h with h1 h2; subst h2; subst h1
    unfold aNew at hnew
    obtain ⟨ab2, _, hnx, hid, _⟩ := new_ab hnew
    refine ⟨ab2, fun F G m w base sLen sCap n ux olds news hf hfree hr hc hneed hgrow hbig hsm hlen hold hnews => ?_⟩
    subst hneed
    obtain ⟨z, hz, hzl⟩ := A.hz
    obtain ⟨ext, post, hp1, hp2⟩ := run_append_grow (ty := ty) A.hu A.hx A.hd A.hsz A.hsz0 A.hby hz hzl base sLen sCap n ux hgrow hbig hsm w hlen olds news hold hnews
    obtain ⟨ev, hm⟩ := new_rel hnew hf (hfree id (by omega) (by omega)) (hr.drew (w1 := { w with drawn := w.drawn + 1 }) rfl) hc post ext hp1 e
    exact ⟨_, _, _, ev.from rfl rfl rfl rfl, hp2, ⟨w.heap.size, 0, ext⟩, hm, by simp⟩
  · cases h

theorem appNil_spec {tS tX ty e : TypeId} {dX : TypeDesc} {sz by_ : Nat} (A : App tS tX ty e dX sz by_) {n : Nat} {new : List AV} {S S' : St} {v : AV} (h : appNil sz by_ n new S = some (v, S')) :
    Ab S S' ∧ ∀ (F G : Nat → Prop) (m : M) (w : World) (ux : Value), Fits F G S' → Free m S S' → Rel F m S.h w → (∀ w, (Builtin.lenOf ux).run PP w = .ok n w) →
      (∀ w1 : World, w1.heap = w.heap → ∃ news, CRL m new news ∧ (Builtin.firstCells sz n ux).run PP w1 = .ok news.toArray w1) →
      VOk F G m S S' w (Builtin.append_ #[tS, tX] ty #[.slice none 0 0, ux]) v := by
  unfold appNil at h
  cases hn0 : Nat.beq n 0 with
  | true =>
    rw [hn0] at h
    injection h with h; injection h with h1 h2; subst h2; subst h1
    have hn0 := Nat.eq_of_beq_eq_true hn0
    subst hn0
    refine ⟨Ab.rfl, fun F G m w ux hf hfree hr hlen hfs => ?_⟩
    obtain ⟨news, _, hnews⟩ := hfs w rfl
    exact ⟨m, w, _, Ev.rfl hr, run_append_nil A.hu A.hx A.hd A.hsz ux w hlen news hnews, rfl⟩
  | false =>
    rw [hn0] at h
    have hn0 := Nat.ne_of_beq_eq_false hn0
    simp only [cond_false] at h
    have hcs := cond_some h; clear h; obtain ⟨hb, h⟩ := hcs
    obtain ⟨b1, b2⟩ := small_big hb (by omega)
    obtain ⟨ab, hs⟩ := growS_spec (ty := ty) A h
    refine ⟨ab, fun F G m w ux hf hfree hr hlen hfs => ?_⟩
    obtain ⟨news, hc, hnews⟩ := hfs { w with drawn := w.drawn + 1 } rfl
    exact hs F G m w none 0 0 n ux [] news hf hfree hr hc (by omega) (by omega) b1 b2 hlen (by simp [Builtin.firstCells]) hnews

/-- the room behind a block's known cells -/
theorem killNew_spec {tS tX ty e : TypeId} {dX : TypeDesc} {sz by_ : Nat} (A : App tS tX ty e dX sz by_) {id : Nat} (hid : id < 32768) {l old new : List AV} {need : Nat} {S S' : St} {v : AV} (hg : H.get S.h id = some (.cells l sz)) (h : killNew id (old ++ new) sz need S = some (v, S')) (hflat : new.all AV.flat = true) :
    Ab S S' ∧ ∀ (F G : Nat → Prop) (m : M) (w : World) (L : Loc) (off sLen cap sCap n : Nat) (ux : Value) (olds : List Value), Fits F G S' → Free m S S' → Rel F m S.h w → m id = some L →
      window l off (sLen * sz) = some old → off + cap * sz = l.length → (sCap = cap + L.ext) →
      need = sLen + n → cap < need → (2 * need + 200) * by_ ≤ 2 ^ 48 → need ≤ 1073741824 → (∀ w, (Builtin.lenOf ux).run PP w = .ok n w) →
      (∀ w1 : World, w1.heap = w.heap → ∃ news, CRL m new news ∧ news.length = n * sz ∧ (Builtin.firstCells sz n ux).run PP w1 = .ok news.toArray w1) →
      VOk F G m S S' w (Builtin.append_ #[tS, tX] ty #[.slice (some ⟨L.blk, L.base + off, none⟩) sLen sCap, ux]) v := by
  unfold killNew at h
  split at h
  · rename_i S1 hput
    obtain ⟨ab1, hh1, hn1, _, _⟩ := put_ab hput hid (by rw [hg]; rfl)
    have h' := h
    obtain ⟨ab2, hs⟩ := growS_spec (ty := ty) A h
    refine ⟨ab1.trans ab2, fun F G m w L off sLen cap sCap n ux olds hf hfree hr hL hold hcap hsc hneed hgrow hbig hsm hlen hfs => ?_⟩
    have f1 := hf.back ab2
    obtain ⟨L', hL', pre, xs, post, e', hwb, hp, hcx, hext⟩ := hr.obj id _ hid (f1.2 id (put_ab hput hid (by rw [hg]; rfl)).2.2.2.2).1 hg
    rw [hL] at hL'
    injection hL' with hL'
    subst hL'
    obtain ⟨w1, w2, w3⟩ := hcx.window hold
    have hlx := hcx.length
    have ev1 := kill_rel (F := F) (G := G) hid hput (by rw [hg]; rfl) hr
    by_cases hroom : sLen + n ≤ sCap
    · -- it has room
      unfold growS at h'
      split at h'
      · rename_i id' S4 hnew
        injection h' with h'; injection h' with h1 h2; subst h2; subst h1
        unfold aNew at hnew
        obtain ⟨ab4, _, hnx, hid', _⟩ := new_ab hnew
        obtain ⟨news, hcn, hnn, hnews⟩ := hfs w rfl
        have hone := CRL.flat hcn hflat
        have m1 : sLen * sz ≤ cap * sz ∨ cap * sz ≤ sLen * sz := Nat.le_total _ _
        have hroom' : (sLen + n) * sz ≤ sCap * sz := Nat.mul_le_mul_right _ hroom
        rw [Nat.add_mul] at hroom'
        rw [hsc, Nat.add_mul] at hroom'
        have hpl : (pre ++ (xs ++ post)).length = L.base + l.length + post.length := by simp; omega
        have hst := run_storeCells_at PP L.blk (L.base + off + sLen * sz) e' news 0 _ w hwb (by simp only [List.size_toArray, hpl]; omega) hone
        have hrun := run_append_in (ty := ty) A.hu A.hx A.hd A.hsz ⟨L.blk, L.base + off, none⟩ sLen sCap n ux hroom w _ hlen news hnews (by rw [addr_add]; exact hst)
        obtain ⟨ev, hm⟩ := move_rel (G := G) hid hg hput hnew hf (hfree id' (by omega) (by omega)) hr hL hwb (pre := pre ++ xs.take off) (w3.append hcn) (post := (pre ++ (xs ++ post)).drop (L.base + off + sLen * sz + news.length)) (sCap - (sLen + n)) (by
          rw [List.length_drop, hpl, hnn, Nat.sub_mul, hsc, Nat.add_mul, Nat.add_mul]
          omega)
        have hpre : (pre ++ xs.take off).length = L.base + off := by simp; omega
        refine ⟨_, _, .slice (some ⟨L.blk, L.base + off, none⟩) (sLen + n) sCap, ev, ?_, ⟨L.blk, (pre ++ xs.take off).length, sCap - (sLen + n)⟩, hm, by rw [hpre, if_pos rfl, hneed]; congr 1; show sCap = sLen + n + (sCap - (sLen + n)); omega⟩
        rw [hrun]
        congr 3
        simp only [Nat.add_zero]
        rw [List.take_append, List.take_append]
        have e1 : L.base + off + sLen * sz - pre.length = off + sLen * sz := by omega
        have e2 : off + sLen * sz - xs.length = 0 := by omega
        rw [e1, e2, List.take_of_length_le (by omega : pre.length ≤ _), List.take_zero, List.append_nil, List.take_add]
        simp [List.append_assoc]
      · cases h'
    · obtain ⟨news, hcn, hnn, hnews⟩ := hfs { w with drawn := w.drawn + 1 } rfl
      obtain ⟨m', w', u, ev, hrun, hcr⟩ := hs F G m w (some ⟨L.blk, L.base + off, none⟩) sLen sCap n ux _ news hf (fun k a b => hfree k (by omega) b) ev1.rel (w3.append hcn) hneed (by omega) hbig hsm hlen (by
        simp only [Builtin.firstCells]
        rw [← hp]
        exact run_window (w := { w with drawn := w.drawn + 1 }) hwb (by omega)) hnews
      exact ⟨m', w', u, ev1.trans ev ab1.nx ab2.nx, hrun, hcr⟩
  · cases h

theorem appSe2_spec {tS tX ty e : TypeId} {dX : TypeDesc} {sz by_ : Nat} (A : App tS tX ty e dX sz by_) {id off n : Nat} {new : List AV} {S0 S S' : St} {v : AV} (hn0 : 0 < n) (h : appSe2 id off sz by_ n new (S.look id) = some (v, S')) :
    Ab S S' ∧ ∀ (F G : Nat → Prop) (m : M) (w : World) (us ux : Value), Fits F G S' → Free m S S' → Rel F m S.h w → CR m (.se id off) us → (∀ w, (Builtin.lenOf ux).run PP w = .ok n w) →
      (∀ w1 : World, w1.heap = w.heap → ∃ news, CRL m new news ∧ news.length = n * sz ∧ (Builtin.firstCells sz n ux).run PP w1 = .ok news.toArray w1) →
      VOk F G m S S' w (Builtin.append_ #[tS, tX] ty #[us, ux]) v := by
  unfold appSe2 at h
  split at h
  · rename_i l sz' S1 hl
    have hcs := cond_some h; clear h; obtain ⟨hb, h⟩ := hcs
    simp only [Bool.and_eq_true] at hb
    obtain ⟨⟨⟨c1, c2⟩, c3⟩, c4⟩ := hb
    have c1 := Nat.eq_of_beq_eq_true c1
    have c2 := Nat.eq_of_beq_eq_true c2
    subst c1
    obtain ⟨b1, b2⟩ := small_big c3 hn0
    obtain ⟨ab1, hh1, hn1, hg1, _, _, hid⟩ := look_ab hl
    have hg : H.get S1.h id = some (.cells l sz) := by rw [hh1]; exact hg1
    obtain ⟨ab2, hk⟩ := killNew_spec (ty := ty) A (old := []) hid hg h c4
    have h' := h
    unfold killNew at h'
    split at h'
    case h_2 => cases h'
    rename_i S2 hput
    obtain ⟨abp, _⟩ := put_ab hput hid (by rw [hg]; rfl)
    obtain ⟨ab3, hs⟩ := growS_spec (ty := ty) A h'
    refine ⟨ab1.trans ab2, fun F G m w us ux hf hfree hr hx hlen hfs => ?_⟩
    simp only [CR] at hx
    obtain ⟨L, a, c, hL, rfl, ha, hsp, hc⟩ := hx
    have f2 := hf.back ab2
    have f3 := hf.back ab3
    obtain ⟨ev, _, _, _⟩ := look_rel hl f2 hr
    by_cases hroom : c = L.ext ∧ a.off = L.base + off
    · obtain ⟨hcE, ha2⟩ := hroom
      have hA : a = ⟨L.blk, L.base + off, none⟩ := by
        obtain ⟨ab, ao, asp⟩ := a
        simp only at ha ha2 hsp
        subst hsp; subst ha; subst ha2
        rfl
      subst hA
      obtain ⟨m', w', u, ev', hrun, hcr⟩ := hk F G m w L off 0 0 c n ux [] hf (fun k a b => hfree k (by omega) b) ev.rel hL (by
        unfold window
        rw [Nat.zero_mul, Nat.add_zero, Nat.ble_eq_true_of_le (by omega)]
        simp) (by omega) (by omega) (by omega) (by omega) b1 b2 hlen hfs
      exact ⟨m', w', u, ev.trans ev' ab1.nx ab2.nx, hrun, hcr⟩
    · have hc0 : c = 0 := by
        rcases hc with h | h
        · exact h
        · exact absurd ⟨h.2, h.1⟩ hroom
      subst hc0
      have ev2 := kill_rel (F := F) (G := G) hid hput (by rw [hg]; rfl) ev.rel
      obtain ⟨news, hcn, hnn, hnews⟩ := hfs { w with drawn := w.drawn + 1 } rfl
      obtain ⟨m', w', u, ev', hrun, hcr⟩ := hs F G m w (some a) 0 0 n ux [] news hf (fun k a b => hfree k (by have := abp.nx; omega) b) ev2.rel hcn (by omega) (by omega) b1 b2 hlen
        (by simp [Builtin.firstCells, loadCells, loadCellsFrom]) hnews
      exact ⟨m', w', u, (ev.trans ev2 ab1.nx abp.nx).trans ev' (Nat.le_trans ab1.nx abp.nx) ab3.nx, hrun, hcr⟩
  · cases h

theorem appSl2_spec {tS tX ty e : TypeId} {dX : TypeDesc} {sz by_ : Nat} (A : App tS tX ty e dX sz by_) {id off len n cap : Nat} {op : Bool} {new : List AV} {S S' : St} {v : AV} (hnl : new.length = n * sz) (h : appSl2 id off sz by_ len n cap op new (S.look id) = some (v, S')) :
    Ab S S' ∧ ∀ (F G : Nat → Prop) (m : M) (w : World) (us ux : Value), Fits F G S' → Free m S S' → Rel F m S.h w → CR m (.sl id off len cap op) us → (∀ w, (Builtin.lenOf ux).run PP w = .ok n w) →
      (∀ w1 : World, w1.heap = w.heap → ∃ news, CRL m new news ∧ news.length = n * sz ∧ (Builtin.firstCells sz n ux).run PP w1 = .ok news.toArray w1) →
      VOk F G m S S' w (Builtin.append_ #[tS, tX] ty #[us, ux]) v := by
  unfold appSl2 at h
  split at h
  · rename_i l sz' S1 hl
    have hcs := cond_some h; clear h; obtain ⟨hb, h⟩ := hcs
    simp only [Bool.and_eq_true] at hb
    obtain ⟨c1, c2⟩ := hb
    have c1 := Nat.eq_of_beq_eq_true c1
    subst c1
    obtain ⟨d1, d2⟩ := small_spec c2
    obtain ⟨ab1, hh1, hn1, hg1, _, _, hid⟩ := look_ab hl
    have hg : H.get S1.h id = some (.cells l sz) := by rw [hh1]; exact hg1
    cases hr0 : Nat.ble (len + n) cap with
    | true =>
      rw [hr0] at h
      simp only [cond_true] at h
      have hroom := ble_spec hr0
      unfold appRoom at h
      have hcs := cond_some h; clear h; obtain ⟨hb, h⟩ := hcs
      simp only [Bool.and_eq_true] at hb
      have e1 := ble_spec hb.1
      split at h
      · rename_i S2 hput
        injection h with h; injection h with h1 h2; subst h2; subst h1
        obtain ⟨ab2, hh2, hn2, _⟩ := put_ab hput hid (by rw [hg]; rfl)
        refine ⟨ab1.trans ab2, fun F G m w us ux hf hfree hr hx hlen hfs => ?_⟩
        have hx' := hx
        simp only [CR] at hx
        obtain ⟨L, hL, rfl⟩ := hx
        obtain ⟨ev, _, _, L', hL', pre, xs, post, e', hw, hp, hc, hext⟩ := look_rel hl (hf.back ab2) hr
        rw [hL] at hL'
        injection hL' with hL'
        subst hL'
        obtain ⟨news, hcn, hnn, hnews⟩ := hfs w rfl
        have hlx := hc.length
        have ev2 := put_rel hid hput hf hg ev.rel hL hw hp (CRL.splice (off + len * sz) hc hcn) hext
        have hfit : off + len * sz + news.length ≤ xs.length := by omega
        have hst := run_storeCells_at PP L.blk (pre.length + (off + len * sz)) e' news 0 _ w hw (by simp; omega) (CRL.flat hcn hb.2)
        refine ⟨m, _, _, ev.trans ev2 ab1.nx ab2.nx, ?_, L, hL, rfl⟩
        have hsg := seg_put pre xs post news (off + len * sz) hfit
        refine run_append_in (ty := ty) A.hu A.hx A.hd A.hsz ⟨L.blk, L.base + off, none⟩ len _ n ux (by omega) w _ hlen news hnews ?_
        rw [addr_add, ← hp, Nat.add_assoc]
        rw [hst]
        congr 3
      · cases h
    | false =>
      rw [hr0] at h
      simp only [cond_false] at h
      have hroom : ¬ (len + n ≤ cap) := fun hh => by rw [Nat.ble_eq_true_of_le hh] at hr0; cases hr0
      have hbg : (2 * (len + n) + 200) * by_ ≤ 2 ^ 48 ∧ len + n ≤ 1073741824 := by
        have hle : (len + n) * by_ ≤ (len + n + cap) * by_ := Nat.mul_le_mul_right _ (by omega)
        have : (2 * (len + n) + 200) * by_ ≤ 202 * ((len + n) * by_) := by
          rw [← Nat.mul_assoc]
          exact Nat.mul_le_mul_right _ (by omega)
        exact ⟨by omega, by omega⟩
      unfold appGrow at h
      split at h
      · cases h
      · rename_i old hold
        cases op with
        | true =>
          simp only [cond_true] at h
          have hcs := cond_some h; clear h; obtain ⟨hb, h⟩ := hcs
          simp only [Bool.and_eq_true] at hb
          have e1 := Nat.eq_of_beq_eq_true hb.1
          obtain ⟨ab2, hk⟩ := killNew_spec (ty := ty) A hid hg h hb.2
          refine ⟨ab1.trans ab2, fun F G m w us ux hf hfree hr hx hlen hfs => ?_⟩
          simp only [CR] at hx
          obtain ⟨L, hL, rfl⟩ := hx
          obtain ⟨ev, _⟩ := look_rel hl (hf.back ab2) hr
          obtain ⟨m', w', u, ev', hrun, hcr⟩ := hk F G m w L off len cap (cap + (if true then L.ext else 0)) n ux [] hf (fun k a b => hfree k (by omega) b) ev.rel hL hold e1 (by simp) rfl (by omega) hbg.1 hbg.2 hlen hfs
          exact ⟨m', w', u, ev.trans ev' ab1.nx ab2.nx, hrun, hcr⟩
        | false =>
          simp only [cond_false] at h
          obtain ⟨ab2, hs⟩ := growS_spec (ty := ty) A h
          refine ⟨ab1.trans ab2, fun F G m w us ux hf hfree hr hx hlen hfs => ?_⟩
          simp only [CR] at hx
          obtain ⟨L, hL, rfl⟩ := hx
          obtain ⟨ev, _, _, L', hL', pre, xs, post, e', hw, hp, hc, hext⟩ := look_rel hl (hf.back ab2) hr
          rw [hL] at hL'
          injection hL' with hL'
          subst hL'
          obtain ⟨w1, w2, w3⟩ := hc.window hold
          have hlx := hc.length
          obtain ⟨news, hcn, hnn, hnews⟩ := hfs { w with drawn := w.drawn + 1 } rfl
          obtain ⟨m', w', u, ev', hrun, hcr⟩ := hs F G m w (some ⟨L.blk, L.base + off, none⟩) len (cap + (if false then L.ext else 0)) n ux _ news hf (fun k a b => hfree k (by omega) b) ev.rel (w3.append hcn) rfl (by simp; omega) hbg.1 hbg.2 hlen (by
            simp only [Builtin.firstCells]
            rw [← hp]
            exact run_window (w := { w with drawn := w.drawn + 1 }) hw (by omega)) hnews
          exact ⟨m', w', u, ev.trans ev' ab1.nx ab2.nx, hrun, hcr⟩
  · cases h
end Rn
end Go.Proofs.Ytgfcakdpfedokaa
