/- The runner's loads, stores, new blocks, appends and copies are the model's. -/
import Derived.Test.YtgfcakdpfedokaaRun3
namespace Go.Proofs.Ytgfcakdpfedokaa
namespace Rn
set_option linter.unusedVariables false
set_option linter.unusedSimpArgs false

/-! lists -/
theorem seg_put (pre xs post vs : List Value) (off : Nat) (h : off + vs.length ≤ xs.length) :
    (pre ++ (xs ++ post)).take (pre.length + off) ++ vs ++ (pre ++ (xs ++ post)).drop (pre.length + off + vs.length) = pre ++ ((xs.take off ++ (vs ++ xs.drop (off + vs.length))) ++ post) := by
  rw [List.take_append, List.drop_append, List.take_append, List.drop_append]
  have e1 : pre.length + off - pre.length = off := by omega
  have e2 : pre.length + off + vs.length - pre.length = off + vs.length := by omega
  have e3 : off - xs.length = 0 := by omega
  have e4 : off + vs.length - xs.length = 0 := by omega
  rw [e1, e2, e3, e4, List.take_of_length_le (by omega), List.drop_of_length_le (by omega : pre.length ≤ pre.length + off + vs.length)]
  simp [List.append_assoc]
theorem seg_at (pre xs post : List Value) (i : Nat) (v : Value) (h : xs[i]? = some v) : (pre ++ (xs ++ post))[pre.length + i]? = some v := by
  rw [List.getElem?_append_right (by omega), show pre.length + i - pre.length = i by omega]
  have hi : i < xs.length := (List.getElem?_eq_some_iff.1 h).1
  rw [List.getElem?_append_left hi, h]
theorem cell_at {w : World} {b : Nat} {pre xs post : List Value} {e : TypeId} (hw : w.heap[b]? = some (.cells (pre ++ (xs ++ post)).toArray e (0, 0))) {i : Nat} {v : Value} (h : xs[i]? = some v) :
    w.cell? ⟨b, pre.length + i, none⟩ = some v := by
  simp only [World.cell?, hw]
  simpa using seg_at pre xs post i v h
theorem run_window {w : World} {b : Nat} {pre xs post : List Value} {e : TypeId} (hw : w.heap[b]? = some (.cells (pre ++ (xs ++ post)).toArray e (0, 0))) {off n : Nat} (h : off + n ≤ xs.length) :
    (loadCells ⟨b, pre.length + off, none⟩ n).run PP w = .ok ((xs.drop off).take n).toArray w := by
  have hl : ((xs.drop off).take n).length = n := by simp; omega
  have := run_loadCells_list (P := PP) w ⟨b, pre.length + off, none⟩ ((xs.drop off).take n) (fun j v hj => by
    rw [addr_add, Nat.add_assoc]
    refine cell_at hw ?_
    have hj2 : j < n := by have := (List.getElem?_eq_some_iff.1 hj).1; omega
    rw [List.getElem?_take_of_lt hj2, List.getElem?_drop] at hj
    exact hj)
  rw [hl] at this
  exact this

/-! load, store -/
theorem loadVar_spec {m : M} {w : World} {b : Nat} {pre xs post : List Value} {e : TypeId} (hw : w.heap[b]? = some (.cells (pre ++ (xs ++ post)).toArray e (0, 0))) {l : List AV} (hc : CRL m l xs) {t : TypeId} {off : Nat} {v : AV} (h : aPart t l off = some v) :
    ∃ u, (loadVar t ⟨b, pre.length + off, none⟩).run PP w = .ok u w ∧ CR m v u := by
  unfold aPart at h
  split at h
  · rename_i ha
    split at h
    · rename_i n hn
      cases hwd : window l off n with
      | none => rw [hwd] at h; cases h
      | some r =>
        rw [hwd] at h
        simp only [Option.map_some, Option.some.injEq] at h
        subst h
        obtain ⟨h1, h2, h3⟩ := hc.window hwd
        have hl := hc.length
        refine ⟨.agg ((xs.drop off).take n).toArray, ?_, _, rfl, h3⟩
        simp only [loadVar, Sem.run_bind, aggT_spec ha, Result.andThen_ok, if_true, run_sz hn, run_window hw (show off + n ≤ xs.length by omega), Sem.run_pure]
    · cases h
  · rename_i ha
    obtain ⟨u, h1, h2⟩ := hc.get h
    refine ⟨u, ?_, h2⟩
    simp only [loadVar, Sem.run_bind, aggT_spec ha, Result.andThen_ok, Bool.false_eq_true, if_false, run_load, cell_at hw h1]
  · cases h

/-- what a step with a value says -/
def VOk (F G : Nat → Prop) (m : M) (S S' : St) (w : World) (s : Sem Value) (v : AV) : Prop :=
  ∃ m' w' u, Ev F G m m' S S' w w' ∧ s.run PP w = .ok u w' ∧ CR m' v u

theorem aLoad_ab {t : TypeId} {x v : AV} {S S' : St} (h : aLoad t x S = some (v, S')) : Ab S S' := by
  unfold aLoad at h
  split at h
  · split at h
    · rename_i l sz S1 hl
      split at h
      · injection h with h; injection h with h1 h2; subst h2
        exact (look_ab hl).1
      · cases h
    · cases h
  · cases h
theorem aLoad_spec {F G : Nat → Prop} {m : M} {t : TypeId} {x v : AV} {S S' : St} {u : Value} {w : World} (h : aLoad t x S = some (v, S')) (hx : CR m x u) (hf : Fits F G S') (hr : Rel F m S.h w) :
    VOk F G m S S' w (Instr.loadAt t u) v := by
  unfold aLoad at h
  split at h
  · rename_i id off
    simp only [CR] at hx
    obtain ⟨L, hL, rfl⟩ := hx
    split at h
    · rename_i l sz S1 hl
      split at h
      · rename_i v' hv
        injection h with h; injection h with h1 h2; subst h2; subst h1
        obtain ⟨ev, _, _, L', hL', pre, xs, post, e, hw, hp, hc, _⟩ := look_rel hl hf hr
        rw [hL] at hL'
        injection hL' with hL'
        subst hL'
        obtain ⟨y, h1, h2⟩ := loadVar_spec hw hc hv
        rw [hp] at h1
        exact ⟨m, w, y, ev, by simp [Instr.loadAt, Instr.sureAddr, h1], h2⟩
      · cases h
    · cases h
  · cases h

theorem cond_some {α : Type} {c : Bool} {x : Option α} {y : α} (h : (bif c then x else none) = some y) : c = true ∧ x = some y := by
  cases c with
  | true => exact ⟨rfl, h⟩
  | false => cases h

theorem aStore_spec {t : TypeId} {x v : AV} {S S' : St} (h : aStore t x v S = some S') :
    Ab S S' ∧ ∀ (F G : Nat → Prop) (m : M) (w : World) (u y : Value), Fits F G S' → Rel F m S.h w → CR m x u → CR m v y →
      ∃ w', Ev F G m m S S' w w' ∧ (Instr.storeAt t u y).run PP w = .ok () w' := by
  unfold aStore at h
  split at h
  · rename_i id off
    split at h
    · rename_i l sz S1 hl
      obtain ⟨hb, h⟩ := cond_some h
      simp only [Bool.and_eq_true, beq_iff_eq] at hb
      obtain ⟨⟨hflat, hsz⟩, hle⟩ := hb
      have hle := ble_spec hle
      obtain ⟨ab, hh, hn, hg, _, _, hid⟩ := look_ab hl
      have ab2 := put_ab h hid (by rw [hh, hg]; rfl)
      refine ⟨ab.trans ab2.1, fun F G m w u y hf hr hx hy => ?_⟩
      simp only [CR] at hx
      obtain ⟨L, hL, rfl⟩ := hx
      obtain ⟨ev, _, hg1, L', hL', pre, xs, post, e, hw, hp, hc, hext⟩ := look_rel hl (hf.back ab2.1) hr
      rw [hL] at hL'
      injection hL' with hL'
      subst hL'
      obtain ⟨hcy, hone⟩ := hy.cells hflat
      have hlen := hcy.length
      have hlx := hc.length
      have hfit : off + y.cells.toList.length ≤ xs.length := by omega
      have ev2 := put_rel hid h hf hg1 ev.rel hL hw hp (CRL.splice off hc hcy) hext
      refine ⟨_, ev.trans ev2 ab.nx ab2.1.nx, ?_⟩
      have hs : (sizeOf t).run PP w = .ok y.cells.size w := by
        have := run_sz hsz w
        rw [← hlen] at this
        simpa using this
      have hst := run_storeCells_at PP L.blk (pre.length + off) e y.cells.toList 0 _ w hw (by simp at hfit ⊢; omega) (List.all_eq_true.1 hone)
      simp only [Instr.storeAt, Instr.sureAddr, Sem.run_bind, Sem.run_pure, Result.andThen_ok, storeVar, hs, ne_eq, not_true_eq_false, if_false, ← hp, hst, Nat.add_zero]
      congr 2
      have := seg_put pre xs post y.cells.toList off hfit
      simpa using this
    · cases h
  · cases h

/-! new blocks -/
theorem newP_spec {l : List AV} {sz : Nat} {S S' : St} {v : AV} (h : newP l sz S = some (v, S')) :
    Ab S S' ∧ ∀ (F G : Nat → Prop) (m : M) (w : World) (xs : List Value) (e : TypeId), Fits F G S' → Free m S S' → Rel F m S.h w → CRL m l xs →
      ∃ m', Ev F G m m' S S' w (w.alloc (.cells xs.toArray e (0, 0))) ∧ CR m' v (.pointer (some ⟨w.heap.size, 0, none⟩)) := by
  unfold newP aNew at h
  split at h
  · rename_i id S1 hn
    injection h with h; injection h with h1 h2; subst h2; subst h1
    obtain ⟨ab, _, hnx, hid, _⟩ := new_ab hn
    refine ⟨ab, fun F G m w xs e hf hfree hr hc => ?_⟩
    obtain ⟨ev, hm⟩ := new_rel hn hf (hfree id (by omega) (by omega)) hr hc [] 0 (by omega) e
    rw [List.append_nil] at ev
    exact ⟨_, ev, ⟨w.heap.size, 0, 0⟩, hm, by simp⟩
  · cases h
theorem opAlloc_spec {e : TypeId} {S S' : St} {v : AV} (h : opAlloc e S = some (v, S')) :
    Ab S S' ∧ ∀ (F G : Nat → Prop) (m : M) (w : World), Fits F G S' → Free m S S' → Rel F m S.h w → VOk F G m S S' w (Instr.alloc e true (.tuple #[])) v := by
  unfold opAlloc at h
  split at h
  · rename_i z n hz hn
    obtain ⟨hb, h⟩ := cond_some h
    obtain ⟨ab, hs⟩ := newP_spec h
    refine ⟨ab, fun F G m w hf hfree hr => ?_⟩
    obtain ⟨zv, h1, h2⟩ := zeroT_spec hz
    obtain ⟨m', ev, hc⟩ := hs F G m w zv.cells.toList e hf hfree hr (h2 m)
    exact ⟨m', _, _, ev, by simp [Instr.alloc, h1, newVar, newRow, World.alloc_eq], hc⟩
  · cases h
theorem opBox_spec {x : AV} {S S' : St} {v : AV} (h : opBox x S = some (v, S')) :
    Ab S S' ∧ ∀ (F G : Nat → Prop) (m : M) (w : World) (e : TypeId) (u : Value), Fits F G S' → Free m S S' → Rel F m S.h w → CR m x u → VOk F G m S S' w (Instr.box e u) v := by
  unfold opBox at h
  obtain ⟨hb, h⟩ := cond_some h
  obtain ⟨ab, hs⟩ := newP_spec h
  refine ⟨ab, fun F G m w e u hf hfree hr hx => ?_⟩
  have hc := hx.boxed hb
  obtain ⟨m', ev, hc⟩ := hs F G m w u.cells.toList e hf hfree hr hc
  exact ⟨m', _, _, ev, by simp [Instr.box, newVar, newRow, World.alloc_eq], hc⟩

/-! composites -/
theorem foldl_put (off : Nat) : ∀ (vs : List Value) (k : Nat) (cs : List Value), off + k + vs.length ≤ cs.length →
    (vs.zipIdx k).foldl (fun (cs : Array Value) (p : Value × Nat) => cs.setIfInBounds (off + p.2) p.1) cs.toArray = (cs.take (off + k) ++ vs ++ cs.drop (off + k + vs.length)).toArray
  | [], k, cs, _ => by simp
  | v :: vs, k, cs, h => by
    simp only [List.zipIdx_cons, List.foldl_cons, List.setIfInBounds_toArray]
    rw [foldl_put off vs (k + 1) _ (by simp at h ⊢; omega)]
    congr 1
    have := list_seg_step cs (off + k) v vs (by simp at h; omega)
    simpa [Nat.add_assoc] using this
theorem aFill_spec {m : M} {pl pl' : Nat → Option (Nat × Nat)} (hpl : ∀ i, pl i = pl' i) : ∀ {parts : List (Nat × AV)} {vparts : List (Nat × Value)} {cs r : List AV} {xs : List Value},
    aFill pl cs parts = some r → CRP m parts vparts → CRL m cs xs → ∃ ys, Instr.fill pl' xs.toArray vparts = some ys.toArray ∧ CRL m r ys
  | [], vparts, cs, r, xs, h, hp, hc => by
    simp only [CRP] at hp; subst hp
    injection h with h; subst h
    exact ⟨xs, rfl, hc⟩
  | (i, v) :: parts, vparts, cs, r, xs, h, hp, hc => by
    simp only [CRP] at hp
    obtain ⟨y, rs, rfl, hv, hrest⟩ := hp
    simp only [aFill] at h
    split at h
    · cases h
    · rename_i off size hi
      obtain ⟨hb, h⟩ := cond_some h
      simp only [Bool.and_eq_true] at hb
      have h1 := Nat.eq_of_beq_eq_true hb.1.1
      have h2 := ble_spec hb.1.2
      have hcy := hv.boxed hb.2
      have hl := hcy.length
      have hlx := hc.length
      obtain ⟨ys, e1, e2⟩ := aFill_spec hpl h hrest (CRL.splice off hc hcy)
      refine ⟨ys, ?_, e2⟩
      have hsz : y.cells.size = size := by rw [← Array.length_toList]; omega
      have hle : ¬ (xs.length < off + size) := by omega
      have := foldl_put off y.cells.toList 0 xs (by omega)
      simp only [Nat.add_zero] at this
      have hstep : Instr.fill pl' xs.toArray ((i, y) :: rs) = Instr.fill pl' (y.cells.zipIdx.foldl (fun (cs : Array Value) (p : Value × Nat) => cs.setIfInBounds (off + p.2) p.1) xs.toArray) rs := by
        simp [Instr.fill, ← hpl, hi, hsz, hle]
      rw [hstep, ← e1]
      congr 1
      rw [← Array.foldl_toList, Array.toList_zipIdx, this, List.append_assoc]

theorem places_spec (w : World) : ∀ {fs : List Field} {pl : List (Nat × Nat)}, placesT fs = some pl → (fs.mapM fun f => do pure (f.offset, ← sizeOf f.type) : Sem (List (Nat × Nat))).run PP w = .ok pl w
  | [], pl, h => by injection h with h; subst h; simp
  | f :: fs, pl, h => by
    simp only [placesT] at h
    split at h
    · cases h
    · rename_i n hn
      split at h
      · cases h
      · rename_i r hr
        injection h with h; subst h
        have := places_spec w hr
        simp only [List.mapM_cons, Sem.run_bind, run_sz hn, Result.andThen_ok, Sem.run_pure, this]

theorem aBuild_spec {m : M} {t : TypeId} {parts : List (Nat × AV)} {v : AV} (h : aBuild t parts = some v) {vparts : List (Nat × Value)} (hp : CRP m parts vparts) (w : World) :
    ∃ u, (Instr.build t vparts.toArray).run PP w = .ok u w ∧ CR m v u := by
  unfold aBuild at h
  split at h
  · cases h
  · rename_i z hz
    obtain ⟨zv, hzr, hzc⟩ := zeroT_spec hz
    split at h
    · rename_i fs hu
      split at h
      · cases h
      · rename_i pl hpl
        cases hf : aFill (fun i => pl[i]?) z parts with
        | none => rw [hf] at h; cases h
        | some r =>
          rw [hf] at h; injection h with h; subst h
          obtain ⟨ys, e1, e2⟩ := aFill_spec (pl' := fun i => pl.toArray[i]?) (fun i => by simp) hf hp (hzc m)
          refine ⟨.agg ys.toArray, ?_, ys, rfl, e2⟩
          have hm := places_spec w hpl
          have hm2 : (fs.mapM fun f => do pure (f.offset, ← sizeOf f.type) : Sem (Array (Nat × Nat))).run PP w = .ok pl.toArray w := by
            rw [Array.mapM_eq_mapM_toList]
            simp only [Sem.run_map, hm, Result.andThen_ok]
          simp only [Instr.build, Sem.run_bind, hzr, Result.andThen_ok, run_underlying hu, hm2]
          simp only [Array.toArray_toList] at e1
          simp only [List.toList_toArray, e1, Sem.run_pure]
    · rename_i len e hu
      split at h
      · cases h
      · rename_i n hn
        cases hf : aFill (fun i => some (i * n, n)) z parts with
        | none => rw [hf] at h; cases h
        | some r =>
          rw [hf] at h; injection h with h; subst h
          obtain ⟨ys, e1, e2⟩ := aFill_spec (pl' := fun i => some (i * n, n)) (fun i => rfl) hf hp (hzc m)
          refine ⟨.agg ys.toArray, ?_, ys, rfl, e2⟩
          simp only [Array.toArray_toList] at e1
          simp only [Instr.build, Sem.run_bind, hzr, Result.andThen_ok, run_underlying hu, run_sz hn, List.toList_toArray, e1, Sem.run_pure]
    · cases h

def repV (zs : List Value) : Nat → List Value
  | 0 => []
  | n + 1 => repV zs n ++ zs
theorem CRL.reps {m : M} {z : List AV} {zs : List Value} (h : CRL m z zs) : ∀ n, CRL m (reps z n) (repV zs n)
  | 0 => rfl
  | n + 1 => (CRL.reps h n).append h
theorem repV_spec (zs : List Value) (k : Nat) (hk : zs.length = k) (hk0 : 0 < k) : ∀ n, (List.range (n * k)).map (fun i => zs.toArray[i % k]!) = repV zs n
  | 0 => by simp [repV]
  | n + 1 => by
    rw [show (n + 1) * k = n * k + k by rw [Nat.add_mul]; omega, List.range_add, List.map_append, repV_spec zs k hk hk0 n]
    congr 1
    apply List.ext_getElem?
    intro i
    simp only [List.map_map, List.getElem?_map]
    by_cases hi : i < k
    · have : (n * k + i) % k = i := by rw [Nat.mul_comm, Nat.mul_add_mod]; exact Nat.mod_eq_of_lt hi
      simp [List.getElem?_range hi, this]
      rw [List.getElem?_eq_getElem (by omega)]
      rfl
    · rw [List.getElem?_eq_none (by simpa using Nat.le_of_not_lt hi), List.getElem?_eq_none (by omega)]
      rfl
theorem zero_row (z : Array Value) (zs : List Value) (hz : z = zs.toArray) (k : Nat) (hk : zs.length = k) (hk0 : 0 < k) (n : Nat) :
    ((Array.range (n * k)).map fun i => z[i % z.size]!) = (repV zs n).toArray := by
  subst hz
  apply Array.ext'
  simp only [Array.toList_map, Array.toList_range, List.size_toArray, hk]
  exact repV_spec zs k hk hk0 n

theorem range0 (f : Nat → Value) : (Array.range 0).map f = #[] := by apply Array.ext'; simp
theorem aBuildSlice_spec {t : TypeId} {len : Nat} {parts : List (Nat × AV)} {S S' : St} {v : AV} (h : aBuildSlice t len parts S = some (v, S')) :
    Ab S S' ∧ ∀ (F G : Nat → Prop) (m : M) (w : World) (vparts : List (Nat × Value)), Fits F G S' → Free m S S' → Rel F m S.h w → CRP m parts vparts →
      VOk F G m S S' w (Instr.buildSlice t len vparts.toArray) v := by
  unfold aBuildSlice at h
  split at h
  · cases h
  · rename_i e he
    have hu := elemT_spec he
    split at h
    · cases h
    · rename_i n hn
      split at h
      · cases h
      · rename_i z hz
        obtain ⟨hb, h⟩ := cond_some h
        simp only [Bool.and_eq_true] at hb
        have b1 := ble_spec hb.1.1
        have b2 := Nat.eq_of_beq_eq_true hb.1.2
        have b3 := blt_spec hb.2
        obtain ⟨zv, hzr, hzc⟩ := zeroT_spec hz
        split at h
        · cases h
        · rename_i cs hcs
          split at h
          · rename_i id S1 hnew
            injection h with h; injection h with h1 h2; subst h2; subst h1
            unfold aNew at hnew
            obtain ⟨ab, _, hnx, hid, _⟩ := new_ab hnew
            refine ⟨ab, fun F G m w vparts hf hfree hr hp => ?_⟩
            have hzl := (hzc m).length
            have hrow := zero_row zv.cells zv.cells.toList (by simp) n (by omega) b3 len
            obtain ⟨ys, e1, e2⟩ := aFill_spec (pl' := fun i => some (i * n, n)) (fun i => rfl) hcs hp ((hzc m).reps len)
            obtain ⟨ev, hm⟩ := new_rel hnew hf (hfree id (by omega) (by omega)) hr e2 [] 0 (by omega) e
            rw [List.append_nil] at ev
            refine ⟨_, _, .slice (some ⟨w.heap.size, 0, none⟩) len len, ev, ?_, ⟨w.heap.size, 0, 0⟩, hm, by simp⟩
            have hz0 : len * n > 2 ^ 24 ↔ False := by simp; omega
            by_cases hl : len * n = 0
            · have hlen : len = 0 := by
                rcases Nat.mul_eq_zero.1 hl with h | h
                · exact h
                · omega
              subst hlen
              simp only [repV] at e1
              have hr0 : ((Array.range (0 * n)).map fun i => (#[] : Array Value)[i % (#[] : Array Value).size]!) = #[] := by rw [Nat.zero_mul]; exact range0 _
              simp only [Instr.buildSlice, Sem.run_bind, run_underlying hu, Result.andThen_ok, run_sz hn, hz0, if_false, Sem.run_pure, if_pos hl, hr0, e1, newRow, run_newObj, List.toList_toArray]
              rfl
            · simp only [Instr.buildSlice, Sem.run_bind, run_underlying hu, Result.andThen_ok, run_sz hn, hz0, if_false, Sem.run_pure, if_neg hl, hzr, hrow, e1, newRow, run_newObj, List.toList_toArray]
              rfl
          · cases h

theorem wrap_small {n : Int} (h0 : 0 ≤ n) (h : n ≤ 1073741824) : IntKind.i64.wrap n = n := IntWalk.i64_in _ (by omega)

theorem aMakeSlice_spec {t : TypeId} {x y : AV} {S S' : St} {v : AV} (h : aMakeSlice t x y S = some (v, S')) :
    Ab S S' ∧ ∀ (F G : Nat → Prop) (m : M) (w : World) (u1 u2 : Value), Fits F G S' → Free m S S' → Rel F m S.h w → CR m x u1 → CR m y u2 →
      VOk F G m S S' w (Instr.makeSlice t u1 u2) v := by
  unfold aMakeSlice at h
  split at h
  · rename_i k1 l k2 c e he
    have hu := elemT_spec he
    split at h
    · rename_i n by_ z hn hby hz
      obtain ⟨hb, h⟩ := cond_some h
      simp only [Bool.and_eq_true, decide_eq_true_eq] at hb
      obtain ⟨⟨⟨⟨⟨b1, b2⟩, b3⟩, b4⟩, b5⟩, b6⟩ := hb
      have b3 := ble_spec b3
      have b4 := ble_spec b4
      have b5 := Nat.eq_of_beq_eq_true b5
      have b6 := blt_spec b6
      obtain ⟨zv, hzr, hzc⟩ := zeroT_spec hz
      split at h
      · rename_i id S1 hnew
        injection h with h; injection h with h1 h2; subst h2; subst h1
        unfold aNew at hnew
        obtain ⟨ab, _, hnx, hid, _⟩ := new_ab hnew
        refine ⟨ab, fun F G m w u1 u2 hf hfree hr hx hy => ?_⟩
        simp only [CR] at hx hy
        subst hx; subst hy
        have hzl := (hzc m).length
        have hrow := zero_row zv.cells zv.cells.toList (by simp) n (by omega) b6 c.toNat
        obtain ⟨ev, hm⟩ := new_rel hnew hf (hfree id (by omega) (by omega)) hr ((hzc m).reps c.toNat) [] 0 (by omega) e
        rw [List.append_nil] at ev
        refine ⟨_, _, .slice (some ⟨w.heap.size, 0, none⟩) l.toNat c.toNat, ev, ?_, ⟨w.heap.size, 0, 0⟩, hm, by simp⟩
        have hbi : ∃ i, PP.info? e = some i ∧ i.bytes = by_ := by
          unfold bytesT at hby
          cases hi : PP.info? e with
          | none => rw [hi] at hby; cases hby
          | some i => rw [hi] at hby; exact ⟨i, rfl, by simpa using hby⟩
        obtain ⟨i, hi, hib⟩ := hbi
        have hti : (typeInfo e).run PP w = .ok i w := by simp [typeInfo, hi]
        have hc0 : ¬ c < 0 := by omega
        have hl0 : ¬ l < 0 := by omega
        have hlc : ¬ l > c := by omega
        have hcb : ¬ ((i.bytes : Int) * c > 2 ^ 48) := by
          have e1 : (c.toNat : Int) = c := by omega
          have e2 : ((c.toNat * by_ : Nat) : Int) = c * by_ := by rw [Int.natCast_mul, e1]
          rw [hib, Int.mul_comm]
          omega
        have hw1 : IntKind.i64.wrap c = c := wrap_small (by omega) (by omega)
        have hw2 : IntKind.i64.wrap l = l := wrap_small (by omega) (by omega)
        have hcond : (decide (c < 0) || decide ((i.bytes : Int) * c > 2 ^ 48)) = false := by rw [decide_eq_false hc0, decide_eq_false hcb]; rfl
        by_cases hz0 : c.toNat * n = 0
        · have hcz : c.toNat = 0 := by
            rcases Nat.mul_eq_zero.1 hz0 with h | h
            · exact h
            · omega
          have hr0 : ((Array.range (c.toNat * n)).map fun i => (#[] : Array Value)[i % (#[] : Array Value).size]!) = (repV zv.cells.toList c.toNat).toArray := by rw [hcz, Nat.zero_mul]; exact range0 _
          simp only [Instr.makeSlice, Sem.run_bind, run_underlying hu, Result.andThen_ok, asInt, asIntOf, Sem.run_pure, hti, hw1, hw2, hcond, Bool.false_or, hl0, hlc, decide_false, Bool.or_false, Bool.false_eq_true, if_false, run_askRoom, run_sz hn, if_pos hz0, hr0, newRow, run_newObj]
          rfl
        · simp only [Instr.makeSlice, Sem.run_bind, run_underlying hu, Result.andThen_ok, asInt, asIntOf, Sem.run_pure, hti, hw1, hw2, hcond, Bool.false_or, hl0, hlc, decide_false, Bool.or_false, Bool.false_eq_true, if_false, run_askRoom, run_sz hn, if_neg hz0, hzr, hrow, newRow, run_newObj]
          rfl
      · cases h
    · cases h
  · cases h

end Rn
end Go.Proofs.Ytgfcakdpfedokaa
