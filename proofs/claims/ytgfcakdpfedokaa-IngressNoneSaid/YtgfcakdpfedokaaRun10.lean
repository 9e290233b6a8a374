/- The runner's regions whose order is open: every order comes to the same. -/
import Derived.Test.YtgfcakdpfedokaaRun9
namespace Go.Proofs.Ytgfcakdpfedokaa
namespace Rn
set_option linter.unusedVariables false
set_option linter.unusedSimpArgs false

theorem mixed : PP.follows .mixedOrders = true := by kernel_rfl

def wt (ops : Array Oper) (t : Nat) (i : Nat) : Bool := decide ((ops[i]?).bind (·.dst) = some t)
def wi (lg : Nat → St) (id : Nat) (i : Nat) : Bool := (lg i).wr.testBit id

section
variable {call : CallF} {ops : Array Oper} {nt n : Nat} {tms : Nat → T AV} {sts lg : Nat → St}

theorem Trace.ab (hc : CallSnd call) (tr : Trace call ops nt n tms sts lg) (i : Nat) (hi : i < n) : Ab ⟨(sts i).h, (sts i).nx, 0, 0⟩ (lg i) := by
  obtain ⟨o, v, _, hv, _⟩ := tr.step i hi
  exact (valOp_spec (nt := nt) hc hv).1
theorem Ab.lift {S L : St} (h : Ab ⟨S.h, S.nx, 0, 0⟩ L) : Ab S ⟨L.h, L.nx, Nat.lor S.rd L.rd, Nat.lor S.wr L.wr⟩ :=
  ⟨fun k e => by rw [lor_test, e]; rfl, fun k e => by rw [lor_test, e]; rfl, h.nx, h.top, fun k hk e => by
    rw [lor_test, Bool.or_eq_false_iff] at e
    exact h.same k hk e.2, fun k h1 h2 => by rw [lor_test, h.new k h1 h2, Bool.or_true], fun k e => by
    rw [lor_test, Bool.or_eq_true] at e
    rcases e with e | e
    · exact .inl e
    · rcases h.live k e with e | e
      · simp at e
      · exact .inr e⟩
theorem Trace.abS (hc : CallSnd call) (tr : Trace call ops nt n tms sts lg) {i j : Nat} (hij : i ≤ j) (hj : j ≤ n) : Ab (sts i) (sts j) := by
  induction j with
  | zero => have : i = 0 := by omega
            subst this; exact Ab.rfl
  | succ j ih =>
    by_cases h : i = j + 1
    · subst h; exact Ab.rfl
    · refine (ih (by omega) (by omega)).trans ?_
      rw [tr.next j (by omega)]
      exact (tr.ab hc j (by omega)).lift
theorem Trace.nx (tr : Trace call ops nt n tms sts lg) {i : Nat} (hi : i < n) : (sts (i + 1)).nx = (lg i).nx := by rw [tr.next i hi]
theorem Trace.h (tr : Trace call ops nt n tms sts lg) {i : Nat} (hi : i < n) : (sts (i + 1)).h = (lg i).h := by rw [tr.next i hi]
theorem Trace.logs (hc : CallSnd call) (tr : Trace call ops nt n tms sts lg) {i : Nat} (hi : i < n) (k : Nat) :
    ((lg i).rd.testBit k = true → (sts n).rd.testBit k = true) ∧ ((lg i).wr.testBit k = true → (sts n).wr.testBit k = true) := by
  have ab := tr.abS hc (i := i + 1) (j := n) (by omega) (Nat.le_refl _)
  have hn := tr.next i hi
  refine ⟨fun h => ab.rd k ?_, fun h => ab.wr k ?_⟩
  · rw [hn]; simp only [lor_test, h, Bool.or_true]
  · rw [hn]; simp only [lor_test, h, Bool.or_true]
theorem Trace.hstay (hc : CallSnd call) (tr : Trace call ops nt n tms sts lg) {id : Nat} (hid : id < 32768) {i : Nat} (hi : i < n) (h : wi lg id i = false) : H.get (sts (i + 1)).h id = H.get (sts i).h id := by
  rw [tr.h hi]
  exact (tr.ab hc i hi).same id hid h
theorem Trace.tstay (tr : Trace call ops nt n tms sts lg) (hnt : nt ≤ 511) {t : Nat} (ht : t < 511) {i : Nat} (hi : i < n) (h : wt ops t i = false) : T.get (tms (i + 1)) t = T.get (tms i) t := by
  obtain ⟨o, v, ho, _, hd, e⟩ := tr.step i hi
  rw [e]
  unfold setT
  unfold wt at h
  rw [ho] at h
  simp only [Option.bind_some, decide_eq_false_iff_not] at h
  cases hdst : o.dst with
  | none => rfl
  | some k =>
    simp only
    rw [T.get_set _ _ _ _ (Nat.lt_of_lt_of_le (hd k hdst) (Nat.le_trans hnt (by decide))) (Nat.lt_of_lt_of_le ht (by decide)), if_neg (by rintro rfl; exact h hdst)]

theorem Trace.marks (tr : Trace call ops nt n tms sts lg) (hnt : nt ≤ 511) : ∀ i, i ≤ n → marks (tms i) = marks (tms 0)
  | 0, _ => rfl
  | i + 1, hi => by
    obtain ⟨o, v, ho, _, hd, e⟩ := tr.step i (by omega)
    rw [e, ← tr.marks hnt i (by omega)]
    unfold setT
    cases hdst : o.dst with
    | none => rfl
    | some k => exact marks_set (Nat.lt_of_lt_of_le (hd k hdst) hnt)

/-- what holds when the operations of X have been done, in whatever order -/
structure Inv (ops : Array Oper) (nt n : Nat) (tms : Nat → T AV) (sts lg : Nat → St) (F G : Nat → Prop) (m0 : M) (w0 : World) (X : Nat → Bool) (m : M) (a : Act) (w : World) : Prop where
  tm : ∀ t v, t < 511 → T.get (tms (lastW n X (wt ops t))) t = some v → ∃ u, a.tmps[t]? = some u ∧ CR m v u
  sz : a.tmps.size = nt
  df : DR m (marks (tms 0)) a.defers
  obj : ∀ id o, id < 32768 → F id → H.get (sts (lastW n X (wi lg id))).h id = some o → ∃ L, m id = some L ∧ OR m w L o
  apart : ∀ id id' o o' L L', id < 32768 → id' < 32768 → F id → F id' → H.get (sts (lastW n X (wi lg id))).h id = some o → H.get (sts (lastW n X (wi lg id'))).h id' = some o' → m id = some L → m id' = some L' → id ≠ id' → L.blk ≠ L'.blk
  free : ∀ i, i < n → X i = false → ∀ k, (sts i).nx ≤ k → k < (sts (i + 1)).nx → m k = none
  old : ∀ k, k < (sts 0).nx ∨ (sts n).nx ≤ k → m k = m0 k
  sub : Sub m0 m
  size : w0.heap.size ≤ w.heap.size
  keep : ∀ b, b < w0.heap.size → (∀ k L, G k → m0 k = some L → L.blk ≠ b) → w.heap[b]? = w0.heap[b]?
  fresh : ∀ k L, (sts 0).nx ≤ k → k < (sts n).nx → m k = some L → w0.heap.size ≤ L.blk ∨ ∃ k0 L0, G k0 ∧ m0 k0 = some L0 ∧ L.blk = L0.blk
  os : w.os = w0.os
  tape : w.tape = w0.tape
  output : w.output = w0.output

theorem Inv.step {r : Option Nat} (hc : CallSnd call) (tr : Trace call ops nt n tms sts lg) (hnt : nt ≤ 511) {F G : Nat → Prop} {m0 : M} {w0 : World} (hf : Fits F G (sts n)) {X : Nat → Bool} {m : M} {a : Act} {w : World}
    (inv : Inv ops nt n tms sts lg F G m0 w0 X m a w) {j : Nat} (hj : j < n) (hX : X j = false)
    (hlt : ∀ i, i < j → X i = true ∨ Ind ops lg i j) (hgt : ∀ i, j < i → i < n → X i = false ∨ Ind ops lg j i) {o : Oper} (ho : ops[j]? = some o) (K : Act → World → Prop) (Q : Exit → Act → World → Prop)
    (hK : ∀ m' a' w', Inv ops nt n tms sts lg F G m0 w0 (fun i => X i || i == j) m' a' w' → K a' w') : opWp r ops o K Q a w := by
  obtain ⟨o', v, ho', hv, hd, hset⟩ := tr.step j hj
  rw [ho] at ho'
  injection ho' with ho'
  subst ho'
  have habj := tr.ab hc j hj
  -- the last writer of what the operation touches, or writes, is that of the text's order
  have cut : ∀ (W : Nat → Bool), (∀ i, i < j → Ind ops lg i j → W i = false) → (∀ i, j < i → i < n → Ind ops lg j i → W i = false) → lastW n X W = lastW j (fun _ => true) W := by
    intro W h1 h2
    refine lastW_cut n (by omega) fun i hi => ?_
    rcases Nat.lt_trichotomy i j with h | h | h
    · rw [decide_eq_true h]
      rcases hlt i h with h' | h'
      · rw [h']
      · rw [h1 i h h', Bool.and_false, Bool.and_false]
    · subst h; rw [hX, decide_eq_false (Nat.lt_irrefl _)]
    · rw [decide_eq_false (by omega)]
      rcases hgt i h hi with h' | h'
      · rw [h']
      · rw [h2 i h hi h', Bool.and_false, Bool.and_false]
  have cutH : ∀ id, id < 32768 → ((lg j).rd.testBit id = true ∨ (lg j).wr.testBit id = true) → H.get (sts (lastW n X (wi lg id))).h id = H.get (sts j).h id := by
    intro id hid hb
    rw [cut (wi lg id) (fun i hi hI => by
      cases hw : wi lg id i with
      | false => rfl
      | true =>
        have := (hI.2 id).1 hw
        rcases hb with hb | hb
        · rw [this.1] at hb; cases hb
        · rw [this.2] at hb; cases hb) (fun i hi hin hI => by
      cases hw : wi lg id i with
      | false => rfl
      | true =>
        rcases hb with hb | hb
        · have := (hI.2 id).2 hw; rw [this] at hb; cases hb
        · have := (hI.2 id).1 hb; unfold wi at hw; rw [this.2] at hw; cases hw)]
    exact lastW_val (fun k => H.get (sts k).h id) (wi lg id) j fun i hi hw => tr.hstay hc hid (by omega) hw
  have cutT : ∀ t, t < 511 → (t ∈ o.looksAt ops ∨ o.dst = some t) → lastW n X (wt ops t) = lastW j (fun _ => true) (wt ops t) := by
    intro t ht hb
    refine cut (wt ops t) (fun i hi hI => ?_) (fun i hi hin hI => ?_)
    · cases hw : wt ops t i with
      | false => rfl
      | true =>
        unfold wt at hw
        simp only [decide_eq_true_eq] at hw
        cases hq : ops[i]? with
        | none => rw [hq] at hw; cases hw
        | some q =>
          rw [hq] at hw
          have hI1 := hI.1 q o hq ho
          rcases hb with hb | hb
          · exact absurd hb (hI1.1 t hw)
          · exact absurd hb (hI1.2.1 t hw)
    · cases hw : wt ops t i with
      | false => rfl
      | true =>
        unfold wt at hw
        simp only [decide_eq_true_eq] at hw
        cases hq : ops[i]? with
        | none => rw [hq] at hw; cases hw
        | some q =>
          rw [hq] at hw
          have hI1 := hI.1 o q ho hq
          rcases hb with hb | hb
          · exact absurd hb (hI1.2.2 t hw)
          · exact absurd hw (hI1.2.1 t hb)
  -- the operation, run from where it would be run in the text's order
  rw [← valOp_congr (tm := restr (tms j) (o.looksAt ops)) (fun t ht => restr_getO _ _ _ ht)] at hv
  obtain ⟨_, hs⟩ := valOp_spec (nt := nt) hc hv
  refine hs r (fun k => (lg j).rd.testBit k = true ∨ (lg j).wr.testBit k = true) (fun k => (lg j).wr.testBit k = true) m w a K Q ⟨fun k h => .inl h, fun k h => ⟨.inr h, h⟩⟩ (fun k h1 h2 => inv.free j hj hX k h1 (by rw [tr.nx hj]; exact h2)) ?_ ?_ ?_
  · refine ⟨fun id o1 hid hF hg => ?_, fun id id' o1 o2 L L' hid hid' hF hF' hg hg' hm hm' hne => ?_⟩
    · rw [← cutH id hid hF] at hg
      refine inv.obj id o1 hid ?_ hg
      rcases hF with h | h
      · exact hf.1 id ((tr.logs hc hj id).1 h)
      · exact (hf.2 id ((tr.logs hc hj id).2 h)).1
    · rw [← cutH id hid hF] at hg
      rw [← cutH id' hid' hF'] at hg'
      have toF : ∀ id, ((lg j).rd.testBit id = true ∨ (lg j).wr.testBit id = true) → F id := fun id h => by
        rcases h with h | h
        · exact hf.1 id ((tr.logs hc hj id).1 h)
        · exact (hf.2 id ((tr.logs hc hj id).2 h)).1
      exact inv.apart id id' o1 o2 L L' hid hid' (toF id hF) (toF id' hF') hg hg' hm hm' hne
  · refine ⟨fun t x ht hx => ?_, inv.sz, by rw [restr_marks, tr.marks hnt j (by omega)]; exact inv.df⟩
    rw [restr_get _ _ _ ht] at hx
    split at hx
    · rename_i hmem
      refine inv.tm t x ht ?_
      rw [cutT t ht (.inl hmem)]
      rw [lastW_val (fun k => T.get (tms k) t) (wt ops t) j fun i hi hw => tr.tstay hnt ht (by omega) hw]
      exact hx
    · cases hx
  · intro m' u w' ev hcr
    refine hK m' (a.put o.dst u) w' ?_
    have hG : ∀ k, (lg j).wr.testBit k = true → F k ∧ G k := fun k h => hf.2 k ((tr.logs hc hj k).2 h)
    have hFj : ∀ k, ((lg j).rd.testBit k = true ∨ (lg j).wr.testBit k = true) → F k := fun k h => by
      rcases h with h | h
      · exact hf.1 k ((tr.logs hc hj k).1 h)
      · exact (hG k h).1
    have nx0 : (sts 0).nx ≤ (sts j).nx := (tr.abS hc (i := 0) (j := j) (by omega) (by omega)).nx
    have nxj : (sts j).nx ≤ (sts (j + 1)).nx := (tr.abS hc (i := j) (j := j + 1) (by omega) (by omega)).nx
    have nxn : (sts (j + 1)).nx ≤ (sts n).nx := (tr.abS hc (i := j + 1) (j := n) (by omega) (by omega)).nx
    have hold : ∀ k, k < (sts j).nx ∨ (sts (j + 1)).nx ≤ k → m' k = m k := fun k hk => ev.old k (by rw [tr.nx hj] at hk; exact hk)
    -- the new last writers
    have newH : ∀ id, (lg j).wr.testBit id = true → lastW n (fun i => X i || i == j) (wi lg id) = j + 1 := by
      intro id hw
      refine lastW_new (X := X) (show wi lg id j = true from hw) (by simp) n hj fun i hi hji => ?_
      have hne : (i == j) = false := by simp; omega
      rw [hne, Bool.or_false]
      rcases hgt i hji hi with h | h
      · rw [h, Bool.false_and]
      · have := ((h.2 id).1 hw).2
        show (X i && (lg i).wr.testBit id) = false
        rw [this, Bool.and_false]
    have sameH : ∀ id, (lg j).wr.testBit id = false → lastW n (fun i => X i || i == j) (wi lg id) = lastW n X (wi lg id) := by
      intro id hw
      refine lastW_congr n fun i hi => ?_
      by_cases hij : i = j
      · subst hij; show ((X i || i == i) && (lg i).wr.testBit id) = (X i && (lg i).wr.testBit id); rw [hw, Bool.and_false, Bool.and_false]
      · have hne : (i == j) = false := by simpa using hij
        rw [hne, Bool.or_false]
    have getH : ∀ id, id < 32768 → H.get (sts (lastW n (fun i => X i || i == j) (wi lg id))).h id = if ((lg j).rd.testBit id || (lg j).wr.testBit id) = true then H.get (lg j).h id else H.get (sts (lastW n X (wi lg id))).h id := by
      intro id hid
      cases hw : (lg j).wr.testBit id with
      | true => rw [newH id hw, tr.h hj, Bool.or_true, if_pos rfl]
      | false =>
        rw [sameH id hw, Bool.or_false]
        cases hr : (lg j).rd.testBit id with
        | false => simp
        | true =>
          rw [if_pos rfl, cutH id hid (.inl hr)]
          exact (habj.same id hid hw).symm
    -- blocks that the operation does not touch
    have blkKeep : ∀ id o1 L, id < 32768 → F id → ¬ ((lg j).rd.testBit id || (lg j).wr.testBit id) = true → H.get (sts (lastW n X (wi lg id))).h id = some o1 → m id = some L → L.blk < w.heap.size → w'.heap[L.blk]? = w.heap[L.blk]? := by
      intro id o1 L hid hF hnt' hg hm hb
      refine ev.keep L.blk hb fun k L' hk hm' => ?_
      rcases habj.live k hk with h | h | h
      · simp at h
      · rw [inv.free j hj hX k h.1 (by rw [tr.nx hj]; exact h.2)] at hm'; cases hm'
      · obtain ⟨o2, ho2⟩ := Option.isSome_iff_exists.1 h.2
        have hg2 : H.get (sts (lastW n X (wi lg k))).h k = some o2 := by rw [cutH k h.1 (.inr hk)]; exact ho2
        exact inv.apart k id o2 o1 L' L h.1 hid (hG k hk).1 hF hg2 hg hm' hm (by rintro rfl; exact hnt' (by rw [hk, Bool.or_true]))
    -- what is there behind it was there ahead of it, or is new
    have back : ∀ id o1, id < 32768 → ((lg j).rd.testBit id = true ∨ (lg j).wr.testBit id = true) → H.get (lg j).h id = some o1 → ((sts j).nx ≤ id ∧ id < (sts (j + 1)).nx) ∨ ∃ o2, H.get (sts (lastW n X (wi lg id))).h id = some o2 := by
      intro id o1 hid hb hg
      cases hw : (lg j).wr.testBit id with
      | false =>
        rw [habj.same id hid hw] at hg
        exact .inr ⟨o1, by rw [cutH id hid hb]; exact hg⟩
      | true =>
        rcases habj.live id hw with h | h | h
        · simp at h
        · exact .inl ⟨h.1, by rw [tr.nx hj]; exact h.2⟩
        · obtain ⟨o2, ho2⟩ := Option.isSome_iff_exists.1 h.2
          exact .inr ⟨o2, by rw [cutH id hid hb]; exact ho2⟩
    have apartOne : ∀ id id' o1 o2 L L', id < 32768 → id' < 32768 → F id → F id' → ((lg j).rd.testBit id || (lg j).wr.testBit id) = true → ¬ ((lg j).rd.testBit id' || (lg j).wr.testBit id') = true →
        H.get (lg j).h id = some o1 → H.get (sts (lastW n X (wi lg id'))).h id' = some o2 → m' id = some L → m' id' = some L' → L.blk ≠ L'.blk := by
      intro id id' o1 o2 L L' hid hid' hF hF' hb hb' hg hg' hm hm'
      have hb2 : (lg j).rd.testBit id = true ∨ (lg j).wr.testBit id = true := by simpa using hb
      have hid'' : ¬ ((sts j).nx ≤ id' ∧ id' < (sts (j + 1)).nx) := fun h => hb' (by rw [habj.new id' h.1 (by rw [← tr.nx hj]; exact h.2), Bool.or_true])
      rw [hold id' (by omega)] at hm'
      rcases back id o1 hid hb2 hg with h | ⟨o3, h⟩
      · rcases ev.fresh id L h.1 (by rw [← tr.nx hj]; exact h.2) hm with h1 | ⟨k0, L0, h1, h2, h3⟩
        · obtain ⟨L2, hL2, hO⟩ := inv.obj id' o2 hid' hF' hg'
          rw [hm'] at hL2
          injection hL2 with hL2
          subst hL2
          have := hO.lt
          omega
        · rcases habj.live k0 h1 with h4 | h4 | h4
          · simp at h4
          · rw [inv.free j hj hX k0 h4.1 (by rw [tr.nx hj]; exact h4.2)] at h2; cases h2
          · obtain ⟨o4, ho4⟩ := Option.isSome_iff_exists.1 h4.2
            rw [h3]
            exact inv.apart k0 id' o4 o2 L0 L' h4.1 hid' (hG k0 h1).1 hF' (by rw [cutH k0 h4.1 (.inr h1)]; exact ho4) hg' h2 hm' (by rintro rfl; exact hb' (by rw [h1, Bool.or_true]))
      · have hidn : ¬ ((sts j).nx ≤ id ∧ id < (sts (j + 1)).nx) ∨ ((sts j).nx ≤ id ∧ id < (sts (j + 1)).nx) := by omega
        rcases hidn with hidn | hidn
        · rw [hold id (by omega)] at hm
          exact inv.apart id id' o3 o2 L L' hid hid' hF hF' h hg' hm hm' (by rintro rfl; exact hb' hb)
        · rcases ev.fresh id L hidn.1 (by rw [← tr.nx hj]; exact hidn.2) hm with h1 | ⟨k0, L0, h1, h2, h3⟩
          · obtain ⟨L2, hL2, hO⟩ := inv.obj id' o2 hid' hF' hg'
            rw [hm'] at hL2
            injection hL2 with hL2
            subst hL2
            have := hO.lt
            omega
          · rcases habj.live k0 h1 with h4 | h4 | h4
            · simp at h4
            · rw [inv.free j hj hX k0 h4.1 (by rw [tr.nx hj]; exact h4.2)] at h2; cases h2
            · obtain ⟨o4, ho4⟩ := Option.isSome_iff_exists.1 h4.2
              rw [h3]
              exact inv.apart k0 id' o4 o2 L0 L' h4.1 hid' (hG k0 h1).1 hF' (by rw [cutH k0 h4.1 (.inr h1)]; exact ho4) hg' h2 hm' (by rintro rfl; exact hb' (by rw [h1, Bool.or_true]))
    -- the blocks as the start knew them
    have key : ∀ k L, G k → m k = some L → w0.heap.size ≤ L.blk ∨ ∃ k0 L0, G k0 ∧ m0 k0 = some L0 ∧ L.blk = L0.blk := by
      intro k L hk e
      by_cases hin : k < (sts 0).nx ∨ (sts n).nx ≤ k
      · exact .inr ⟨k, L, hk, by rw [← inv.old k hin]; exact e, rfl⟩
      · exact inv.fresh k L (by omega) (by omega) e
    refine ⟨fun t x ht hx => ?_, by cases hdst : o.dst <;> simpa [Act.put] using inv.sz, by cases hdst : o.dst <;> exact inv.df.mono ev.sub, fun id o1 hid hF hg => ?_, fun id id' o1 o2 L L' hid hid' hF hF' hg hg' hm hm' hne => ?_,
      fun i hi hXi k h1 h2 => ?_, fun k hk => ?_, inv.sub.trans ev.sub, Nat.le_trans inv.size ev.size, fun b hb hb' => ?_, fun k L h1 h2 e => ?_, ev.os.trans inv.os, ev.tape.trans inv.tape, ev.output.trans inv.output⟩
    · -- tmps
      by_cases hdt : o.dst = some t
      · have hl : lastW n (fun i => X i || i == j) (wt ops t) = j + 1 := by
          refine lastW_new (X := X) (by unfold wt; rw [ho]; simpa using hdt) (by simp) n hj fun i hi hji => ?_
          have hne : (i == j) = false := by simp; omega
          rw [hne, Bool.or_false]
          rcases hgt i hji hi with h | h
          · rw [h, Bool.false_and]
          · cases hw : wt ops t i with
            | false => rw [Bool.and_false]
            | true =>
              unfold wt at hw
              simp only [decide_eq_true_eq] at hw
              cases hq : ops[i]? with
              | none => rw [hq] at hw; cases hw
              | some q =>
                rw [hq] at hw
                exact absurd hw ((h.1 o q ho hq).2.1 t hdt)
        rw [hl, hset] at hx
        unfold setT at hx
        rw [hdt] at hx
        simp only at hx
        have hdn := hd t hdt
        rw [T.get_set _ _ _ _ (Nat.lt_of_lt_of_le ht (by decide)) (Nat.lt_of_lt_of_le ht (by decide)), if_pos rfl] at hx
        injection hx with hx
        subst hx
        refine ⟨u, ?_, hcr⟩
        have hs := inv.sz
        rw [hdt]
        simp only [Act.put]
        rw [Array.getElem?_setIfInBounds_self_of_lt (by rw [hs]; exact hdn)]
      · have hl : lastW n (fun i => X i || i == j) (wt ops t) = lastW n X (wt ops t) := by
          refine lastW_congr n fun i hi => ?_
          by_cases hij : i = j
          · subst hij
            have : wt ops t i = false := by unfold wt; rw [ho]; simpa using hdt
            rw [this, Bool.and_false, Bool.and_false]
          · have hne : (i == j) = false := by simpa using hij
            rw [hne, Bool.or_false]
        rw [hl] at hx
        obtain ⟨y, h1, h2⟩ := inv.tm t x ht hx
        refine ⟨y, ?_, h2.mono ev.sub⟩
        cases hdst : o.dst with
        | none => exact h1
        | some k =>
          simp only [Act.put]
          rw [Array.getElem?_setIfInBounds_ne (by rintro rfl; exact hdt hdst)]
          exact h1
    · -- blocks
      rw [getH id hid] at hg
      split at hg
      · rename_i hb
        exact ev.rel.obj id o1 hid (by simpa using hb) hg
      · rename_i hb
        obtain ⟨L, hL, hO⟩ := inv.obj id o1 hid hF hg
        exact ⟨L, ev.sub _ _ hL, hO.congr ev.sub (blkKeep id o1 L hid hF hb hg hL hO.lt)⟩
    · rw [getH id hid] at hg
      rw [getH id' hid'] at hg'
      split at hg
      · rename_i hb
        split at hg'
        · rename_i hb'
          exact ev.rel.apart id id' o1 o2 L L' hid hid' (by simpa using hb) (by simpa using hb') hg hg' hm hm' hne
        · rename_i hb'
          exact apartOne id id' o1 o2 L L' hid hid' hF hF' hb hb' hg hg' hm hm'
      · rename_i hb
        split at hg'
        · rename_i hb'
          exact (apartOne id' id o2 o1 L' L hid' hid hF' hF hb' hb hg' hg hm' hm).symm
        · rename_i hb'
          have n1 : ¬ ((sts j).nx ≤ id ∧ id < (sts (j + 1)).nx) := fun h => hb (by rw [habj.new id h.1 (by rw [← tr.nx hj]; exact h.2), Bool.or_true])
          have n2 : ¬ ((sts j).nx ≤ id' ∧ id' < (sts (j + 1)).nx) := fun h => hb' (by rw [habj.new id' h.1 (by rw [← tr.nx hj]; exact h.2), Bool.or_true])
          rw [hold id (by omega)] at hm
          rw [hold id' (by omega)] at hm'
          exact inv.apart id id' o1 o2 L L' hid hid' hF hF' hg hg' hm hm' hne
    · -- free
      simp only [Bool.or_eq_false_iff] at hXi
      have hij : i ≠ j := by simpa using hXi.2
      have : k < (sts j).nx ∨ (sts (j + 1)).nx ≤ k := by
        rcases Nat.lt_or_gt_of_ne hij with h | h
        · have := (tr.abS hc (i := i + 1) (j := j) (by omega) (by omega)).nx; omega
        · have := (tr.abS hc (i := j + 1) (j := i) (by omega) (by omega)).nx; omega
      rw [hold k this]
      exact inv.free i hi hXi.1 k h1 h2
    · rw [hold k (by omega)]
      exact inv.old k hk
    · rw [ev.keep b (Nat.lt_of_lt_of_le hb inv.size) ?_, inv.keep b hb hb']
      intro k L hk e heq
      rcases key k L (hG k hk).2 e with h | ⟨k0, L0, h1, h2, h3⟩
      · omega
      · exact hb' k0 L0 h1 h2 (by omega)
    · by_cases hin : k < (sts j).nx ∨ (sts (j + 1)).nx ≤ k
      · rw [hold k hin] at e
        exact inv.fresh k L h1 h2 e
      · rcases ev.fresh k L (show (sts j).nx ≤ k by omega) (by rw [← tr.nx hj]; omega) e with h | ⟨k0, L0, h3, h4, h5⟩
        · exact .inl (Nat.le_trans inv.size h)
        · rcases key k0 L0 (hG k0 h3).2 h4 with h | ⟨k1, L1, a1, a2, a3⟩
          · exact .inl (by omega)
          · exact .inr ⟨k1, L1, a1, a2, by omega⟩
end
end Rn
end Go.Proofs.Ytgfcakdpfedokaa
