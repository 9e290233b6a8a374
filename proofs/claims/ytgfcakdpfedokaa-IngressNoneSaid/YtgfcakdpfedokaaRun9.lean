/- The runner's regions whose order is open are the model's, in every order: the proof. -/
import Derived.Test.YtgfcakdpfedokaaRun8
namespace Go.Proofs.Ytgfcakdpfedokaa
namespace Rn
set_option linter.unusedVariables false
set_option linter.unusedSimpArgs false

/-! what the checks say -/
def Closed (ops : List Oper) (X : Nat → Prop) : Prop := ∀ (k : Nat) (o : Oper), X k → ops[k]? = some o → ∀ e ∈ o.after.toList, Region.binds .any e = true → X e.on
def Cl (ops : List Oper) (acc : List Nat) : Prop := ∀ (j : Nat), j < acc.length → ∀ (o : Oper), ops[j]? = some o → ∀ (i : Nat), Nat.testBit (acc.getD j 0) i = true →
  ∀ X : Nat → Prop, Closed ops X → (∀ e ∈ o.after.toList, Region.binds .any e = true → X e.on) → X i
theorem closE_spec (acc : List Nat) (i : Nat) : ∀ (l : List Edge) (s : Nat), Nat.testBit (closE acc l s) i = true → Nat.testBit s i = true ∨ ∃ e ∈ l, Region.binds .any e = true ∧ e.on < acc.length ∧ (i = e.on ∨ Nat.testBit (acc.getD e.on 0) i = true)
  | [], s, h => .inl h
  | e :: l, s, h => by
    unfold closE at h
    rcases closE_spec acc i l _ h with h | ⟨e', he, h⟩
    · cases hb : (Region.binds .any e && Nat.blt e.on acc.length) with
      | false => rw [hb] at h; exact .inl h
      | true =>
        rw [hb] at h
        simp only [cond_true, lor_test, bit_test, Bool.or_eq_true, decide_eq_true_eq] at h
        simp only [Bool.and_eq_true] at hb
        rcases h with h | h | h
        · exact .inl h
        · exact .inr ⟨e, by simp, hb.1, blt_spec hb.2, .inl h⟩
        · exact .inr ⟨e, by simp, hb.1, blt_spec hb.2, .inr h⟩
    · exact .inr ⟨e', by simp [he], h⟩
theorem closF_spec (ops : List Oper) : ∀ (l pre : List Oper) (acc : List Nat), ops = pre ++ l → acc.length = pre.length → Cl ops acc → Cl ops (closF l acc) ∧ (closF l acc).length = ops.length
  | [], pre, acc, h, hl, hc => ⟨hc, by rw [h]; simp [closF, hl]⟩
  | o :: l, pre, acc, h, hl, hc => by
    unfold closF
    refine closF_spec ops l (pre ++ [o]) _ (by rw [h]; simp) (by simp [hl]) ?_
    intro j hj o' ho' i hi X hX he
    by_cases hjl : j < acc.length
    · rw [List.getD_eq_getElem?_getD, List.getElem?_append_left hjl, ← List.getD_eq_getElem?_getD] at hi
      exact hc j hjl o' ho' i hi X hX he
    · have hje : j = acc.length := by simp at hj; omega
      subst hje
      have : ops[acc.length]? = some o := by rw [h, hl]; simp
      rw [this] at ho'
      injection ho' with ho'
      subst ho'
      rw [List.getD_eq_getElem?_getD, List.getElem?_append_right (Nat.le_refl _), Nat.sub_self] at hi
      simp only [List.getElem?_cons_zero, Option.getD_some] at hi
      rcases closE_spec acc i _ _ hi with h0 | ⟨e, h1, h2, h3, h4⟩
      · simp at h0
      · have hXe := he e h1 h2
        rcases h4 with h4 | h4
        · rw [h4]; exact hXe
        · have hlt : e.on < ops.length := by rw [h]; simp; omega
          exact hc e.on h3 ops[e.on] (List.getElem?_eq_getElem hlt) i h4 X hX fun e' h' hb' => hX e.on _ hXe (List.getElem?_eq_getElem hlt) e' h' hb'
theorem closure_spec (ops : List Oper) : Cl ops (closure ops) ∧ (closure ops).length = ops.length :=
  closF_spec ops ops [] [] rfl rfl fun j hj => by simp at hj

theorem all_zipIdx {p : Oper × Nat → Bool} {l : List Oper} (h : (l.zipIdx).all p = true) {i : Nat} {o : Oper} (ho : l[i]? = some o) : p (o, i) = true := by
  refine List.all_eq_true.1 h (o, i) ?_
  rw [List.mem_zipIdx_iff_getElem?]
  exact ho
theorem backward_spec {l : List Oper} (h : backward l = true) {i : Nat} {o : Oper} (ho : l[i]? = some o) {e : Edge} (he : e ∈ o.after.toList) (hb : Region.binds .any e = true) : e.on < i := by
  have := all_zipIdx h ho
  simp only [List.all_eq_true] at this
  have := this e he
  rw [hb] at this
  exact blt_spec (by simpa using this)
theorem tmpsApart_spec {ops : Array Oper} (h : tmpsApart ops = true) {i j : Nat} {q o : Oper} (hij : i < j) (hq : ops.toList[i]? = some q) (ho : ops.toList[j]? = some o) :
    Nat.testBit ((closure ops.toList).getD j 0) i = true ∨ q.apart ops o = true := by
  have h1 := all_zipIdx h ho
  have h2 := all_zipIdx h1 hq
  have hb : Nat.blt i j = true := Nat.ble_eq_true_of_le hij
  simp only [hb, Bool.not_true, Bool.false_or, Bool.or_eq_true] at h2
  exact h2
theorem noClash_spec {logs : List (Nat × Nat)} : ∀ {l : List (Nat × Nat)}, noClash logs l = true → ∀ p ∈ l, clash (logs.getD p.1 (0, 0)) (logs.getD p.2 (0, 0)) = false
  | [], _, p, hp => by cases hp
  | q :: l, h, p, hp => by
    change Bool.rec (motive := fun _ => Bool) (noClash logs l) false (clash (logs.getD q.1 (0, 0)) (logs.getD q.2 (0, 0))) = true at h
    cases hc : clash (logs.getD q.1 (0, 0)) (logs.getD q.2 (0, 0)) with
    | true => rw [hc] at h; cases h
    | false =>
      rw [hc] at h
      rcases List.mem_cons.1 hp with rfl | hp
      · exact hc
      · exact noClash_spec h p hp
theorem noTouch_spec {logs : List (Nat × Nat)} : ∀ {l : List Nat}, noTouch logs l = true → ∀ j ∈ l, Nat.lor (logs.getD j (0, 0)).1 (logs.getD j (0, 0)).2 = 0
  | [], _, p, hp => by cases hp
  | q :: l, h, p, hp => by
    change Bool.rec (motive := fun _ => Bool) false (noTouch logs l) (Nat.beq (Nat.lor (logs.getD q (0, 0)).1 (logs.getD q (0, 0)).2) 0) = true at h
    cases hc : Nat.beq (Nat.lor (logs.getD q (0, 0)).1 (logs.getD q (0, 0)).2) 0 with
    | false => rw [hc] at h; cases h
    | true =>
      rw [hc] at h
      rcases List.mem_cons.1 hp with rfl | hp
      · exact Nat.eq_of_beq_eq_true hc
      · exact noTouch_spec h p hp
theorem openPairs_mem {l : List Oper} {i j : Nat} {q o : Oper} (hij : i < j) (hq : l[i]? = some q) (ho : l[j]? = some o) (h1 : loud o = true) (h2 : loud q = true) (h3 : Nat.testBit ((closure l).getD j 0) i = false) : (i, j) ∈ openPairs l := by
  unfold openPairs
  simp only [List.mem_flatMap]
  refine ⟨(o, j), by rw [List.mem_zipIdx_iff_getElem?]; exact ho, ?_⟩
  simp only [h1, cond_true, List.mem_filterMap]
  refine ⟨(q, i), by rw [List.mem_zipIdx_iff_getElem?]; exact hq, ?_⟩
  have hb : Nat.blt i j = true := Nat.ble_eq_true_of_le hij
  simp only [hb, h2, h3]; rfl
theorem quietIdx_mem {l : List Oper} {j : Nat} {o : Oper} (ho : l[j]? = some o) (h1 : loud o = false) : j ∈ quietIdx l := by
  unfold quietIdx
  simp only [List.mem_filterMap]
  exact ⟨(o, j), by rw [List.mem_zipIdx_iff_getElem?]; exact ho, by simp [h1]⟩

/-- two operations that no edge orders have nothing to do with each other -/
def Ind (ops : Array Oper) (lg : Nat → St) (i j : Nat) : Prop :=
  (∀ q o, ops[i]? = some q → ops[j]? = some o → (∀ d, q.dst = some d → d ∉ o.looksAt ops) ∧ (∀ d, q.dst = some d → o.dst ≠ some d) ∧ (∀ d, o.dst = some d → d ∉ q.looksAt ops)) ∧
  ∀ k, ((lg i).wr.testBit k = true → (lg j).rd.testBit k = false ∧ (lg j).wr.testBit k = false) ∧ ((lg j).wr.testBit k = true → (lg i).rd.testBit k = false)

theorem ind_of {ops : Array Oper} {lg : Nat → St} {n : Nat} (hn : n = ops.size) (hd : drawOk ops = true) {logs : List (Nat × Nat)} (hlogs : logs = (List.range' 0 n).map fun i => ((lg i).rd, (lg i).wr))
    (h1 : noClash logs (openPairs ops.toList) = true) (h2 : noTouch logs (quietIdx ops.toList) = true) {i j : Nat} (hij : i < j) (hj : j < n) :
    Nat.testBit ((closure ops.toList).getD j 0) i = true ∨ Ind ops lg i j := by
  unfold drawOk at hd
  simp only [Bool.and_eq_true] at hd
  have hlog : ∀ k, k < n → logs.getD k (0, 0) = ((lg k).rd, (lg k).wr) := by
    intro k hk
    rw [hlogs, List.getD_eq_getElem?_getD, List.getElem?_map, List.getElem?_range' hk]
    simp
  have hi : i < n := by omega
  have hq : ops.toList[i]? = some ops[i] := by rw [Array.getElem?_toList, Array.getElem?_eq_getElem]
  have ho : ops.toList[j]? = some ops[j] := by rw [Array.getElem?_toList, Array.getElem?_eq_getElem]
  rcases tmpsApart_spec hd.2 hij hq ho with h | h
  · exact .inl h
  · cases hc : Nat.testBit ((closure ops.toList).getD j 0) i with
    | true => exact .inl rfl
    | false =>
      refine .inr ⟨fun q o hq' ho' => ?_, fun k => ?_⟩
      · rw [Array.getElem?_eq_getElem (by omega)] at hq' ho'
        injection hq' with hq'
        injection ho' with ho'
        subst hq'; subst ho'
        exact Oper.apart_spec h
      · have zero : ∀ x (hx : x < n), loud (ops[x]'(by omega)) = false → ∀ k, (lg x).rd.testBit k = false ∧ (lg x).wr.testBit k = false := by
          intro x hx hl k
          have := noTouch_spec h2 x (quietIdx_mem (by rw [Array.getElem?_toList, Array.getElem?_eq_getElem]) hl)
          rw [hlog x hx] at this
          have ht := congrArg (Nat.testBit · k) this
          simp only [lor_test, Nat.zero_testBit, Bool.or_eq_false_iff] at ht
          exact ht
        cases hlj : loud (ops[j]'(by omega)) with
        | false =>
          have := zero j hj hlj k
          exact ⟨fun _ => this, (fun h => by rw [this.2] at h; cases h)⟩
        | true =>
          cases hli : loud (ops[i]'(by omega)) with
          | false =>
            have := zero i hi hli k
            exact ⟨(fun h => by rw [this.2] at h; cases h), fun _ => this.1⟩
          | true =>
            have := noClash_spec h1 _ (openPairs_mem hij hq ho hlj hli hc)
            rw [hlog i hi, hlog j hj] at this
            unfold clash at this
            simp only [Bool.not_eq_false', Bool.and_eq_true] at this
            have t1 := congrArg (Nat.testBit · k) (Nat.eq_of_beq_eq_true this.1)
            have t2 := congrArg (Nat.testBit · k) (Nat.eq_of_beq_eq_true this.2)
            simp only [land_test, lor_test, Nat.zero_testBit] at t1 t2
            refine ⟨fun h => ?_, fun h => ?_⟩
            · rw [h, Bool.true_and, Bool.or_eq_false_iff] at t1; exact t1
            · rw [h, Bool.true_and] at t2; exact t2
end Rn
end Go.Proofs.Ytgfcakdpfedokaa
