/- The runner's regions whose order is open are the model's, in every order. -/
import Derived.Test.YtgfcakdpfedokaaRun7
namespace Go.Proofs.Ytgfcakdpfedokaa
namespace Rn
set_option linter.unusedVariables false
set_option linter.unusedSimpArgs false

/-! what an operation looks at -/
theorem evalL_congr {tm tm' : T AV} : ∀ {l : List Operand}, (∀ x ∈ l, evalO x tm = evalO x tm') → evalL l tm = evalL l tm'
  | [], _ => rfl
  | o :: l, h => by
    change evalLc (evalO o tm) (evalL l tm) = evalLc (evalO o tm') (evalL l tm')
    rw [h o (by simp), evalL_congr fun x hx => h x (by simp [hx])]
theorem evalP_congr {tm tm' : T AV} : ∀ {l : List (Nat × Operand)}, (∀ x ∈ l.map (·.2), evalO x tm = evalO x tm') → evalP l tm = evalP l tm'
  | [], _ => rfl
  | (i, o) :: l, h => by
    simp only [evalP]
    rw [h o (by simp), evalP_congr fun x hx => h x (by simp at hx ⊢; exact .inr hx)]
theorem aOp_congr {tm tm' : T AV} {op : Op} (S : St) (h : ∀ x ∈ op.operands, evalO x tm = evalO x tm') : aOp op tm S = aOp op tm' S := by
  cases op <;> simp only [Op.operands] at h
  case move x => exact congrArg (asVal · S) (h x (by simp))
  case assign x => exact congrArg (asVal · S) (h x (by simp))
  case pick c x y =>
    show opPick c x y tm S = opPick c x y tm' S
    unfold opPick pick2
    rw [h c (by simp), h x (by simp), h y (by simp)]
  case alloc e => rfl
  case box e x => show on1S opBox _ S = on1S opBox _ S; rw [h x (by simp)]
  case build t ps => show onP _ _ S = onP _ _ S; rw [evalP_congr fun x hx => h x (by simpa using hx)]
  case buildSlice t n ps => show onP _ _ S = onP _ _ S; rw [evalP_congr fun x hx => h x (by simpa using hx)]
  case load t x => show on1S _ _ S = on1S _ _ S; rw [h x (by simp)]
  case store t x y => show opStore t _ _ S = opStore t _ _ S; rw [h x (by simp), h y (by simp)]
  case nilCheck x => show on1 _ _ S = on1 _ _ S; rw [h x (by simp)]
  case binOp b t x y yt => show on2 _ _ _ S = on2 _ _ _ S; rw [h x (by simp), h y (by simp)]
  case unOp u t x => show on1 _ _ S = on1 _ _ S; rw [h x (by simp)]
  case convert s d x => show on1S _ _ S = on1S _ _ S; rw [h x (by simp)]
  case makeInterface t x => show on1 _ _ S = on1 _ _ S; rw [h x (by simp)]
  case makeFunc fn first cap =>
    show opFunc fn _ _ S = opFunc fn _ _ S
    rw [evalL_congr (l := first.toList) fun x hx => h x (by simp at hx ⊢; exact .inl hx), evalL_congr (l := cap.toList) fun x hx => h x (by simp at hx ⊢; exact .inr hx)]
  case makeSlice t l c => show opMakeSlice t _ _ S = opMakeSlice t _ _ S; rw [h l (by simp), h c (by simp)]
  case slice t x lo hi mx =>
    show opSlice t _ _ _ _ S = opSlice t _ _ _ _ S
    rw [h x (by simp), evalL_congr (l := lo.toList) fun y hy => h y (by simp at hy ⊢; simp [hy]), evalL_congr (l := hi.toList) fun y hy => h y (by simp at hy ⊢; simp [hy]), evalL_congr (l := mx.toList) fun y hy => h y (by simp at hy ⊢; simp [hy])]
  case makeMap t r => show opMakeMap t _ S = opMakeMap t _ S; rw [evalL_congr (l := r.toList) fun y hy => h y (by simpa using hy)]
  case lookup t x k ok => show opGet t ok _ _ S = opGet t ok _ _ S; rw [h x (by simp), h k (by simp)]
  case mapUpdate t x k y => show opMap3 t _ _ _ S = opMap3 t _ _ _ S; rw [h x (by simp), h k (by simp), h y (by simp)]
  case insert t x k y => show opMap3 t _ _ _ S = opMap3 t _ _ _ S; rw [h x (by simp), h k (by simp), h y (by simp)]
  case fieldAddr t x k => show on1 _ _ S = on1 _ _ S; rw [h x (by simp)]
  case field t x k => show on1 _ _ S = on1 _ _ S; rw [h x (by simp)]
  case indexAddr t x y => show on2 _ _ _ S = on2 _ _ _ S; rw [h x (by simp), h y (by simp)]
  case index t x y => show on2 _ _ _ S = on2 _ _ _ S; rw [h x (by simp), h y (by simp)]
  case extract x k => show on1 _ _ S = on1 _ _ S; rw [h x (by simp)]
  case call c =>
    show aCall c tm S = aCall c tm' S
    unfold aCall
    rw [evalL_congr (l := c.args.toList) fun x hx => h x (by simp [Call.operands]; exact .inr (by simpa using hx))]
    split
    · rfl
    · rename_i args _
      obtain ⟨cal, cargs, ctys⟩ := c
      simp only
      unfold aCallee
      cases cal with
      | builtin b => rfl
      | invoke r name => simp only; rw [h r (by simp [Call.operands])]
      | value f => simp only; rw [h f (by simp [Call.operands])]
  all_goals rfl
theorem evalO_congr {tm tm' : T AV} {x : Operand} (h : ∀ t, x = .tmp t → getO t tm = getO t tm') : evalO x tm = evalO x tm' := by
  cases x with
  | tmp t => exact h t rfl
  | _ => rfl
theorem valOp_congr {call : CallF} {ops : Array Oper} {o : Oper} {tm tm' : T AV} {S : St} (h : ∀ t ∈ o.looksAt ops, getO t tm = getO t tm') : valOp call ops o tm S = valOp call ops o tm' S := by
  have h1 : aOp o.op tm S = aOp o.op tm' S := aOp_congr S fun x hx => evalO_congr fun t ht => h t (by
    subst ht
    exact List.mem_append_left _ (List.mem_filterMap.2 ⟨.tmp t, by simpa using hx, rfl⟩))
  unfold valOp
  cases hg : o.guard with
  | none => exact congrArg (valIn call) h1
  | some p =>
    obtain ⟨j, b⟩ := p
    show guardG ops j b tm (valIn call (aOp o.op tm S)) _ = guardG ops j b tm' (valIn call (aOp o.op tm' S)) _
    rw [h1]
    unfold guardG
    split
    · rfl
    · rename_i d hd
      rw [h d (by
        unfold guardD at hd
        refine List.mem_append_right _ ?_
        simp [hg, hd])]

noncomputable def restr (tm : T AV) : List Nat → T AV
  | [] => T.set T.nil 511 (T.get tm 511)
  | t :: l => if t < 511 then T.set (restr tm l) t (T.get tm t) else restr tm l
theorem restr_get (tm : T AV) : ∀ (R : List Nat) (t : Nat), t < 511 → T.get (restr tm R) t = if t ∈ R then T.get tm t else none
  | [], t, ht => by rw [restr, T.get_set _ _ _ _ (by decide) (by omega), if_neg (by omega), T.get_nil]; simp
  | k :: R, t, ht => by
    unfold restr
    by_cases hk : k < 511
    · rw [if_pos hk, T.get_set _ _ _ _ (by omega) (by omega)]
      by_cases htk : t = k
      · subst htk; simp
      · rw [if_neg htk, restr_get tm R t ht]; simp [htk]
    · rw [if_neg hk, restr_get tm R t ht]
      have : t ≠ k := by omega
      simp [this]
theorem restr_mark (tm : T AV) : ∀ R, T.get (restr tm R) 511 = T.get tm 511
  | [] => by rw [restr, T.get_set _ _ _ _ (by decide) (by decide), if_pos rfl]
  | k :: R => by
    unfold restr
    by_cases hk : k < 511
    · rw [if_pos hk, T.get_set _ _ _ _ (by omega) (by decide), if_neg (by omega), restr_mark tm R]
    · rw [if_neg hk, restr_mark tm R]
theorem restr_marks (tm : T AV) (R : List Nat) : marks (restr tm R) = marks tm := by unfold marks; rw [restr_mark]
theorem restr_getO (tm : T AV) (R : List Nat) (t : Nat) (h : t ∈ R) : getO t (restr tm R) = getO t tm := by
  unfold getO
  cases hb : Nat.blt t 511 with
  | false => rfl
  | true => show T.get (restr tm R) t = T.get tm t; rw [restr_get _ _ _ (blt_spec hb), if_pos h]

/-! the last writer -/
def lastW : Nat → (Nat → Bool) → (Nat → Bool) → Nat
  | 0, _, _ => 0
  | k + 1, X, W => if X k && W k then k + 1 else lastW k X W
theorem lastW_val {β : Type} (val : Nat → β) (W : Nat → Bool) : ∀ n, (∀ i, i < n → W i = false → val (i + 1) = val i) → val (lastW n (fun _ => true) W) = val n
  | 0, _ => rfl
  | n + 1, h => by
    unfold lastW
    cases hw : W n with
    | true => simp
    | false => simp [lastW_val val W n fun i hi => h i (by omega), h n (by omega) hw]
theorem lastW_congr {W : Nat → Bool} {X X' : Nat → Bool} : ∀ n, (∀ i, i < n → (X i && W i) = (X' i && W i)) → lastW n X W = lastW n X' W
  | 0, _ => rfl
  | n + 1, h => by
    unfold lastW
    rw [h n (by omega), lastW_congr n fun i hi => h i (by omega)]
theorem lastW_cut {W X : Nat → Bool} {j : Nat} : ∀ n, j ≤ n → (∀ i, i < n → (X i && W i) = (decide (i < j) && W i)) → lastW n X W = lastW j (fun _ => true) W
  | 0, hj, _ => by have : j = 0 := by omega
                   subst this; rfl
  | n + 1, hj, h => by
    by_cases he : j = n + 1
    · subst he
      exact lastW_congr _ fun i hi => by rw [h i hi]; simp [hi]
    · have := h n (by omega)
      rw [decide_eq_false (by omega : ¬ n < j), Bool.false_and] at this
      rw [show lastW (n + 1) X W = if X n && W n then n + 1 else lastW n X W from rfl, this]
      simp only [Bool.false_eq_true, if_false]
      exact lastW_cut n (by omega) fun i hi => h i (by omega)
theorem lastW_new {W X X' : Nat → Bool} {j : Nat} (hWj : W j = true) (hXj : X' j = true) : ∀ n, j < n → (∀ i, i < n → j < i → (X' i && W i) = false) → lastW n X' W = j + 1
  | 0, hj, _ => by omega
  | n + 1, hj, h => by
    unfold lastW
    by_cases he : j = n
    · subst he; simp [hWj, hXj]
    · rw [h n (by omega) (by omega)]
      simp only [Bool.false_eq_true, if_false]
      exact lastW_new (X := X) hWj hXj n (by omega) fun i hi => h i (by omega)

/-! the trace -/
structure Trace (call : CallF) (ops : Array Oper) (nt : Nat) (n : Nat) (tms : Nat → T AV) (sts : Nat → St) (lg : Nat → St) : Prop where
  step : ∀ i, i < n → ∃ o v, ops[i]? = some o ∧ valOp call ops o (tms i) ⟨(sts i).h, (sts i).nx, 0, 0⟩ = some (v, lg i) ∧ (∀ k, o.dst = some k → k < nt) ∧ tms (i + 1) = setT (tms i) o.dst v
  next : ∀ i, i < n → sts (i + 1) = ⟨(lg i).h, (lg i).nx, Nat.lor (sts i).rd (lg i).rd, Nat.lor (sts i).wr (lg i).wr⟩

theorem runLog_trace {call : CallF} {ops : Array Oper} {nt : Nat} : ∀ (l pre : List Oper) {tm tm' : T AV} {S S' : St} {acc logs : List (Nat × Nat)}, ops.toList = pre ++ l →
    runLog call ops nt l tm S acc = .ok tm' S' logs → ∃ (tms : Nat → T AV) (sts : Nat → St) (lg : Nat → St),
      tms pre.length = tm ∧ sts pre.length = S ∧ tms (pre.length + l.length) = tm' ∧ sts (pre.length + l.length) = S' ∧
      (∀ i, pre.length ≤ i → i < pre.length + l.length → ∃ o v, ops[i]? = some o ∧ valOp call ops o (tms i) ⟨(sts i).h, (sts i).nx, 0, 0⟩ = some (v, lg i) ∧ (∀ k, o.dst = some k → k < nt) ∧ tms (i + 1) = setT (tms i) o.dst v) ∧
      (∀ i, pre.length ≤ i → i < pre.length + l.length → sts (i + 1) = ⟨(lg i).h, (lg i).nx, Nat.lor (sts i).rd (lg i).rd, Nat.lor (sts i).wr (lg i).wr⟩) ∧
      logs = ((List.range' pre.length l.length).map fun i => ((lg i).rd, (lg i).wr)).reverse ++ acc
  | [], pre, tm, tm', S, S', acc, logs, _, h => by
    injection h with h1 h2 h3
    subst h1; subst h2; subst h3
    exact ⟨fun _ => tm, fun _ => S, fun _ => S, rfl, rfl, rfl, rfl, fun i a b => by simp at b; omega, fun i a b => by simp at b; omega, by simp⟩
  | o :: l, pre, tm, tm', S, S', acc, logs, hops, h => by
    change thenLog (runLog call ops nt l) S acc (runOp call ops nt o tm ⟨S.h, S.nx, 0, 0⟩) = _ at h
    cases hr : runOp call ops nt o tm ⟨S.h, S.nx, 0, 0⟩ with
    | no => rw [hr] at h; cases h
    | ok tm1 S1 =>
      rw [hr] at h
      obtain ⟨v, hv, hd, ht1⟩ := runOp_spec hr
      obtain ⟨tms, sts, lg, e1, e2, e3, e4, e5, e6, e7⟩ := runLog_trace l (pre ++ [o]) (by rw [hops]; simp) (show runLog call ops nt l tm1 ⟨S1.h, S1.nx, Nat.lor S.rd S1.rd, Nat.lor S.wr S1.wr⟩ ((S1.rd, S1.wr) :: acc) = .ok tm' S' logs from h)
      have hlen : (pre ++ [o]).length = pre.length + 1 := by simp
      rw [hlen] at e1 e2 e3 e4 e5 e6 e7
      have hat : ops[pre.length]? = some o := by rw [← Array.getElem?_toList, hops]; simp
      refine ⟨fun i => if i = pre.length then tm else tms i, fun i => if i = pre.length then S else sts i, fun i => if i = pre.length then S1 else lg i, if_pos rfl, if_pos rfl, ?_, ?_, fun i a b => ?_, fun i a b => ?_, ?_⟩
      · show (if _ then _ else _) = _
        rw [if_neg (by simp), List.length_cons, show pre.length + (l.length + 1) = pre.length + 1 + l.length by omega]; exact e3
      · show (if _ then _ else _) = _
        rw [if_neg (by simp), List.length_cons, show pre.length + (l.length + 1) = pre.length + 1 + l.length by omega]; exact e4
      · by_cases hi : i = pre.length
        · subst hi
          refine ⟨o, v, hat, by simp only [if_true]; exact hv, hd, ?_⟩
          simp only [if_true]
          rw [if_neg (by omega), e1, ht1]
        · obtain ⟨o', v', q1, q2, q3, q4⟩ := e5 i (by omega) (by simp at b; omega)
          refine ⟨o', v', q1, by simp only [if_neg hi]; exact q2, q3, ?_⟩
          simp only [if_neg hi]
          rw [if_neg (by omega), q4]
      · by_cases hi : i = pre.length
        · subst hi
          simp only [if_true]
          rw [if_neg (by omega), e2]
        · simp only [if_neg hi]
          rw [if_neg (by omega), e6 i (by omega) (by simp at b; omega)]
      · rw [e7, List.length_cons, List.range'_succ, List.map_cons, List.reverse_cons, List.append_assoc]
        simp only [if_true, List.singleton_append]
        congr 2
        apply List.map_congr_left
        intro i hi
        have := List.mem_range'_1.1 hi
        rw [if_neg (by omega)]
end Rn
end Go.Proofs.Ytgfcakdpfedokaa
