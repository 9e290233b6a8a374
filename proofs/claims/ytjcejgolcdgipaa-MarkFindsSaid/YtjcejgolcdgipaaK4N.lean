/- Chapter 03's reference in the printed words: what its functions come to; no walk. -/
import Derived.Test.YtjcejgolcdgipaaK4H
import Derived.Test.YtjcejgolcdgipaaK4Q
import Derived.Test.YtjcejgolcdgipaaK4A
import Derived.Test.YtjcejgolcdgipaaK4x10
import Derived.Test.YtjcejgolcdgipaaK4x13
import Derived.Test.YtjcejgolcdgipaaK4x9
import Derived.Test.YtjcejgolcdgipaaK4x7
namespace Go.Proofs.Ytjcejgolcdgipaa.K4
open Go.RowKit Go.Proofs.YtjcejgolcdgipaaW.PrintWords Go.Proofs.YtjcejgolcdgipaaW.PrintLast Go.Proofs.YtjcejgolcdgipaaW.PrintMore
theorem one_f (p : Nat) : easelref03_one.f (p : Int) = some (isOne p) := by
  unfold easelref03_one.f isOne
  congr 1
  rw [Bool.eq_iff_iff, beq_iff_eq, decide_eq_true_iff]
  omega
theorem two_f (p : Nat) : easelref03_two.f (p : Int) = some (isTwo p) := by
  unfold easelref03_two.f isTwo
  split
  · congr 1
    rw [Bool.eq_iff_iff, decide_eq_true_iff, decide_eq_true_iff]
    omega
  · congr 1
    rw [Bool.eq_iff_iff, decide_eq_true_iff]
    simp
    omega
theorem known_f (p : Nat) : easelref03_Known.f (p : Int) = some (isKnown p) := by
  unfold easelref03_Known.f isKnown
  rw [one_f, two_f]
  cases isOne p <;> simp
theorem may_f (x : Nat × List Nat) (hx : x.1 < 256) (b : Bool) : easelref03_may.f (toT x).f0 (toT x).f1 b = some (mayOf b x) := by
  unfold easelref03_may.f mayOf mayB
  show (if b = true then (if (x.1 : Int) ≥ 1 then (if (x.1 : Int) ≤ 14 then (if ((ib x.2).length : Int) ≥ 1 then (some (decide (((ib x.2).length : Int) ≤ 16))) else (some false)) else (some false)) else (some false)) else (if (x.1 : Int) ≥ 1 then (some (decide (((ib x.2).length : Int) ≤ 255))) else (some false))) = _
  rw [ib_length]
  cases b
  · simp only [Bool.false_eq_true, if_false]
    by_cases h1 : (x.1 : Int) ≥ 1
    · rw [if_pos h1, decide_eq_true (show (0 : Int) < x.1 by omega), decide_eq_true (show (x.1 : Int) ≤ 255 by omega), decide_eq_true (show (0 : Int) ≤ x.2.length by omega)]
      rfl
    · rw [if_neg h1, decide_eq_false (show ¬ (0 : Int) < x.1 by omega)]
      rfl
  · simp only [if_true]
    by_cases h1 : (x.1 : Int) ≥ 1
    · rw [if_pos h1, decide_eq_true (show (0 : Int) < x.1 by omega)]
      by_cases h2 : (x.1 : Int) ≤ 14
      · rw [if_pos h2, decide_eq_true h2]
        by_cases h3 : (x.2.length : Int) ≥ 1
        · rw [if_pos h3, decide_eq_true (show (1 : Int) ≤ x.2.length by omega)]
          rfl
        · rw [if_neg h3, decide_eq_false (show ¬ (1 : Int) ≤ x.2.length by omega)]
          rfl
      · rw [if_neg h2, decide_eq_false h2]
        rfl
    · rw [if_neg h1, decide_eq_false (show ¬ (0 : Int) < x.1 by omega)]
      rfl
theorem ev_pad : ∀ (d : Nat) (bs : List Nat), (bs.length + d) % 4 = 0 → d < 4 → bs.length ≤ 100000000000 → Ev (fun k => easelref03_Put.l1 k (ib bs)) (ib (bs ++ List.replicate d 0), 0)
  | 0, bs, h, _, hl => Ev.step (f := fun _ => some (ib (bs ++ List.replicate 0 0), 0)) (fun k => by
      simp only [easelref03_Put.l1]
      rw [if_pos (by rw [ib_length]; omega)]
      simp) (Ev.now _)
  | d + 1, bs, h, hd, hl => by
    have ih := ev_pad d (bs ++ [0]) (by simp; omega) (by omega) (by simp; omega)
    rw [List.append_assoc, show [0] ++ List.replicate d 0 = List.replicate (d + 1) 0 from (List.replicate_succ).symm] at ih
    refine Ev.step (f := fun k => easelref03_Put.l1 k (ib (bs ++ [0]))) (fun k => ?_) ih
    simp only [easelref03_Put.l1]
    rw [if_neg (by rw [ib_length]; omega), if_pos (by rw [ib_length]; omega), ib_append]
    rfl
theorem ev_pad4 (bs : List Nat) (hl : bs.length ≤ 20000000000) : Ev (fun k => easelref03_Put.l1 k (ib bs)) (ib (pad4 bs), 0) := ev_pad _ bs (by omega) (by omega) (by omega)

theorem ev_rPut_l (p : Nat) {E : List (Nat × List Nat)} (hE : Fair E) : ∀ d i, i + d = E.length → (∀ x ∈ E.take i, mayOf (isOne p) x = true) →
    Ev (fun k => easelref03_Put.l0 k (p : Int) (E.map toT) (ib (putB (isOne p) (E.take i))) (i : Int)) (if E.all (mayOf (isOne p)) = true then (ib (pad4 (putB (isOne p) E)), 0) else ([], 31)) := by
  have hlen : ∀ i, (putB (isOne p) (E.take i)).length ≤ 10000200000 := fun i => by
    have h1 := putB_len (one := isOne p) (E.take i) (fun x hx => (hE.2 x (List.mem_of_mem_take hx)).2.2)
    have h2 : (E.take i).length ≤ 100000 := by rw [List.length_take]; have := hE.1; omega
    have h3 := Nat.mul_le_mul_right 100002 h2
    omega
  intro d
  induction d with
  | zero =>
    intro i h hx
    obtain rfl : i = E.length := by omega
    rw [List.take_length] at hx ⊢
    rw [if_pos (List.all_eq_true.2 hx)]
    refine Ev.step (f := fun k => easelref03_Put.l1 k (ib (putB (isOne p) E))) (fun k => ?_) (ev_pad4 _ ?_)
    · simp only [easelref03_Put.l0]
      rw [if_neg (by rw [List.length_map]; omega)]
    · have := hlen E.length
      rw [List.take_length] at this
      have h1 := putB_len (one := isOne p) E (fun x hx => (hE.2 x hx).2.2)
      have h2 := hE.1
      have h3 := Nat.mul_le_mul_right 100002 h2
      omega
  | succ d ih =>
    intro i h hx
    have hlt : i < E.length := by omega
    have hl := hE.1
    obtain ⟨hid, hbt, hdl⟩ := hE.at_ hlt
    have hle := hlen i
    have hs : E.take (i + 1) = E.take i ++ [E[i]] := by rw [List.take_succ_eq_append_getElem hlt]
    cases hm : mayOf (isOne p) E[i]
    · have hall : E.all (mayOf (isOne p)) = false := by
        rw [List.all_eq_false]
        exact ⟨E[i], List.getElem_mem hlt, by simp [hm]⟩
      rw [hall, if_neg (by decide)]
      refine Ev.step (f := fun _ => some (([] : List Int), 31)) (fun k => ?_) (Ev.now _)
      simp only [easelref03_Put.l0]
      rw [if_pos (by rw [List.length_map]; omega), if_pos (by omega), one_f, rdT hlt]
      simp only [Option.bind_some]
      rw [may_f _ hid, hm]
      simp only [Option.bind_some]
      rw [if_neg (by decide)]
    · have ih' := ih (i + 1) (by omega) (fun x hx' => by
        rw [hs, List.mem_append] at hx'
        rcases hx' with hx' | hx'
        · exact hx x hx'
        · rw [List.mem_singleton.1 hx']; exact hm)
      refine Ev.step (f := fun k => easelref03_Put.l0 k (p : Int) (E.map toT) (ib (putB (isOne p) (E.take (i + 1)))) ((i + 1 : Nat) : Int)) (fun k => ?_) ih'
      have hok := mayOf_ok hm hbt
      simp only [easelref03_Put.l0]
      rw [if_pos (by rw [List.length_map]; omega), if_pos (by omega), one_f, rdT hlt]
      simp only [Option.bind_some]
      rw [may_f _ hid, hm]
      simp only [Option.bind_some]
      rw [if_pos trivial, wrap_succ i (by omega), hs, putB_snoc, ib_append]
      cases ho : isOne p
      · rw [if_neg (by decide)]
        rw [ho] at hok
        have h2 := hok.2
        simp at h2
        have e1 : ([(toT E[i]).f0, (((toT E[i]).f1).length : Int) % 256] : List Int) = ib (hdB false E[i]) := by
          show [(E[i].1 : Int), ((ib E[i].2).length : Int) % 256] = _
          rw [ib_length, Int.emod_eq_of_lt (by omega) (by omega)]
          simp [hdB, ib]
        rw [e1, if_pos (by rw [ib_length, ib_length]; have h9 : (hdB false E[i]).length = 2 := rfl; rw [ho] at hle; omega)]
        rw [show (toT E[i]).f1 = ib E[i].2 from rfl]
        rw [if_pos (by rw [List.length_append, ib_length, ib_length, ib_length]; have h9 : (hdB false E[i]).length = 2 := rfl; rw [ho] at hle; omega)]
        rw [ib_append, List.append_assoc]
      · rw [if_pos rfl]
        rw [ho] at hok
        have h2 := hok.2
        simp at h2
        have e1 : ([(wrap64 ((wrap64 ((wrap64 ((wrap64 ((toT E[i]).f0)) * 16)) + (((toT E[i]).f1).length : Int))) - 1)) % 256] : List Int) = ib (hdB true E[i]) := by
          show [(wrap64 ((wrap64 ((wrap64 ((wrap64 (E[i].1 : Int)) * 16)) + ((ib E[i].2).length : Int))) - 1)) % 256] = _
          rw [ib_length, wrap_id (E[i].1 : Int) (by omega) (by omega), wrap_id ((E[i].1 : Int) * 16) (by omega) (by omega), wrap_id ((E[i].1 : Int) * 16 + (E[i].2.length : Int)) (by omega) (by omega), wrap_id _ (by omega) (by omega), Int.emod_eq_of_lt (by omega) (by omega)]
          simp [hdB, ib]
          omega
        rw [e1, if_pos (by rw [ib_length]; rw [ho] at hle; omega)]
        rw [show (toT E[i]).f1 = ib E[i].2 from rfl]
        rw [if_pos (by rw [List.length_append, ib_length, ib_length, ib_length]; have h9 : (hdB true E[i]).length = 1 := rfl; rw [ho] at hle; omega)]
        rw [ib_append, List.append_assoc]
theorem ev_rPut (p : Nat) {E : List (Nat × List Nat)} (hE : Fair E) : Ev (fun k => easelref03_Put.f k (p : Int) (E.map toT)) (ib (putS p E).1, ((putS p E).2 : Int)) := by
  unfold putS
  cases hk : isKnown p
  · rw [if_neg (by decide)]
    refine Ev.congr (f := fun _ => some (([] : List Int), 30)) (fun k => ?_) (Ev.now _)
    unfold easelref03_Put.f
    rw [known_f, hk]
    rfl
  · rw [if_pos rfl]
    have h := ev_rPut_l p hE E.length 0 (by omega) (by simp)
    have hr : ((ib (if E.all (mayOf (isOne p)) = true then (pad4 (putB (isOne p) E), 0) else ([], 31) : List Nat × Nat).1, (((if E.all (mayOf (isOne p)) = true then (pad4 (putB (isOne p) E), 0) else ([], 31) : List Nat × Nat).2 : Nat) : Int)) : List Int × Int) = if E.all (mayOf (isOne p)) = true then (ib (pad4 (putB (isOne p) E)), 0) else ([], 31) := by
      split <;> rfl
    rw [hr]
    refine Ev.congr (fun k => ?_) h
    unfold easelref03_Put.f
    rw [known_f, hk]
    rfl

theorem ev_rFind_l (id : Nat) {E : List (Nat × List Nat)} (hE : Fair E) : ∀ d i, i + d = E.length → (E.take i).find? (fun x => x.1 == id) = none →
    Ev (fun k => easelref03_Find.l0 k (id : Int) (E.map toT) (i : Int)) (ib (findR id E).1, (findR id E).2)
  | 0, i, h, hx => by
    obtain rfl : i = E.length := by omega
    rw [List.take_length] at hx
    refine Ev.step (f := fun _ => some (ib (findR id E).1, (findR id E).2)) (fun k => ?_) (Ev.now _)
    simp only [easelref03_Find.l0]
    rw [if_neg (by rw [List.length_map]; omega)]
    unfold findR
    rw [hx]
    rfl
  | d + 1, i, h, hx => by
    have hlt : i < E.length := by omega
    have hl := hE.1
    by_cases hid : E[i].1 = id
    · refine Ev.step (f := fun _ => some (ib (findR id E).1, (findR id E).2)) (fun k => ?_) (Ev.now _)
      simp only [easelref03_Find.l0]
      rw [if_pos (by rw [List.length_map]; omega), if_pos (by omega), rdT hlt, if_pos (by show (E[i].1 : Int) = id; omega)]
      have hf : E.find? (fun x => x.1 == id) = some E[i] := by
        rw [List.find?_eq_some_iff_getElem]
        refine ⟨by simp [hid], i, hlt, rfl, fun j hj => ?_⟩
        have := List.find?_eq_none.1 hx E[j] (by rw [List.mem_take_iff_getElem]; exact ⟨j, by omega, rfl⟩)
        simpa using this
      unfold findR
      rw [hf]
      rfl
    · refine Ev.step (f := fun k => easelref03_Find.l0 k (id : Int) (E.map toT) ((i + 1 : Nat) : Int)) (fun k => ?_) (ev_rFind_l id hE d (i + 1) (by omega) ?_)
      · simp only [easelref03_Find.l0]
        rw [if_pos (by rw [List.length_map]; omega), if_pos (by omega), rdT hlt, if_neg (by show ¬ (E[i].1 : Int) = id; omega), wrap_succ i (by omega)]
      · rw [List.take_succ_eq_append_getElem hlt, List.find?_append, hx]
        simp [hid]
theorem ev_rFind (id : Nat) {E : List (Nat × List Nat)} (hE : Fair E) : Ev (fun k => easelref03_Find.f k (id : Int) (E.map toT)) (ib (findR id E).1, (findR id E).2) := ev_rFind_l id hE E.length 0 (by omega) (by simp)

theorem ev_rForm_l {E : List (Nat × List Nat)} (hE : Fair E) : ∀ d i, i + d = E.length →
    Ev (fun k => easelref03_Form.l0 k (E.map toT) ((E.take i).all (mayOf true)) ((E.take i).all (mayOf false)) (i : Int)) (formS (E.all (mayOf true)) (E.all (mayOf false)))
  | 0, i, h => by
    obtain rfl : i = E.length := by omega
    rw [List.take_length]
    refine Ev.step (f := fun _ => some (formS (E.all (mayOf true)) (E.all (mayOf false)))) (fun k => ?_) (Ev.now _)
    simp only [easelref03_Form.l0]
    rw [if_neg (by rw [List.length_map]; omega)]
    unfold formS
    cases E.all (mayOf true) <;> cases E.all (mayOf false) <;> rfl
  | d + 1, i, h => by
    have hlt : i < E.length := by omega
    have hl := hE.1
    have hid := (hE.at_ hlt).1
    refine Ev.step (f := fun k => easelref03_Form.l0 k (E.map toT) ((E.take (i + 1)).all (mayOf true)) ((E.take (i + 1)).all (mayOf false)) ((i + 1 : Nat) : Int)) (fun k => ?_) (ev_rForm_l hE d (i + 1) (by omega))
    simp only [easelref03_Form.l0]
    rw [if_pos (by rw [List.length_map]; omega), rdT hlt, may_f _ hid, may_f _ hid, wrap_succ i (by omega), List.take_succ_eq_append_getElem hlt, List.all_append, List.all_append]
    simp only [List.all_cons, List.all_nil, Bool.and_true, Option.bind_some]
    rw [if_pos (show (0 : Int) ≤ (i : Int) by omega), if_pos (show (0 : Int) ≤ (i : Int) by omega)]
    cases (E.take i).all (mayOf true) <;> cases (E.take i).all (mayOf false) <;> simp
theorem ev_rForm {E : List (Nat × List Nat)} (hE : Fair E) : Ev (fun k => easelref03_Form.f k (E.map toT)) (formS (E.all (mayOf true)) (E.all (mayOf false))) := ev_rForm_l hE E.length 0 (by omega)
end Go.Proofs.Ytjcejgolcdgipaa.K4
