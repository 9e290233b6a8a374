/- Chapter 07: messages as plain data; packet for all sorts at once; what Same comes to. -/
import Derived.Test.YtjcejgolcdgipaaK7X
import Derived.Test.YtjcejgolcdgipaaK7x19
import Derived.Test.YtjcejgolcdgipaaK7x20
namespace Go.Proofs.Ytjcejgolcdgipaa.K7
open Go.RowKit Go.Proofs.YtjcejgolcdgipaaW.PrintWords Go.Proofs.YtjcejgolcdgipaaW.PrintLast Go.Proofs.YtjcejgolcdgipaaW.PrintMore
set_option linter.unusedVariables false

def ofP (x : S82) : Nat × Nat := (x.f0.toNat, x.f1.toNat)
def ofO (x : S134) : Nat × Nat := (x.f0.toNat, x.f1.toNat)
def toO (p : Nat × Nat) : S134 := ⟨(p.1 : Int), (p.2 : Int)⟩
theorem toP_ofP {l : List S82} (h : Ok2 l) : (l.map ofP).map toP = l := by
  rw [List.map_map]
  conv => rhs; rw [← List.map_id l]
  apply List.map_congr_left
  rintro ⟨a, b⟩ hx
  have := h _ hx
  simp only at this
  simp [toP, ofP, Int.toNat_of_nonneg this.1.1, Int.toNat_of_nonneg this.2.1]
theorem toO_ofO {l : List S134} (h : OkO l) : (l.map ofO).map toO = l := by
  rw [List.map_map]
  conv => rhs; rw [← List.map_id l]
  apply List.map_congr_left
  rintro ⟨a, b⟩ hx
  have := h _ hx
  simp only at this
  simp [toO, ofO, Int.toNat_of_nonneg this.1.1, Int.toNat_of_nonneg this.2.1]
instance : DecidableEq S82 := fun a b => decidable_of_iff (a.f0 = b.f0 ∧ a.f1 = b.f1) ⟨fun h => by cases a; cases b; simp_all, fun h => by subst h; exact ⟨rfl, rfl⟩⟩
instance : DecidableEq S134 := fun a b => decidable_of_iff (a.f0 = b.f0 ∧ a.f1 = b.f1) ⟨fun h => by cases a; cases b; simp_all, fun h => by subst h; exact ⟨rfl, rfl⟩⟩
instance : DecidableEq PM := fun a b => decidable_of_iff (a.sort = b.sort ∧ a.sd = b.sd ∧ a.md = b.md ∧ a.ps = b.ps ∧ a.os = b.os ∧ a.e = b.e ∧ a.m = b.m ∧ a.ss = b.ss ∧ a.err = b.err) ⟨fun h => by cases a; cases b; simp_all, fun h => by subst h; exact ⟨rfl, rfl, rfl, rfl, rfl, rfl, rfl, rfl, rfl⟩⟩
/-- A step of an equality over two rows of one length. -/
theorem take_ext {α : Type} {a b : List α} {i : Nat} (hi : i < a.length) (hj : i < b.length) (h : a.take i = b.take i) (he : a[i] = b[i]) : a.take (i + 1) = b.take (i + 1) := by
  rw [List.take_succ_eq_append_getElem hi, List.take_succ_eq_append_getElem hj, h, he]
theorem ne_of_at {α : Type} {a b : List α} {i : Nat} (hi : i < a.length) (hj : i < b.length) (he : a[i] ≠ b[i]) : a ≠ b := by
  rintro rfl
  exact he rfl
theorem pair_eq_l (a b : List S82) (hl : a.length = b.length) (hm : a.length ≤ 1000000000) : ∀ d i, i + d = a.length → a.take i = b.take i → ∃ k, feedback_Pair.l0 k a b (a.length : Int) (i : Int) = some (decide (a = b)) := by
  intro d
  induction d with
  | zero =>
    intro i hi ht
    refine ⟨1, ?_⟩
    rw [List.take_of_length_le (by omega), List.take_of_length_le (by omega)] at ht
    unfold feedback_Pair.l0
    rw [if_neg (by omega), ht]
    simp
  | succ d ih =>
    intro i hi ht
    have h1 : i < a.length := by omega
    have h2 : i < b.length := by omega
    have e1 : rd_T82 a (i : Int) = a[i] := by simp [rd_T82, h1]
    have e2 : rd_T82 b (i : Int) = b[i] := by simp [rd_T82, h2]
    by_cases he : a[i] = b[i]
    · obtain ⟨k, hk⟩ := ih (i + 1) (by omega) (take_ext h1 h2 ht he)
      refine ⟨k + 1, ?_⟩
      unfold feedback_Pair.l0
      rw [if_pos (by omega), if_pos (by omega), if_pos (by omega), if_pos (by omega), e1, e2, he, if_neg (by simp), IntWalk.wrap64_in _ (by omega)]
      exact hk
    · refine ⟨1, ?_⟩
      unfold feedback_Pair.l0
      rw [if_pos (by omega), if_pos (by omega), if_pos (by omega), if_pos (by omega), e1, e2, if_pos, decide_eq_false (ne_of_at h1 h2 he)]
      generalize a[i] = x at *
      generalize b[i] = y at *
      obtain ⟨x0, x1⟩ := x
      obtain ⟨y0, y1⟩ := y
      by_cases hz : x0 = y0
      · subst hz
        have : x1 ≠ y1 := fun h => he (by rw [h])
        simp [this]
      · simp [hz]
theorem pair_eq (a b : List S82) (hm : a.length ≤ 1000000000) : ∃ k, feedback_Pair.f k a b = some (decide (a = b)) := by
  by_cases hl : a.length = b.length
  · obtain ⟨k, hk⟩ := pair_eq_l a b hl hm a.length 0 (by omega) rfl
    exact ⟨k, by unfold feedback_Pair.f; rw [if_pos (by omega)]; exact hk⟩
  · exact ⟨0, by unfold feedback_Pair.f; rw [if_neg (by omega), decide_eq_false (fun h => hl (by rw [h]))]⟩
theorem order_eq_l (a b : List S134) (hl : a.length = b.length) (hm : a.length ≤ 1000000000) : ∀ d i, i + d = a.length → a.take i = b.take i → ∃ k, feedback_Order.l0 k a b (a.length : Int) (i : Int) = some (decide (a = b)) := by
  intro d
  induction d with
  | zero =>
    intro i hi ht
    refine ⟨1, ?_⟩
    rw [List.take_of_length_le (by omega), List.take_of_length_le (by omega)] at ht
    unfold feedback_Order.l0
    rw [if_neg (by omega), ht]
    simp
  | succ d ih =>
    intro i hi ht
    have h1 : i < a.length := by omega
    have h2 : i < b.length := by omega
    have e1 : rd_T134 a (i : Int) = a[i] := by simp [rd_T134, h1]
    have e2 : rd_T134 b (i : Int) = b[i] := by simp [rd_T134, h2]
    by_cases he : a[i] = b[i]
    · obtain ⟨k, hk⟩ := ih (i + 1) (by omega) (take_ext h1 h2 ht he)
      refine ⟨k + 1, ?_⟩
      unfold feedback_Order.l0
      rw [if_pos (by omega), if_pos (by omega), if_pos (by omega), if_pos (by omega), e1, e2, he, if_neg (by simp), IntWalk.wrap64_in _ (by omega)]
      exact hk
    · refine ⟨1, ?_⟩
      unfold feedback_Order.l0
      rw [if_pos (by omega), if_pos (by omega), if_pos (by omega), if_pos (by omega), e1, e2, if_pos, decide_eq_false (ne_of_at h1 h2 he)]
      generalize a[i] = x at *
      generalize b[i] = y at *
      obtain ⟨x0, x1⟩ := x
      obtain ⟨y0, y1⟩ := y
      by_cases hz : x0 = y0
      · subst hz
        have : x1 ≠ y1 := fun h => he (by rw [h])
        simp [this]
      · simp [hz]
theorem order_eq (a b : List S134) (hm : a.length ≤ 1000000000) : ∃ k, feedback_Order.f k a b = some (decide (a = b)) := by
  by_cases hl : a.length = b.length
  · obtain ⟨k, hk⟩ := order_eq_l a b hl hm a.length 0 (by omega) rfl
    exact ⟨k, by unfold feedback_Order.f; rw [if_pos (by omega)]; exact hk⟩
  · exact ⟨0, by unfold feedback_Order.f; rw [if_neg (by omega), decide_eq_false (fun h => hl (by rw [h]))]⟩
theorem src_eq_l (a b : List Int) (hl : a.length = b.length) (hm : a.length ≤ 1000000000) : ∀ d i, i + d = a.length → a.take i = b.take i → ∃ k, slices_Equal_uint32_uint32.l0 k a b (a.length : Int) (i : Int) = some (decide (a = b)) := by
  intro d
  induction d with
  | zero =>
    intro i hi ht
    refine ⟨1, ?_⟩
    rw [List.take_of_length_le (by omega), List.take_of_length_le (by omega)] at ht
    unfold slices_Equal_uint32_uint32.l0
    rw [if_neg (by omega), ht]
    simp
  | succ d ih =>
    intro i hi ht
    have h1 : i < a.length := by omega
    have h2 : i < b.length := by omega
    have e1 : rd a (i : Int) = a[i] := by simp [rd, h1]
    have e2 : rd b (i : Int) = b[i] := by simp [rd, h2]
    by_cases he : a[i] = b[i]
    · obtain ⟨k, hk⟩ := ih (i + 1) (by omega) (take_ext h1 h2 ht he)
      refine ⟨k + 1, ?_⟩
      unfold slices_Equal_uint32_uint32.l0
      rw [if_pos (by omega), if_pos (by omega), if_pos (by omega), if_pos (by omega), e1, e2, he, if_pos rfl, IntWalk.wrap64_in _ (by omega)]
      exact hk
    · refine ⟨1, ?_⟩
      unfold slices_Equal_uint32_uint32.l0
      rw [if_pos (by omega), if_pos (by omega), if_pos (by omega), if_pos (by omega), e1, e2, if_neg he, decide_eq_false (ne_of_at h1 h2 he)]
theorem src_eq (a b : List Int) (hm : a.length ≤ 1000000000) : ∃ k, slices_Equal_uint32_uint32.f k a b = some (decide (a = b)) := by
  by_cases hl : a.length = b.length
  · obtain ⟨k, hk⟩ := src_eq_l a b hl hm a.length 0 (by omega) rfl
    exact ⟨k, by unfold slices_Equal_uint32_uint32.f; rw [if_pos (by omega)]; exact hk⟩
  · exact ⟨0, by unfold slices_Equal_uint32_uint32.f; rw [if_neg (by omega), decide_eq_false (fun h => hl (by rw [h]))]⟩
theorem same_ev (a0 a1 a2 : Int) (a3 : List S82) (a4 : List S134) (a5 a6 : Int) (a7 : List Int) (b0 b1 b2 : Int) (b3 : List S82) (b4 : List S134) (b5 b6 : Int) (b7 : List Int) (h3 : a3.length ≤ 1000000000) (h4 : a4.length ≤ 1000000000) (h7 : a7.length ≤ 1000000000) :
    Ev (fun k => feedback_Same.f k a0 a1 a2 a3 a4 a5 a6 a7 b0 b1 b2 b3 b4 b5 b6 b7) (decide (a0 = b0 ∧ a1 = b1 ∧ a2 = b2 ∧ a5 = b5 ∧ a6 = b6 ∧ a3 = b3 ∧ a4 = b4 ∧ a7 = b7)) := by
  obtain ⟨k3, e3⟩ := pair_eq a3 b3 h3
  obtain ⟨k4, e4⟩ := order_eq a4 b4 h4
  obtain ⟨k7, e7⟩ := src_eq a7 b7 h7
  have E3 := Ev.of (feedback_Pair.mono a3 b3) e3
  have E4 := Ev.of (feedback_Order.mono a4 b4) e4
  have E7 := Ev.of (slices_Equal_uint32_uint32.mono a7 b7) e7
  unfold feedback_Same.f
  by_cases q0 : a0 = b0
  · by_cases q1 : a1 = b1
    · by_cases q2 : a2 = b2
      · by_cases q5 : a5 = b5
        · by_cases q6 : a6 = b6
          · simp only [q0, q1, q2, q5, q6, if_true, true_and]
            refine Ev.bind E3 ?_
            by_cases q3 : a3 = b3
            · simp only [q3, decide_true, if_true, true_and]
              refine Ev.bind E4 ?_
              by_cases q4 : a4 = b4
              · simp only [q4, decide_true, if_true, true_and]
                exact Ev.bind E7 (Ev.now _)
              · simp only [q4, decide_false, false_and]
                exact Ev.now _
            · simp only [q3, decide_false, false_and]
              exact Ev.now _
          · simp only [q6, if_false, and_false, false_and, decide_false, q0, q1, q2, q5, if_true]
            exact Ev.now _
        · simp only [q5, if_false, and_false, false_and, decide_false, q0, q1, q2, if_true]
          exact Ev.now _
      · simp only [q2, if_false, and_false, false_and, decide_false, q0, q1, if_true]
        exact Ev.now _
    · simp only [q1, if_false, and_false, false_and, decide_false, q0, if_true]
      exact Ev.now _
  · simp only [q0, if_false, false_and, decide_false]
    exact Ev.now _
/-- The digits of a message's parts, over plain pairs. -/
def pairsN (l : List (Nat × Nat)) : List Nat := l.flatMap fun x => ofn x.1 16 ++ ofn x.2 16
def ordersN (l : List (Nat × Nat)) : List Nat := l.flatMap fun x => ofn x.1 32 ++ ofn x.2 8 ++ ofn 0 24
def srcsN (l : List Nat) : List Nat := l.flatMap fun x => ofn x 32
theorem pairsN_eq (l : List S82) : pairsD l = pairsN (l.map ofP) := by
  induction l with
  | nil => rfl
  | cons x l ih => simp only [pairsD, pairsN, List.map_cons, List.flatMap_cons] at ih ⊢; rw [ih]; rfl
theorem ordersN_eq (l : List S134) : ordersD l = ordersN (l.map ofO) := by
  induction l with
  | nil => rfl
  | cons x l ih => simp only [ordersD, ordersN, List.map_cons, List.flatMap_cons] at ih ⊢; rw [ih]; rfl
theorem srcsN_eq (l : List Int) : sourcesD l = srcsN (nb l) := by
  induction l with
  | nil => rfl
  | cons x l ih => simp only [sourcesD, srcsN, nb, List.map_cons, List.flatMap_cons] at ih ⊢; rw [ih]
def rateN (e m : Nat) (l : List Nat) : List Nat := ofn rembN 32 ++ (ofn l.length 8 ++ (ofn e 6 ++ (ofn m 18 ++ srcsN l)))
def partN (M : PM) : List Nat := if M.sort = 1 then pairsN M.ps else if M.sort = 2 then [] else if M.sort = 3 then ordersN M.os else rateN M.e M.m M.ss
/-- A message's body, its kind, its count. -/
def bodyN (M : PM) : List Nat := pack (ofn M.sd 32 ++ ofn M.md 32 ++ partN M)
def kndN (s : Nat) : Nat := if s = 1 then 205 else 206
def cntN (s : Nat) : Nat := if s = 3 then 4 else if s = 4 then 15 else 1
/-- A message that came in, as plain data. -/
def inM (s sd md : Int) (lp : List S82) (lo : List S134) (e mn : Int) (ls : List Int) : PM := ⟨s.toNat, sd.toNat, md.toNat, lp.map ofP, lo.map ofO, e.toNat, mn.toNat, nb ls, 0⟩
def OkM (s sd md : Int) (lp : List S82) (lo : List S134) (e mn : Int) (ls : List Int) : Prop :=
  (0 ≤ s ∧ s < 256) ∧ (0 ≤ sd ∧ sd < 4294967296) ∧ (0 ≤ md ∧ md < 4294967296) ∧ (Ok2 lp ∧ lp.length ≤ 100000) ∧ (OkO lo ∧ lo.length ≤ 100000) ∧ (0 ≤ e ∧ e < 256) ∧ (0 ≤ mn ∧ mn < 4294967296) ∧ OkS ls ∧ ls.length ≤ 100000
instance (s sd md : Int) (lp : List S82) (lo : List S134) (e mn : Int) (ls : List Int) : Decidable (OkM s sd md lp lo e mn ls) := by unfold OkM; exact inferInstance
theorem packet_any {w : World} (s sd md e mn : Nat) (h1 : 1 ≤ s) (h4 : s ≤ 4) (hsd : sd < 4294967296) (hmd : md < 4294967296) (he : e < 256) (hmn : mn < 4294967296) {Ap Ao As : Option Addr} {cp co cs : Nat} {lp : List S82} {lo : List S134} {ls : List Int}
    (hP : Kd.C k82 w Ap lp.length lp) (hop : Ok2 lp) (hlp : lp.length ≤ 1000000) (hO : Kd.C k134 w Ao lo.length lo) (hoo : OkO lo) (hlo : lo.length ≤ 1000000) (hS : Kd.C (Kd.int .u32) w As ls.length ls) (hos : OkS ls) (hls : ls.length ≤ 1000000) :
    Calls Try.prog 74 #[.agg #[.int .u8 (s : Int), .int .u32 (sd : Int), .int .u32 (md : Int), .slice Ap lp.length cp, .slice Ao lo.length co, .int .u8 (e : Int), .int .u32 (mn : Int), .slice As ls.length cs], .agg (sortAt s)] w fun e_ w' =>
      ∃ A n c, e_ = .returned (.agg #[.int .u8 (cntN s : Int), .int .u8 (kndN s : Int), .slice A n c, .int .u8 0]) ∧ w'.ownsRow w.heap.size 5 1 (.slice A n c) (bodyN (inM s sd md lp lo e mn ls)).length (bv (bodyN (inM s sd md lp lo e mn ls))) ∧ Kp (fun _ => True) w w' := by
  rcases (by omega : s = 1 ∨ s = 2 ∨ s = 3 ∨ s = 4) with rfl | rfl | rfl | rfl
  · refine (packet1_any _ sd md e mn hsd hmd he hmn hP hop hlp hO hoo hlo hS hos hls).mono ?_
    rintro e_ w' ⟨vb, rfl, ho, hk⟩
    obtain ⟨A, n, c, rfl⟩ := own_slice' ho
    rw [pairsN_eq] at ho
    exact ⟨A, n, c, rfl, ho, hk⟩
  · refine (packet2_any _ sd md e mn hsd hmd he hmn hP hop hlp hO hoo hlo hS hos hls).mono ?_
    rintro e_ w' ⟨vb, rfl, ho, hk⟩
    obtain ⟨A, n, c, rfl⟩ := own_slice' ho
    exact ⟨A, n, c, rfl, ho, hk⟩
  · refine (packet3_any _ sd md e mn hsd hmd he hmn hP hop hlp hO hoo hlo hS hos hls).mono ?_
    rintro e_ w' ⟨vb, rfl, ho, hk⟩
    obtain ⟨A, n, c, rfl⟩ := own_slice' ho
    rw [ordersN_eq] at ho
    exact ⟨A, n, c, rfl, ho, hk⟩
  · refine (packet4_any _ sd md e mn hsd hmd he hmn hP hop hlp hO hoo hlo hS hos hls).mono ?_
    rintro e_ w' ⟨vb, rfl, ho, hk⟩
    obtain ⟨A, n, c, rfl⟩ := own_slice' ho
    have hr : rateD e mn ls = rateN e mn (nb ls) := by unfold rateD rateN; rw [srcsN_eq, nb_length]
    rw [hr] at ho
    exact ⟨A, n, c, rfl, ho, hk⟩
end Go.Proofs.Ytjcejgolcdgipaa.K7
