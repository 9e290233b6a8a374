/- Texts of this session, one behind the other, what the row does not use left out: walks and laws over plain data. -/
import Derived.Test.YtjcejgolcdgipaaPFP9
import Derived.Test.YtjcejgolcdgipaaPFP10
import Derived.Test.YtjcejgolcdgipaaPFP12
import Derived.Test.YtjcejgolcdgipaaPFP7

namespace Go.Proofs.Ytjcejgolcdgipaa.K7
open Go.RowKit Go.Proofs.YtjcejgolcdgipaaW.PrintWords Go.Proofs.YtjcejgolcdgipaaW.PrintLast Go.Proofs.YtjcejgolcdgipaaW.PrintMore
set_option linter.unusedVariables false

def ofP (x : S82) : Nat × Nat := (x.f0.toNat, x.f1.toNat)
def ofO (x : S134) : Nat × Nat := (x.f0.toNat, x.f1.toNat)
def toO (p : Nat × Nat) : S134 := ⟨(p.1 : Int), (p.2 : Int)⟩
theorem toP_ofP {l : List S82} (h : Ok2 l) : (l.map ofP).map toP = l := by
  rw [List.map_map]
  conv => rhs; rw [← List.map_id l]
  apply List.map_congr_left
  rintro ⟨a, b⟩ hx
  have := h _ hx
  simp only at this
  simp [toP, ofP, Int.toNat_of_nonneg this.1.1, Int.toNat_of_nonneg this.2.1]
theorem toO_ofO {l : List S134} (h : OkO l) : (l.map ofO).map toO = l := by
  rw [List.map_map]
  conv => rhs; rw [← List.map_id l]
  apply List.map_congr_left
  rintro ⟨a, b⟩ hx
  have := h _ hx
  simp only at this
  simp [toO, ofO, Int.toNat_of_nonneg this.1.1, Int.toNat_of_nonneg this.2.1]
instance : DecidableEq S82 := fun a b => decidable_of_iff (a.f0 = b.f0 ∧ a.f1 = b.f1) ⟨fun h => by cases a; cases b; simp_all, fun h => by subst h; exact ⟨rfl, rfl⟩⟩
instance : DecidableEq S134 := fun a b => decidable_of_iff (a.f0 = b.f0 ∧ a.f1 = b.f1) ⟨fun h => by cases a; cases b; simp_all, fun h => by subst h; exact ⟨rfl, rfl⟩⟩
instance : DecidableEq PM := fun a b => decidable_of_iff (a.sort = b.sort ∧ a.sd = b.sd ∧ a.md = b.md ∧ a.ps = b.ps ∧ a.os = b.os ∧ a.e = b.e ∧ a.m = b.m ∧ a.ss = b.ss ∧ a.err = b.err) ⟨fun h => by cases a; cases b; simp_all, fun h => by subst h; exact ⟨rfl, rfl, rfl, rfl, rfl, rfl, rfl, rfl, rfl⟩⟩
theorem pair_eq_l (a b : List S82) (hl : a.length = b.length) (hm : a.length ≤ 1000000000) : ∀ d i, i + d = a.length → a.take i = b.take i → ∃ k, feedback_Pair.l0 k a b (a.length : Int) (i : Int) = some (decide (a = b)) := by
  intro d
  induction d with
  | zero =>
    intro i hi ht
    refine ⟨1, ?_⟩
    rw [List.take_of_length_le (by omega), List.take_of_length_le (by omega)] at ht
    unfold feedback_Pair.l0
    rw [if_neg (by omega), ht]
    simp
  | succ d ih =>
    intro i hi ht
    have h1 : i < a.length := by omega
    have h2 : i < b.length := by omega
    have e1 : rd_T82 a (i : Int) = a[i] := by simp [rd_T82, h1]
    have e2 : rd_T82 b (i : Int) = b[i] := by simp [rd_T82, h2]
    by_cases he : a[i] = b[i]
    · obtain ⟨k, hk⟩ := ih (i + 1) (by omega) (take_ext h1 h2 ht he)
      refine ⟨k + 1, ?_⟩
      unfold feedback_Pair.l0
      rw [if_pos (by omega), if_pos (by omega), if_pos (by omega), if_pos (by omega), e1, e2, he, if_neg (by simp), IntWalk.wrap64_in _ (by omega)]
      exact hk
    · refine ⟨1, ?_⟩
      unfold feedback_Pair.l0
      rw [if_pos (by omega), if_pos (by omega), if_pos (by omega), if_pos (by omega), e1, e2, if_pos, decide_eq_false (ne_of_at h1 h2 he)]
      generalize a[i] = x at *
      generalize b[i] = y at *
      obtain ⟨x0, x1⟩ := x
      obtain ⟨y0, y1⟩ := y
      by_cases hz : x0 = y0
      · subst hz
        have : x1 ≠ y1 := fun h => he (by rw [h])
        simp [this]
      · simp [hz]
theorem pair_eq (a b : List S82) (hm : a.length ≤ 1000000000) : ∃ k, feedback_Pair.f k a b = some (decide (a = b)) := by
  by_cases hl : a.length = b.length
  · obtain ⟨k, hk⟩ := pair_eq_l a b hl hm a.length 0 (by omega) rfl
    exact ⟨k, by unfold feedback_Pair.f; rw [if_pos (by omega)]; exact hk⟩
  · exact ⟨0, by unfold feedback_Pair.f; rw [if_neg (by omega), decide_eq_false (fun h => hl (by rw [h]))]⟩
theorem order_eq_l (a b : List S134) (hl : a.length = b.length) (hm : a.length ≤ 1000000000) : ∀ d i, i + d = a.length → a.take i = b.take i → ∃ k, feedback_Order.l0 k a b (a.length : Int) (i : Int) = some (decide (a = b)) := by
  intro d
  induction d with
  | zero =>
    intro i hi ht
    refine ⟨1, ?_⟩
    rw [List.take_of_length_le (by omega), List.take_of_length_le (by omega)] at ht
    unfold feedback_Order.l0
    rw [if_neg (by omega), ht]
    simp
  | succ d ih =>
    intro i hi ht
    have h1 : i < a.length := by omega
    have h2 : i < b.length := by omega
    have e1 : rd_T134 a (i : Int) = a[i] := by simp [rd_T134, h1]
    have e2 : rd_T134 b (i : Int) = b[i] := by simp [rd_T134, h2]
    by_cases he : a[i] = b[i]
    · obtain ⟨k, hk⟩ := ih (i + 1) (by omega) (take_ext h1 h2 ht he)
      refine ⟨k + 1, ?_⟩
      unfold feedback_Order.l0
      rw [if_pos (by omega), if_pos (by omega), if_pos (by omega), if_pos (by omega), e1, e2, he, if_neg (by simp), IntWalk.wrap64_in _ (by omega)]
      exact hk
    · refine ⟨1, ?_⟩
      unfold feedback_Order.l0
      rw [if_pos (by omega), if_pos (by omega), if_pos (by omega), if_pos (by omega), e1, e2, if_pos, decide_eq_false (ne_of_at h1 h2 he)]
      generalize a[i] = x at *
      generalize b[i] = y at *
      obtain ⟨x0, x1⟩ := x
      obtain ⟨y0, y1⟩ := y
      by_cases hz : x0 = y0
      · subst hz
        have : x1 ≠ y1 := fun h => he (by rw [h])
        simp [this]
      · simp [hz]
theorem order_eq (a b : List S134) (hm : a.length ≤ 1000000000) : ∃ k, feedback_Order.f k a b = some (decide (a = b)) := by
  by_cases hl : a.length = b.length
  · obtain ⟨k, hk⟩ := order_eq_l a b hl hm a.length 0 (by omega) rfl
    exact ⟨k, by unfold feedback_Order.f; rw [if_pos (by omega)]; exact hk⟩
  · exact ⟨0, by unfold feedback_Order.f; rw [if_neg (by omega), decide_eq_false (fun h => hl (by rw [h]))]⟩
theorem src_eq_l (a b : List Int) (hl : a.length = b.length) (hm : a.length ≤ 1000000000) : ∀ d i, i + d = a.length → a.take i = b.take i → ∃ k, slices_Equal_uint32_uint32.l0 k a b (a.length : Int) (i : Int) = some (decide (a = b)) := by
  intro d
  induction d with
  | zero =>
    intro i hi ht
    refine ⟨1, ?_⟩
    rw [List.take_of_length_le (by omega), List.take_of_length_le (by omega)] at ht
    unfold slices_Equal_uint32_uint32.l0
    rw [if_neg (by omega), ht]
    simp
  | succ d ih =>
    intro i hi ht
    have h1 : i < a.length := by omega
    have h2 : i < b.length := by omega
    have e1 : rd a (i : Int) = a[i] := by simp [rd, h1]
    have e2 : rd b (i : Int) = b[i] := by simp [rd, h2]
    by_cases he : a[i] = b[i]
    · obtain ⟨k, hk⟩ := ih (i + 1) (by omega) (take_ext h1 h2 ht he)
      refine ⟨k + 1, ?_⟩
      unfold slices_Equal_uint32_uint32.l0
      rw [if_pos (by omega), if_pos (by omega), if_pos (by omega), if_pos (by omega), e1, e2, he, if_pos rfl, IntWalk.wrap64_in _ (by omega)]
      exact hk
    · refine ⟨1, ?_⟩
      unfold slices_Equal_uint32_uint32.l0
      rw [if_pos (by omega), if_pos (by omega), if_pos (by omega), if_pos (by omega), e1, e2, if_neg he, decide_eq_false (ne_of_at h1 h2 he)]
theorem src_eq (a b : List Int) (hm : a.length ≤ 1000000000) : ∃ k, slices_Equal_uint32_uint32.f k a b = some (decide (a = b)) := by
  by_cases hl : a.length = b.length
  · obtain ⟨k, hk⟩ := src_eq_l a b hl hm a.length 0 (by omega) rfl
    exact ⟨k, by unfold slices_Equal_uint32_uint32.f; rw [if_pos (by omega)]; exact hk⟩
  · exact ⟨0, by unfold slices_Equal_uint32_uint32.f; rw [if_neg (by omega), decide_eq_false (fun h => hl (by rw [h]))]⟩
theorem same_ev (a0 a1 a2 : Int) (a3 : List S82) (a4 : List S134) (a5 a6 : Int) (a7 : List Int) (b0 b1 b2 : Int) (b3 : List S82) (b4 : List S134) (b5 b6 : Int) (b7 : List Int) (h3 : a3.length ≤ 1000000000) (h4 : a4.length ≤ 1000000000) (h7 : a7.length ≤ 1000000000) :
    Ev (fun k => feedback_Same.f k a0 a1 a2 a3 a4 a5 a6 a7 b0 b1 b2 b3 b4 b5 b6 b7) (decide (a0 = b0 ∧ a1 = b1 ∧ a2 = b2 ∧ a5 = b5 ∧ a6 = b6 ∧ a3 = b3 ∧ a4 = b4 ∧ a7 = b7)) := by
  obtain ⟨k3, e3⟩ := pair_eq a3 b3 h3
  obtain ⟨k4, e4⟩ := order_eq a4 b4 h4
  obtain ⟨k7, e7⟩ := src_eq a7 b7 h7
  have E3 := Ev.of (feedback_Pair.mono a3 b3) e3
  have E4 := Ev.of (feedback_Order.mono a4 b4) e4
  have E7 := Ev.of (slices_Equal_uint32_uint32.mono a7 b7) e7
  unfold feedback_Same.f
  by_cases q0 : a0 = b0
  · by_cases q1 : a1 = b1
    · by_cases q2 : a2 = b2
      · by_cases q5 : a5 = b5
        · by_cases q6 : a6 = b6
          · simp only [q0, q1, q2, q5, q6, if_true, true_and]
            refine Ev.bind E3 ?_
            by_cases q3 : a3 = b3
            · simp only [q3, decide_true, if_true, true_and]
              refine Ev.bind E4 ?_
              by_cases q4 : a4 = b4
              · simp only [q4, decide_true, if_true, true_and]
                exact Ev.bind E7 (Ev.now _)
              · simp only [q4, decide_false, false_and]
                exact Ev.now _
            · simp only [q3, decide_false, false_and]
              exact Ev.now _
          · simp only [q6, if_false, and_false, false_and, decide_false, q0, q1, q2, q5, if_true]
            exact Ev.now _
        · simp only [q5, if_false, and_false, false_and, decide_false, q0, q1, q2, if_true]
          exact Ev.now _
      · simp only [q2, if_false, and_false, false_and, decide_false, q0, q1, if_true]
        exact Ev.now _
    · simp only [q1, if_false, and_false, false_and, decide_false, q0, if_true]
      exact Ev.now _
  · simp only [q0, if_false, false_and, decide_false]
    exact Ev.now _
/-- The digits of a message's parts, over plain pairs. -/
def pairsN (l : List (Nat × Nat)) : List Nat := l.flatMap fun x => ofn x.1 16 ++ ofn x.2 16
def ordersN (l : List (Nat × Nat)) : List Nat := l.flatMap fun x => ofn x.1 32 ++ ofn x.2 8 ++ ofn 0 24
def srcsN (l : List Nat) : List Nat := l.flatMap fun x => ofn x 32
theorem pairsN_eq (l : List S82) : pairsD l = pairsN (l.map ofP) := by
  induction l with
  | nil => rfl
  | cons x l ih => simp only [pairsD, pairsN, List.map_cons, List.flatMap_cons] at ih ⊢; rw [ih]; rfl
theorem ordersN_eq (l : List S134) : ordersD l = ordersN (l.map ofO) := by
  induction l with
  | nil => rfl
  | cons x l ih => simp only [ordersD, ordersN, List.map_cons, List.flatMap_cons] at ih ⊢; rw [ih]; rfl
theorem srcsN_eq (l : List Int) : sourcesD l = srcsN (nb l) := by
  induction l with
  | nil => rfl
  | cons x l ih => simp only [sourcesD, srcsN, nb, List.map_cons, List.flatMap_cons] at ih ⊢; rw [ih]
def rateN (e m : Nat) (l : List Nat) : List Nat := ofn rembN 32 ++ (ofn l.length 8 ++ (ofn e 6 ++ (ofn m 18 ++ srcsN l)))
def partN (M : PM) : List Nat := if M.sort = 1 then pairsN M.ps else if M.sort = 2 then [] else if M.sort = 3 then ordersN M.os else rateN M.e M.m M.ss
/-- A message's body, its kind, its count. -/
def bodyN (M : PM) : List Nat := pack (ofn M.sd 32 ++ ofn M.md 32 ++ partN M)
def kndN (s : Nat) : Nat := if s = 1 then 205 else 206
def cntN (s : Nat) : Nat := if s = 3 then 4 else if s = 4 then 15 else 1
/-- A message that came in, as plain data. -/
def inM (s sd md : Int) (lp : List S82) (lo : List S134) (e mn : Int) (ls : List Int) : PM := ⟨s.toNat, sd.toNat, md.toNat, lp.map ofP, lo.map ofO, e.toNat, mn.toNat, nb ls, 0⟩
def OkM (s sd md : Int) (lp : List S82) (lo : List S134) (e mn : Int) (ls : List Int) : Prop :=
  (0 ≤ s ∧ s < 256) ∧ (0 ≤ sd ∧ sd < 4294967296) ∧ (0 ≤ md ∧ md < 4294967296) ∧ (Ok2 lp ∧ lp.length ≤ 100000) ∧ (OkO lo ∧ lo.length ≤ 100000) ∧ (0 ≤ e ∧ e < 256) ∧ (0 ≤ mn ∧ mn < 4294967296) ∧ OkS ls ∧ ls.length ≤ 100000
instance (s sd md : Int) (lp : List S82) (lo : List S134) (e mn : Int) (ls : List Int) : Decidable (OkM s sd md lp lo e mn ls) := by unfold OkM; exact inferInstance
theorem packet_any {w : World} (s sd md e mn : Nat) (h1 : 1 ≤ s) (h4 : s ≤ 4) (hsd : sd < 4294967296) (hmd : md < 4294967296) (he : e < 256) (hmn : mn < 4294967296) {Ap Ao As : Option Addr} {cp co cs : Nat} {lp : List S82} {lo : List S134} {ls : List Int}
    (hP : Kd.C k82 w Ap lp.length lp) (hop : Ok2 lp) (hlp : lp.length ≤ 1000000) (hO : Kd.C k134 w Ao lo.length lo) (hoo : OkO lo) (hlo : lo.length ≤ 1000000) (hS : Kd.C (Kd.int .u32) w As ls.length ls) (hos : OkS ls) (hls : ls.length ≤ 1000000) :
    Calls Try.prog 74 #[.agg #[.int .u8 (s : Int), .int .u32 (sd : Int), .int .u32 (md : Int), .slice Ap lp.length cp, .slice Ao lo.length co, .int .u8 (e : Int), .int .u32 (mn : Int), .slice As ls.length cs], .agg (sortAt s)] w fun e_ w' =>
      ∃ A n c, e_ = .returned (.agg #[.int .u8 (cntN s : Int), .int .u8 (kndN s : Int), .slice A n c, .int .u8 0]) ∧ w'.ownsRow w.heap.size 5 1 (.slice A n c) (bodyN (inM s sd md lp lo e mn ls)).length (bv (bodyN (inM s sd md lp lo e mn ls))) ∧ Kp (fun _ => True) w w' := by
  rcases (by omega : s = 1 ∨ s = 2 ∨ s = 3 ∨ s = 4) with rfl | rfl | rfl | rfl
  · refine (packet1_any _ sd md e mn hsd hmd he hmn hP hop hlp hO hoo hlo hS hos hls).mono ?_
    rintro e_ w' ⟨vb, rfl, ho, hk⟩
    obtain ⟨A, n, c, rfl⟩ := own_slice' ho
    rw [pairsN_eq] at ho
    exact ⟨A, n, c, rfl, ho, hk⟩
  · refine (packet2_any _ sd md e mn hsd hmd he hmn hP hop hlp hO hoo hlo hS hos hls).mono ?_
    rintro e_ w' ⟨vb, rfl, ho, hk⟩
    obtain ⟨A, n, c, rfl⟩ := own_slice' ho
    exact ⟨A, n, c, rfl, ho, hk⟩
  · refine (packet3_any _ sd md e mn hsd hmd he hmn hP hop hlp hO hoo hlo hS hos hls).mono ?_
    rintro e_ w' ⟨vb, rfl, ho, hk⟩
    obtain ⟨A, n, c, rfl⟩ := own_slice' ho
    rw [ordersN_eq] at ho
    exact ⟨A, n, c, rfl, ho, hk⟩
  · refine (packet4_any _ sd md e mn hsd hmd he hmn hP hop hlp hO hoo hlo hS hos hls).mono ?_
    rintro e_ w' ⟨vb, rfl, ho, hk⟩
    obtain ⟨A, n, c, rfl⟩ := own_slice' ho
    have hr : rateD e mn ls = rateN e mn (nb ls) := by unfold rateD rateN; rw [srcsN_eq, nb_length]
    rw [hr] at ho
    exact ⟨A, n, c, rfl, ho, hk⟩
end Go.Proofs.Ytjcejgolcdgipaa.K7

namespace Go.Proofs.Ytjcejgolcdgipaa.K7
open Go.RowKit Go.Proofs.YtjcejgolcdgipaaW.PrintWords Go.Proofs.YtjcejgolcdgipaaW.PrintLast Go.Proofs.YtjcejgolcdgipaaW.PrintMore
set_option linter.unusedVariables false

theorem bv_nb {l : List Int} (h : OkN 256 l) : bv (nb l) = l.map (Value.int .u8) := by
  unfold bv nb
  rw [List.map_map]
  apply List.map_congr_left
  intro x hx
  have := h x hx
  show Value.int .u8 ((x.toNat : Nat) : Int) = _
  rw [Int.toNat_of_nonneg this.1]
theorem sl_u8 {w : World} {A : Option Addr} {l : List Int} {c : Nat} (h : Kd.C (Kd.int .u8) w A l.length l) (hc : l.length ≤ c) (ho : OkN 256 l) : Sl w (.slice A l.length c) (bv (nb l)) := by
  rw [bv_nb ho]
  exact sl_of_scalar h hc
theorem R_bytes {w : World} {base : Nat} {e : TypeId} {v : Value} {n : Nat} {bs : List Nat} (h : w.ownsRow base e 1 v n (bv bs)) : Kd.R (Kd.int .u8) e w base (fun _ => True) v (ib bs) := by
  have hl : n = bs.length := by have := h.1; rw [bv_length] at this; omega
  subst hl
  have he : bv bs = encs (Value.int .u8) (ib bs) := by simp [bv, ib, encs]
  rw [he] at h
  exact ⟨fun _ _ => trivial, _, by rw [ib_length]; exact h, Kd.reps_scalar _⟩
theorem R_srcs {w : World} {base : Nat} {e : TypeId} {v : Value} {n : Nat} {ss : List Nat} (h : w.ownsRow base e 1 v n (scs ss)) : Kd.R (Kd.int .u32) e w base (fun _ => True) v (ib ss) := by
  have hl : n = ss.length := by have := h.1; simp [scs] at this; omega
  subst hl
  have he : scs ss = encs (Value.int .u32) (ib ss) := by simp [scs, ib, encs]
  rw [he] at h
  exact ⟨fun _ _ => trivial, _, by rw [ib_length]; exact h, Kd.reps_scalar _⟩
theorem ocs_length (a : List (Nat × Nat)) : (ocs a).length = a.length * 2 := by
  induction a with
  | nil => rfl
  | cons p l ih => rw [show p :: l = [p] ++ l from rfl, ocs_append, List.length_append, ih, ocs_one]; simp; omega
theorem ocs_seg (ps : List (Nat × Nat)) (j : Nat) (p : Nat × Nat) (h : ps[j]? = some p) : ((ocs ps).drop (j * 2)).take 2 = [Value.int .u32 (p.1 : Int), Value.int .u8 (p.2 : Int)] := by
  induction ps generalizing j with
  | nil => simp at h
  | cons q l ih =>
    rw [show q :: l = [q] ++ l from rfl, ocs_append, ocs_one]
    rcases j with _ | j
    · simp at h
      subst h
      simp
    · rw [List.getElem?_cons_succ] at h
      rw [← ih j h, show (j + 1) * 2 = 2 + j * 2 from by omega, ← List.drop_drop]
      rfl
theorem R_orders {w : World} {base : Nat} {v : Value} {ps : List (Nat × Nat)} (h : w.ownsRow base 134 2 v ps.length (ocs ps)) : Kd.R k134 134 w base (fun _ => True) v (ps.map toO) := by
  refine ⟨fun _ _ => trivial, ocs ps, by rw [List.length_map]; exact h, by rw [List.length_map, ocs_length]; rfl, fun j p hj => ?_⟩
  rw [List.getElem?_map] at hj
  obtain ⟨x, hx, rfl⟩ := Option.map_eq_some_iff.1 hj
  show k134.M w base _ _ (((ocs ps).drop (j * 2)).take 2)
  rw [ocs_seg ps j x hx]
  exact ⟨[_], [_], rfl, rfl, rfl⟩
/-- A message's answer in the printed order. -/
def PMt (P : PM) : Int × Int × Int × List S82 × List S134 × Int × Int × List Int × Int := ((P.sort : Int), (P.sd : Int), (P.md : Int), P.ps.map toP, P.os.map toO, (P.e : Int), (P.m : Int), ib P.ss, (P.err : Int))
def fb_Parse.f (a0 a1 : Int) (l2 : List Int) (a3 : Int) : Option (Int × Int × Int × List S82 × List S134 × Int × Int × List Int × Int) :=
  if (0 ≤ a0 ∧ a0 < 256) ∧ (0 ≤ a1 ∧ a1 < 256) ∧ (0 ≤ a3 ∧ a3 < 256) ∧ OkN 256 l2 ∧ l2.length ≤ 1000000 then some (PMt (parseP a1.toNat a0.toNat (nb l2))) else none
theorem fb_Parse.calls (a0_0 : Int) (a0_1 : Int) (A0_2 : Option Addr) (c0_2 : Nat) (l0_2 : List Int) (a0_3 : Int) (r1 : Int) (r2 : Int) (r3 : Int) (r4 : List (S82)) (r5 : List (S134)) (r6 : Int) (r7 : Int) (r8 : List Int) (r9 : Int) (w : World) (hr0_2 : Kd.C (Kd.int .u8) w A0_2 l0_2.length l0_2) (hc0_2 : l0_2.length ≤ c0_2) (h : fb_Parse.f a0_0 a0_1 l0_2 a0_3 = some (r1, r2, r3, r4, r5, r6, r7, r8, r9)) :
    Calls Try.prog 25 #[.agg #[.int .u8 a0_0, .int .u8 a0_1, .slice A0_2 l0_2.length c0_2, .int .u8 a0_3]] w fun e w' => ∃ v3_ v4_ v7_ : Value, e = .returned (.tuple #[.agg #[.int .u8 r1, .int .u32 r2, .int .u32 r3, v3_, v4_, .int .u8 r6, .int .u32 r7, v7_], .int .i64 r9]) ∧ Kd.R k82 82 w' w.heap.size (fun _ => True) v3_ r4 ∧ Kd.R k134 134 w' w.heap.size (fun _ => True) v4_ r5 ∧ Kd.R (Kd.int .u32) 28 w' w.heap.size (fun _ => True) v7_ r8 ∧ Below w.heap.size w w' := by
  unfold fb_Parse.f at h
  split at h
  · rename_i hc
    obtain ⟨h1, h2, h3, h4, h5⟩ := hc
    obtain ⟨x0, rfl⟩ := Int.eq_ofNat_of_zero_le h1.1
    obtain ⟨x1, rfl⟩ := Int.eq_ofNat_of_zero_le h2.1
    obtain ⟨x3, rfl⟩ := Int.eq_ofNat_of_zero_le h3.1
    simp only [Int.toNat_natCast] at h
    injection h with h
    simp only [PMt, Prod.mk.injEq] at h
    obtain ⟨rfl, rfl, rfl, rfl, rfl, rfl, rfl, rfl, rfl⟩ := h
    refine (parse_any x0 x1 x3 (sl_u8 hr0_2 hc0_2 h4) (nb_lt (B := 256) h4) (by rw [nb_length]; exact h5)).mono ?_
    rintro e w' ⟨vp, vo, vs, rfl, o1, o2, o3, hk⟩
    exact ⟨vp, vo, vs, rfl, R_of_pairs o1, R_orders o2, R_srcs o3, kp_below' hk⟩
  · cases h
def fb_Is.f (a0 a1 : Int) (l2 : List Int) (a3 : Int) : Option Bool :=
  if (0 ≤ a0 ∧ a0 < 256) ∧ (0 ≤ a1 ∧ a1 < 256) ∧ (0 ≤ a3 ∧ a3 < 256) then some (decide (0 < sortOf a1.toNat a0.toNat)) else none
theorem fb_Is.calls (a0_0 : Int) (a0_1 : Int) (A0_2 : Option Addr) (c0_2 : Nat) (l0_2 : List Int) (a0_3 : Int) (r : Bool) (w : World) (hr0_2 : Kd.C (Kd.int .u8) w A0_2 l0_2.length l0_2) (hc0_2 : l0_2.length ≤ c0_2) (h : fb_Is.f a0_0 a0_1 l0_2 a0_3 = some r) :
    Calls Try.prog 29 #[.agg #[.int .u8 a0_0, .int .u8 a0_1, .slice A0_2 l0_2.length c0_2, .int .u8 a0_3]] w fun e w' => e = .returned (.bool r) ∧ Below w.heap.size w w' := by
  unfold fb_Is.f at h
  split at h
  · rename_i hc
    obtain ⟨h1, h2, h3⟩ := hc
    obtain ⟨x0, rfl⟩ := Int.eq_ofNat_of_zero_le h1.1
    obtain ⟨x1, rfl⟩ := Int.eq_ofNat_of_zero_le h2.1
    obtain ⟨x3, rfl⟩ := Int.eq_ofNat_of_zero_le h3.1
    simp only [Int.toNat_natCast] at h
    injection h with h
    subst h
    clear hr0_2 hc0_2
    generalize l0_2.length = n at *
    go_enter Try.func29, Try.ntmps29
    go_wp2_with fail
    refine (of_any _ x0 x1 x3 _ ⟨_, _, _, rfl⟩).mono ?_
    rintro e_ w1 ⟨rfl, hK1⟩
    go_wp2
    go_ret
    exact ⟨by simp, kp_below' (((Kp.refl _ _).alloc _).trans hK1)⟩
  · cases h
theorem sort_ixN (W : World) (s : Nat) (h1 : 1 ≤ s) (h4 : s ≤ 4) : (Instr.index 126 (.agg sortCells) (.int .u8 (s : Int))).run Try.prog W = .ok (.agg (sortAt s)) W := by
  rcases (by omega : s = 1 ∨ s = 2 ∨ s = 3 ∨ s = 4) with rfl | rfl | rfl | rfl
  · exact sort_ix1 .u8 W
  · exact sort_ix2 .u8 W
  · exact sort_ix3 .u8 W
  · exact sort_ix4 .u8 W
theorem far4 {w : World} {g z : Nat} {t : TypeId} {cs : Array Value} (h : Blk w g t cs) (hne : g ≠ z) (a0 a1 a2 a3 : Value) : Blk ((((w.setCell ⟨z, 0, none⟩ a0).setCell ⟨z, 1, none⟩ a1).setCell ⟨z, 2, none⟩ a2).setCell ⟨z, 3, none⟩ a3) g t cs :=
  (((h.far (p := ⟨z, 0, none⟩) hne a0).far (p := ⟨z, 1, none⟩) hne a1).far (p := ⟨z, 2, none⟩) hne a2).far (p := ⟨z, 3, none⟩) hne a3
theorem set4 {w : World} {z : Nat} {t : TypeId} {b0 b1 b2 b3 : Value} (h : Blk w z t #[b0, b1, b2, b3]) (a0 a1 a2 a3 : Value) : Blk ((((w.setCell ⟨z, 0, none⟩ a0).setCell ⟨z, 1, none⟩ a1).setCell ⟨z, 2, none⟩ a2).setCell ⟨z, 3, none⟩ a3) z t #[a0, a1, a2, a3] := by
  have h9 := (((h.set 0 a0).set 1 a1).set 2 a2).set 3 a3
  simp only [List.setIfInBounds_toArray, List.set_cons_zero, List.set_cons_succ] at h9
  exact h9
theorem kp4 (w : World) (z : Nat) (a0 a1 a2 a3 : Value) : Kp (· ≠ z) w ((((w.setCell ⟨z, 0, none⟩ a0).setCell ⟨z, 1, none⟩ a1).setCell ⟨z, 2, none⟩ a2).setCell ⟨z, 3, none⟩ a3) := (((((Kp.refl (· ≠ z) w).set_).set_).set_).set_)
/-- Whether a message is right. -/
def rightN (M : PM) : Bool := decide (1 ≤ M.sort ∧ M.sort ≤ 4 ∧ M.ss.length ≤ 255) && (decide (parseP (kndN M.sort) (cntN M.sort) (bodyN M) = M) && decide ((bodyN M).length % 4 = 0 ∧ (bodyN M).length / 4 ≤ 65535))
theorem parse_any' {w : World} {A : Option Addr} {n c : Nat} {bs : List Nat} (ct kd : Nat) (pd : Int) (hp : 0 ≤ pd) (hs : Sl w (.slice A n c) (bv bs)) (hb : Bts bs) (hl : bs.length ≤ 1000000) :
    Calls Try.prog 25 #[.agg #[.int .u8 (ct : Int), .int .u8 (kd : Int), .slice A n c, .int .u8 pd]] w fun e_ w' => PMs w w' e_ (parseP kd ct bs) := by
  obtain ⟨m, rfl⟩ := Int.eq_ofNat_of_zero_le hp
  exact parse_any ct kd m hs hb hl
theorem below_alloc' (w : World) (o : Obj) : Below w.heap.size w (w.alloc o) := (Below.refl _ _).alloc (Nat.le_refl _) o
theorem dgs_flat {α : Type} (f : α → List Nat) (h : ∀ x, Dgs (f x)) (l : List α) : Dgs (l.flatMap f) := by
  intro d hd
  obtain ⟨x, _, hx⟩ := List.mem_flatMap.1 hd
  exact h x d hx
theorem ofn_dgs (x k : Nat) : Dgs (ofn x k) := fun d hd => ofn_lt x k d hd
theorem rateN_dgs (e m : Nat) (l : List Nat) : Dgs (rateN e m l) := (ofn_dgs _ _).append ((ofn_dgs _ _).append ((ofn_dgs _ _).append ((ofn_dgs _ _).append (dgs_flat _ (fun x => ofn_dgs _ _) l))))
theorem partN_dgs (M : PM) : Dgs (partN M) := by
  unfold partN
  split
  · exact dgs_flat _ (fun x => (ofn_dgs _ _).append (ofn_dgs _ _)) _
  · split
    · exact Dgs.nil
    · split
      · exact dgs_flat _ (fun x => ((ofn_dgs _ _).append (ofn_dgs _ _)).append (ofn_dgs _ _)) _
      · exact rateN_dgs _ _ _
theorem bodyN_dgs (M : PM) : Dgs (ofn M.sd 32 ++ ofn M.md 32 ++ partN M) := ((ofn_dgs _ _).append (ofn_dgs _ _)).append (partN_dgs M)
theorem bodyN_bts (M : PM) : Bts (bodyN M) := pack_bytes (bodyN_dgs M)
theorem partN_le (M : PM) (hp : M.ps.length ≤ 100000) (ho : M.os.length ≤ 100000) (hs : M.ss.length ≤ 255) : (partN M).length ≤ 6400000 := by
  unfold partN
  split
  · have := flat_len (fun x : Nat × Nat => ofn x.1 16 ++ ofn x.2 16) 32 (fun x => by rw [List.length_append, ofn_length, ofn_length]) M.ps
    unfold pairsN
    omega
  · split
    · simp
    · split
      · have := flat_len (fun x : Nat × Nat => ofn x.1 32 ++ ofn x.2 8 ++ ofn 0 24) 64 (fun x => by simp [ofn_length]) M.os
        unfold ordersN
        omega
      · have := flat_len (fun x : Nat => ofn x 32) 32 (fun x => ofn_length _ _) M.ss
        simp only [rateN, List.length_append, ofn_length, srcsN]
        omega
theorem bodyN_len (s sd md e mn : Nat) (lp : List S82) (lo : List S134) (ls : List Int) (h4 : s ≤ 4) (hlp : lp.length ≤ 100000) (hlo : lo.length ≤ 100000) (hls : ls.length ≤ 255) : (bodyN (inM s sd md lp lo e mn ls)).length ≤ 900000 := by
  unfold bodyN
  have := partN_le (inM s sd md lp lo e mn ls) (by simp [inM]; exact hlp) (by simp [inM]; exact hlo) (by simp [inM, nb_length]; exact hls)
  rw [pack_length, List.length_append, List.length_append, ofn_length, ofn_length]
  omega
theorem parseP_len (kd ct : Nat) (bs : List Nat) (h : bs.length ≤ 1000000) : (parseP kd ct bs).ps.length ≤ 1000000 ∧ (parseP kd ct bs).os.length ≤ 1000000 ∧ (parseP kd ct bs).ss.length ≤ 1000000 := by
  unfold parseP
  split
  · unfold parse1
    split
    · refine ⟨?_, by simp, by simp⟩
      show (tPairs _ _ _).length ≤ _
      rw [tPairs_length]; omega
    · simp [PM.no]
  · unfold parse2
    split <;> simp [PM.no]
  · unfold parse3
    split
    · refine ⟨by simp, ?_, by simp⟩
      show (tOrders _ _ _).length ≤ _
      rw [tOrders_length]; omega
    · simp [PM.no]
  · unfold parse4
    split
    · refine ⟨by simp, by simp, ?_⟩
      show (tSrc _ _ _).length ≤ _
      rw [tSrc_length]
      have := vl_lt bs 96 8
      omega
    · simp [PM.no]
  · simp [PM.no]
theorem rightN_in {s sd md e mn : Nat} {lp : List S82} {lo : List S134} {ls : List Int} (h1 : 1 ≤ s) (h4 : s ≤ 4) (hls : ls.length ≤ 255) :
    rightN (inM s sd md lp lo e mn ls) = (decide (parseP (kndN s) (cntN s) (bodyN (inM s sd md lp lo e mn ls)) = inM s sd md lp lo e mn ls) && decide ((bodyN (inM s sd md lp lo e mn ls)).length % 4 = 0 ∧ (bodyN (inM s sd md lp lo e mn ls)).length / 4 ≤ 65535)) := by
  unfold rightN
  have e1 : (inM s sd md lp lo e mn ls).sort = s := rfl
  have e2 : (inM s sd md lp lo e mn ls).ss.length = ls.length := nb_length ls
  rw [e1, e2, decide_eq_true ⟨h1, h4, hls⟩, Bool.true_and]
theorem same_in {s sd md e mn P1 P2 P3 P6 P7 : Nat} {P4 P5 : List (Nat × Nat)} {P8 : List Nat} {lp : List S82} {lo : List S134} {ls : List Int} (hop : Ok2 lp) (hoo : OkO lo) (hos : OkS ls) :
    (decide ((P1 : Int) = (s : Int) ∧ (P2 : Int) = (sd : Int) ∧ (P3 : Int) = (md : Int) ∧ (P6 : Int) = (e : Int) ∧ (P7 : Int) = (mn : Int) ∧ P4.map toP = lp ∧ P5.map toO = lo ∧ ib P8 = ls)) = decide ((⟨P1, P2, P3, P4, P5, P6, P7, P8, 0⟩ : PM) = inM s sd md lp lo e mn ls) := by
  rw [decide_eq_decide]
  unfold inM
  simp only [Int.toNat_natCast, PM.mk.injEq, Int.ofNat_inj]
  constructor
  · rintro ⟨q1, q2, q3, q4, q5, q6, q7, q8⟩
    refine ⟨q1, q2, q3, ?_, ?_, q4, q5, ?_, trivial⟩
    · rw [← q6, List.map_map]
      conv => lhs; rw [← List.map_id P4]
      exact List.map_congr_left (fun x _ => by simp [toP, ofP])
    · rw [← q7, List.map_map]
      conv => lhs; rw [← List.map_id P5]
      exact List.map_congr_left (fun x _ => by simp [toO, ofO])
    · rw [← q8, nb_ib]
  · rintro ⟨q1, q2, q3, q4, q5, q6, q7, q8, _⟩
    exact ⟨q1, q2, q3, q6, q7, by rw [q4, toP_ofP hop], by rw [q5, toO_ofO hoo], by rw [q8, ib_nb hos]⟩
theorem rtcp_in {bs : List Nat} {s : Nat} (h4 : s ≤ 4) (hl : bs.length ≤ 1000000) : rtcp_Right.f (cntN s : Int) (kndN s : Int) (ib bs) 0 = some (decide (bs.length % 4 = 0 ∧ bs.length / 4 ≤ 65535)) := by
  have hc : cntN s ≤ 31 := by unfold cntN; split <;> (try split) <;> omega
  unfold rtcp_Right.f rtcp_Packet_words.f
  rw [if_pos (by omega), ib_length]
  by_cases h : bs.length % 4 = 0
  · have e1 : wrap64 (0 : Int) = 0 := by unfold wrap64; omega
    rw [if_pos (by omega), if_pos (by decide), e1, Int.add_zero, IntWalk.wrap64_in (bs.length : Int) (by omega)]
    have e2 : Int.tdiv (bs.length : Int) 4 = ((bs.length / 4 : Nat) : Int) := by rw [show (4 : Int) = ((4 : Nat) : Int) from rfl, ← Int.ofNat_tdiv]
    rw [e2, IntWalk.wrap64_in ((bs.length / 4 : Nat) : Int) (by omega), Option.bind_some, Option.some.injEq, decide_eq_decide]
    omega
  · rw [if_neg (by omega), decide_eq_false (fun hh => h hh.1)]
set_option maxHeartbeats 4000000 in
set_option maxRecDepth 100000 in
theorem right_try {w : World} (s sd md e mn : Nat) (h1 : 1 ≤ s) (h4 : s ≤ 4) (hsd : sd < 4294967296) (hmd : md < 4294967296) (he : e < 256) (hmn : mn < 4294967296) {Ap Ao As : Option Addr} {cp co cs : Nat} {lp : List S82} {lo : List S134} {ls : List Int}
    (hP : Kd.C k82 w Ap lp.length lp) (hop : Ok2 lp) (hlp : lp.length ≤ 100000) (hcp : lp.length ≤ cp) (hO : Kd.C k134 w Ao lo.length lo) (hoo : OkO lo) (hlo : lo.length ≤ 100000) (hco : lo.length ≤ co) (hS : Kd.C (Kd.int .u32) w As ls.length ls) (hos : OkS ls) (hls : ls.length ≤ 255) (hcs : ls.length ≤ cs) :
    Calls Try.prog 36 #[.agg #[.int .u8 (s : Int), .int .u32 (sd : Int), .int .u32 (md : Int), .slice Ap lp.length cp, .slice Ao lo.length co, .int .u8 (e : Int), .int .u32 (mn : Int), .slice As ls.length cs]] w fun e_ w' =>
      e_ = .returned (.bool (rightN (inM s sd md lp lo e mn ls))) ∧ Below w.heap.size w w' := by
  have hix := fun W => sort_ixN W s h1 h4
  have g1 : decide ((s : Int) < 1) = false := decide_eq_false (by omega)
  have g2 : decide ((4 : Int) < (s : Int)) = false := decide_eq_false (by omega)
  have g3 : decide ((255 : Int) < (ls.length : Int)) = false := decide_eq_false (by omega)
  obtain ⟨w1, hw1⟩ : ∃ w1, w1 = w.alloc (.cells #[.int .u8 (s : Int), .int .u32 (sd : Int), .int .u32 (md : Int), .slice Ap lp.length cp, .slice Ao lo.length co, .int .u8 (e : Int), .int .u32 (mn : Int), .slice As ls.length cs] 52) := ⟨_, rfl⟩
  have hK1 : Kp (fun _ => True) w w1 := hw1 ▸ (Kp.refl _ _).alloc _
  have M1 : Blk w1 w.heap.size 52 _ := hw1 ▸ Blk.new w _ #[.int .u8 (s : Int), .int .u32 (sd : Int), .int .u32 (md : Int), .slice Ap lp.length cp, .slice Ao lo.length co, .int .u8 (e : Int), .int .u32 (mn : Int), .slice As ls.length cs]
  have c1 := M1.cell
  go_enter Try.func36, Try.ntmps36
  go_upto_region 1 with (fail)
  rw [← hw1]
  clear hw1
  go_upto_region 3 with (fail)
  have s1 : ∀ j, w1.drew.cell? ⟨w.heap.size, j, none⟩ = #[.int .u8 (s : Int), .int .u32 (sd : Int), .int .u32 (md : Int), .slice Ap lp.length cp, .slice Ao lo.length co, .int .u8 (e : Int), .int .u32 (mn : Int), .slice As ls.length cs][j]? := M1.cell
  have s1' : ∀ j, (w1.alloc (.cells #[.int .u8 0, .int .u8 0, .slice none 0 0, .int .u8 0] 40)).drew.cell? ⟨w.heap.size, j, none⟩ = #[.int .u8 (s : Int), .int .u32 (sd : Int), .int .u32 (md : Int), .slice Ap lp.length cp, .slice Ao lo.length co, .int .u8 (e : Int), .int .u32 (mn : Int), .slice As ls.length cs][j]? := (M1.alloc _).cell
  go_region_held3 (fun W => (∀ j, W.cell? ⟨w.heap.size, j, none⟩ = #[.int .u8 (s : Int), .int .u32 (sd : Int), .int .u32 (md : Int), .slice Ap lp.length cp, .slice Ao lo.length co, .int .u8 (e : Int), .int .u32 (mn : Int), .slice As ls.length cs][j]?))
    (first | with_reducible exact s9 | with_reducible exact s9' | with_reducible exact s5 | with_reducible exact s4 | with_reducible exact s2' | with_reducible exact s1' | exact s1 | exact s2 | exact s3)
    (first
      | (go_at_call 67; refine (sorts_any _).mono ?_; rintro e_ w2 ⟨rfl, hK2⟩; have M2 : Blk w2 w.heap.size 52 #[.int .u8 (s : Int), .int .u32 (sd : Int), .int .u32 (md : Int), .slice Ap lp.length cp, .slice Ao lo.length co, .int .u8 (e : Int), .int .u32 (mn : Int), .slice As ls.length cs] := (by first | exact M1.drew.kp hK2 trivial | exact (M1.alloc _).drew.kp hK2 trivial); have hKb : Kp (fun _ => True) w w2 := (by first | exact hK1.drew.trans hK2 | exact (hK1.alloc _).drew.trans hK2); (try have Z2 : Blk w2 w1.heap.size 40 #[.int .u8 0, .int .u8 0, .slice none 0 0, .int .u8 0] := (Blk.new w1 _ _).drew.kp hK2 trivial); have s2 := M2.cell; have s2' := (M2.alloc (.cells #[.int .u8 0, .int .u8 0, .slice none 0 0, .int .u8 0] 40)).cell)
      | (go_at_call 74; (first | refine (packet_any s sd md e mn h1 h4 hsd hmd he hmn (C_all hP hKb) hop (by omega) (C_all hO hKb) hoo (by omega) (C_all hS hKb) hos (by omega)).mono ?_ | refine (packet_any s sd md e mn h1 h4 hsd hmd he hmn (C_all hP (hKb.alloc (.cells #[.int .u8 0, .int .u8 0, .slice none 0 0, .int .u8 0] 40))) hop (by omega) (C_all hO (hKb.alloc (.cells #[.int .u8 0, .int .u8 0, .slice none 0 0, .int .u8 0] 40))) hoo (by omega) (C_all hS (hKb.alloc (.cells #[.int .u8 0, .int .u8 0, .slice none 0 0, .int .u8 0] 40))) hos (by omega)).mono ?_); rintro e_ w3 ⟨A3, n3, c3, rfl, ho3, hK3⟩; have M3 : Blk w3 w.heap.size 52 #[.int .u8 (s : Int), .int .u32 (sd : Int), .int .u32 (md : Int), .slice Ap lp.length cp, .slice Ao lo.length co, .int .u8 (e : Int), .int .u32 (mn : Int), .slice As ls.length cs] := (by first | exact M2.kp hK3 trivial | exact (M2.alloc _).kp hK3 trivial); have hKc : Kp (fun _ => True) w w3 := (by first | exact hKb.trans hK3 | exact (hKb.alloc _).trans hK3); have s3 := M3.cell; have s4 := (M3.alloc (.cells #[.int .u8 0, .int .u8 0, .slice none 0 0, .int .u8 0] 40)).cell; have s5 := (M3.alloc (.cells #[.int .u8 (cntN s : Int), .int .u8 (kndN s : Int), .slice A3 n3 c3, .int .u8 0] 40)).cell; (try have Z3 : Blk w3 w1.heap.size 40 #[.int .u8 0, .int .u8 0, .slice none 0 0, .int .u8 0] := Z2.kp hK3 trivial); (try have Z3 : Blk w3 w2.heap.size 40 #[.int .u8 0, .int .u8 0, .slice none 0 0, .int .u8 0] := (Blk.new w2 _ _).kp hK3 trivial); (try have f3 := Z3.frozen); (try have c3_ := Z3.cell); have s9 := (far4 M3 (Nat.ne_of_lt M2.lt) (.int .u8 (cntN s : Int)) (.int .u8 (kndN s : Int)) (.slice A3 n3 c3) (.int .u8 0)).cell; have s9' := (far4 M3 (Nat.ne_of_lt M1.lt) (.int .u8 (cntN s : Int)) (.int .u8 (kndN s : Int)) (.slice A3 n3 c3) (.int .u8 0)).cell))
  all_goals
    have hz1 := hK1.size
    have hz2 := hKb.size
    have hz3 := hKc.size
    have hzl := M1.lt
    have hzm := M2.lt
    (try have hzz := Z2.lt)
    first
    | (obtain ⟨w4, hw4⟩ : ∃ w4, w4 = w3.alloc (.cells #[.int .u8 (cntN s : Int), .int .u8 (kndN s : Int), .slice A3 n3 c3, .int .u8 0] 40) := ⟨_, rfl⟩
       rw [← hw4]
       have B4 : Blk w4 w3.heap.size 40 #[.int .u8 (cntN s : Int), .int .u8 (kndN s : Int), .slice A3 n3 c3, .int .u8 0] := hw4 ▸ Blk.new w3 _ _
       have M4 : Blk w4 w.heap.size 52 #[.int .u8 (s : Int), .int .u32 (sd : Int), .int .u32 (md : Int), .slice Ap lp.length cp, .slice Ao lo.length co, .int .u8 (e : Int), .int .u32 (mn : Int), .slice As ls.length cs] := hw4 ▸ M3.alloc _
       have o4 : w4.ownsRow w.heap.size 5 1 (.slice A3 n3 c3) _ _ := hw4 ▸ own_lo (own_kp ho3 ((Kp.refl (fun _ => True) w3).alloc _) (fun _ _ _ => trivial)) (by omega)
       have K4 : Kp (fun _ => True) w w4 := hw4 ▸ hKc.alloc _
       clear hw4
       generalize w3.heap.size = gp at *
       skip)
    | (obtain ⟨w4, hw4⟩ : ∃ w4, w4 = ((((w3.setCell ⟨w2.heap.size, 0, none⟩ (.int .u8 (cntN s : Int))).setCell ⟨w2.heap.size, 1, none⟩ (.int .u8 (kndN s : Int))).setCell ⟨w2.heap.size, 2, none⟩ (.slice A3 n3 c3)).setCell ⟨w2.heap.size, 3, none⟩ (.int .u8 0)) := ⟨_, rfl⟩
       rw [← hw4]
       have hne : w.heap.size ≠ w2.heap.size := by omega
       have B4 : Blk w4 w2.heap.size 40 #[.int .u8 (cntN s : Int), .int .u8 (kndN s : Int), .slice A3 n3 c3, .int .u8 0] := hw4 ▸ set4 Z3 _ _ _ _
       have M4 : Blk w4 w.heap.size 52 #[.int .u8 (s : Int), .int .u32 (sd : Int), .int .u32 (md : Int), .slice Ap lp.length cp, .slice Ao lo.length co, .int .u8 (e : Int), .int .u32 (mn : Int), .slice As ls.length cs] := hw4 ▸ far4 M3 hne _ _ _ _
       have o4 : w4.ownsRow w.heap.size 5 1 (.slice A3 n3 c3) _ _ := hw4 ▸ own_lo (own_kp ho3 (kp4 w3 w2.heap.size _ _ _ _) (fun g hg _ => Nat.ne_of_gt (by first | omega | (simp at hg; omega)))) (by first | omega | (simp; omega))
       have K4 : Kp (fun _ => True) w w4 := hw4 ▸ kp_far hKc (kp4 w3 w2.heap.size _ _ _ _) (fun k hk => by omega)
       clear hw4
       generalize w2.heap.size = gp at *
       skip)
    | (obtain ⟨w4, hw4⟩ : ∃ w4, w4 = ((((w3.setCell ⟨w1.heap.size, 0, none⟩ (.int .u8 (cntN s : Int))).setCell ⟨w1.heap.size, 1, none⟩ (.int .u8 (kndN s : Int))).setCell ⟨w1.heap.size, 2, none⟩ (.slice A3 n3 c3)).setCell ⟨w1.heap.size, 3, none⟩ (.int .u8 0)) := ⟨_, rfl⟩
       rw [← hw4]
       have hne : w.heap.size ≠ w1.heap.size := by omega
       have B4 : Blk w4 w1.heap.size 40 #[.int .u8 (cntN s : Int), .int .u8 (kndN s : Int), .slice A3 n3 c3, .int .u8 0] := hw4 ▸ set4 Z3 _ _ _ _
       have M4 : Blk w4 w.heap.size 52 #[.int .u8 (s : Int), .int .u32 (sd : Int), .int .u32 (md : Int), .slice Ap lp.length cp, .slice Ao lo.length co, .int .u8 (e : Int), .int .u32 (mn : Int), .slice As ls.length cs] := hw4 ▸ far4 M3 hne _ _ _ _
       have o4 : w4.ownsRow w.heap.size 5 1 (.slice A3 n3 c3) _ _ := hw4 ▸ own_lo (own_kp ho3 (kp4 w3 w1.heap.size _ _ _ _) (fun g hg _ => Nat.ne_of_gt (by first | omega | (simp at hg; omega)))) (by first | omega | (simp; omega))
       have K4 : Kp (fun _ => True) w w4 := hw4 ▸ kp_far hKc (kp4 w3 w1.heap.size _ _ _ _) (fun k hk => by omega)
       clear hw4
       generalize w1.heap.size = gp at *
       skip)
  all_goals
    have hRb := R_bytes o4
    obtain ⟨A4, c4, hv4, l4, hC4⟩ := Kd.R_reads hRb
    injection hv4 with hv5 hv6 hv7
    subst hv5 hv6 hv7
    have hbt : Bts (bodyN (inM s sd md lp lo e mn ls)) := bodyN_bts _
    have hbl : (bodyN (inM s sd md lp lo e mn ls)).length ≤ 900000 := bodyN_len _ _ _ _ _ _ _ _ h4 hlp hlo hls
    have lcc := l4
    have hsl := sl_u8 hC4 l4 (ib_ok (B := 256) hbt)
    rw [nb_ib] at hsl
    have hRN : Hd (rightN (inM s sd md lp lo e mn ls) = (decide (parseP (kndN s) (cntN s) (bodyN (inM s sd md lp lo e mn ls)) = inM s sd md lp lo e mn ls) && decide ((bodyN (inM s sd md lp lo e mn ls)).length % 4 = 0 ∧ (bodyN (inM s sd md lp lo e mn ls)).length / 4 ≤ 65535))) := hd (rightN_in h1 h4 hls)
    have cB := B4.cell
    go_wp2_with fail
    refine (parse_any' (cntN s) (kndN s) 0 (by decide) hsl hbt (by omega)).mono ?_
    rintro e_ w5 ⟨vp, vo, vs, rfl, o1, o2, o3, hK5⟩
    obtain ⟨Aq, cq, rfl, lq, hCq⟩ := Kd.R_reads (R_of_pairs o1)
    obtain ⟨Ar, cr, rfl, lr, hCr⟩ := Kd.R_reads (R_orders o2)
    obtain ⟨At, ct, rfl, lt, hCt⟩ := Kd.R_reads (R_srcs o3)
    have B5 := B4.kp hK5 trivial
    have M5 := M4.kp hK5 trivial
    have K5 := K4.trans hK5
    have hC5 := C_all hC4 hK5
    have hP5 := C_all hP K5
    have hO5 := C_all hO K5
    have hS5 := C_all hS K5
    have hM0 : Hd (inM s sd md lp lo e mn ls = ⟨s, sd, md, lp.map ofP, lo.map ofO, e, mn, nb ls, 0⟩) := hd rfl
    have hPl : Hd ((parseP (kndN s) (cntN s) (bodyN (inM s sd md lp lo e mn ls))).ps.length ≤ 1000000 ∧ (parseP (kndN s) (cntN s) (bodyN (inM s sd md lp lo e mn ls))).os.length ≤ 1000000 ∧ (parseP (kndN s) (cntN s) (bodyN (inM s sd md lp lo e mn ls))).ss.length ≤ 1000000) := hd (parseP_len _ _ _ (by omega))
    generalize parseP (kndN s) (cntN s) (bodyN (inM s sd md lp lo e mn ls)) = P at *
    obtain ⟨P1, P2, P3, P4, P5, P6, P7, P8, P9⟩ := P
    simp only at lq lr lt hCq hCr hCt
    have HPL := hd hPl.out
    simp only at HPL
    clear hPl o1 o2 o3 hK5 cB hsl hC4 l4 B4 M4 K4 hP hO hS o4 hRb M3 M2 M1 hKc hKb hK1 hix
    generalize hL4 : List.map toP P4 = L4 at *
    generalize hL5 : List.map toO P5 = L5 at *
    generalize hL8 : ib P8 = L8 at *
    have q4 : L4.length ≤ 1000000 := by rw [← hL4, List.length_map]; exact HPL.out.1
    have q5 : L5.length ≤ 1000000 := by rw [← hL5, List.length_map]; exact HPL.out.2.1
    have q8 : L8.length ≤ 1000000 := by rw [← hL8, ib_length]; exact HPL.out.2.2
    have hEQ : Hd ((decide ((P1 : Int) = (s : Int) ∧ (P2 : Int) = (sd : Int) ∧ (P3 : Int) = (md : Int) ∧ (P6 : Int) = (e : Int) ∧ (P7 : Int) = (mn : Int) ∧ L4 = lp ∧ L5 = lo ∧ L8 = ls)) = decide ((⟨P1, P2, P3, P4, P5, P6, P7, P8, 0⟩ : PM) = inM s sd md lp lo e mn ls)) := hd (by rw [← hL4, ← hL5, ← hL8]; exact same_in hop hoo hos)
    clear hL4 hL5 hL8
    by_cases hE : P9 = 0
    · subst hE
      obtain ⟨k, hk⟩ := (same_ev (P1 : Int) (P2 : Int) (P3 : Int) L4 L5 (P6 : Int) (P7 : Int) L8 (s : Int) (sd : Int) (md : Int) lp lo (e : Int) (mn : Int) ls (by omega) (by omega) (by omega)).rounds
      rw [hEQ.out] at hk
      have m5 := fun o i => (M5.alloc o).cell i
      go_wp2_with fail
      refine (feedback_Same.calls k _ _ _ _ _ _ _ _ _ _ _ _ _ _ _ _ _ _ _ _ _ _ _ _ _ _ _ _ _ _ (Kd.C_below hCq (below_alloc' _ _)) lq (Kd.C_below hCr (below_alloc' _ _)) lr (Kd.C_below hCt (below_alloc' _ _)) lt (Kd.C_below hP5 (below_alloc' _ _)) hcp (Kd.C_below hO5 (below_alloc' _ _)) hco (Kd.C_below hS5 (below_alloc' _ _)) hcs hk).mono ?_
      rintro e_ w7 ⟨rfl, hB7⟩
      have K7 := K5.trans (((Kp.refl (fun _ => True) w5).alloc _).trans (Kp.of_below hB7 (fun k _ hl => hl)))
      have B7 := (B5.alloc _).kp (Kp.of_below (F := fun _ => True) hB7 (fun k _ hl => hl)) trivial
      have hC7 := C_all (C_all hC5 ((Kp.refl _ _).alloc _)) (Kp.of_below hB7 (fun k _ hl => hl))
      by_cases hPM : (⟨P1, P2, P3, P4, P5, P6, P7, P8, 0⟩ : PM) = inM s sd md lp lo e mn ls
      · have hRT := rtcp_in (bs := bodyN (inM s sd md lp lo e mn ls)) (s := s) h4 (by omega)
        have c7 := B7.cell
        rw [decide_eq_true hPM] at hk ⊢
        rw [decide_eq_true hPM] at hRN
        generalize hdd : decide ((bodyN (inM s sd md lp lo e mn ls)).length % 4 = 0 ∧ (bodyN (inM s sd md lp lo e mn ls)).length / 4 ≤ 65535) = dd at *
        clear hPM hEQ hdd
        go_wp2_with fail
        refine (rtcp_Right.calls _ _ _ _ _ _ _ _ hC7 lcc hRT).mono ?_
        rintro e_ w8 ⟨rfl, hB8⟩
        go_wp2
        go_ret
        exact ⟨by rw [hRN.out, Bool.true_and]; rfl, kp_below' (K7.trans (Kp.of_below hB8 (fun k _ hl => hl)))⟩
      · rw [decide_eq_false hPM] at hk ⊢
        rw [decide_eq_false hPM] at hRN
        clear hPM hEQ
        go_wp2
        go_ret
        exact ⟨by rw [hRN.out, Bool.false_and]; rfl, kp_below' K7⟩
    · have hne : ((P9 : Int) == 0) = false := by rw [beq_eq_false_iff_ne]; omega
      have hRF : Hd (rightN (inM s sd md lp lo e mn ls) = false) := hd (by rw [hRN.out, decide_eq_false (fun h => hE (congrArg PM.err h)), Bool.false_and])
      clear hEQ hRN hE
      go_wp2
      go_ret
      exact ⟨by rw [hRF.out]; rfl, kp_below' (K5.alloc _)⟩
end Go.Proofs.Ytjcejgolcdgipaa.K7

namespace Go.Proofs.Ytjcejgolcdgipaa.K7
open Go.RowKit Go.Proofs.YtjcejgolcdgipaaW.PrintWords Go.Proofs.YtjcejgolcdgipaaW.PrintLast Go.Proofs.YtjcejgolcdgipaaW.PrintMore
set_option linter.unusedVariables false

theorem right_no {w : World} (s sd md e mn : Nat) {Ap Ao As : Option Addr} {cp co cs : Nat} {lp : List S82} {lo : List S134} {ls : List Int} (h : ¬ (1 ≤ s ∧ s ≤ 4 ∧ ls.length ≤ 255)) :
    Calls Try.prog 36 #[.agg #[.int .u8 (s : Int), .int .u32 (sd : Int), .int .u32 (md : Int), .slice Ap lp.length cp, .slice Ao lo.length co, .int .u8 (e : Int), .int .u32 (mn : Int), .slice As ls.length cs]] w fun e_ w' =>
      e_ = .returned (.bool (rightN (inM s sd md lp lo e mn ls))) ∧ Below w.heap.size w w' := by
  have hR : Hd (rightN (inM s sd md lp lo e mn ls) = false) := hd (by
    unfold rightN
    have e1 : (inM s sd md lp lo e mn ls).sort = s := rfl
    have e2 : (inM s sd md lp lo e mn ls).ss.length = ls.length := nb_length ls
    rw [e1, e2, decide_eq_false h, Bool.false_and])
  by_cases h1 : 1 ≤ s
  · have g1 : decide ((s : Int) < 1) = false := decide_eq_false (by omega)
    by_cases h4 : s ≤ 4
    · have g2 : decide ((4 : Int) < (s : Int)) = false := decide_eq_false (by omega)
      have h5 : 255 < ls.length := by omega
      have g3 : decide ((255 : Int) < (ls.length : Int)) = true := decide_eq_true (by omega)
      clear h
      go_enter Try.func36, Try.ntmps36
      go_wp2
      go_ret
      exact ⟨by rw [hR.out]; rfl, kp_below' ((Kp.refl _ _).alloc _)⟩
    · have g2 : decide ((4 : Int) < (s : Int)) = true := decide_eq_true (by omega)
      clear h
      go_enter Try.func36, Try.ntmps36
      go_wp2
      go_ret
      exact ⟨by rw [hR.out]; rfl, kp_below' ((Kp.refl _ _).alloc _)⟩
  · have g1 : decide ((s : Int) < 1) = true := decide_eq_true (by omega)
    clear h
    go_enter Try.func36, Try.ntmps36
    go_wp2
    go_ret
    exact ⟨by rw [hR.out]; rfl, kp_below' ((Kp.refl _ _).alloc _)⟩
theorem right_any {w : World} (s sd md e mn : Nat) (hsd : sd < 4294967296) (hmd : md < 4294967296) (he : e < 256) (hmn : mn < 4294967296) {Ap Ao As : Option Addr} {cp co cs : Nat} {lp : List S82} {lo : List S134} {ls : List Int}
    (hP : Kd.C k82 w Ap lp.length lp) (hop : Ok2 lp) (hlp : lp.length ≤ 100000) (hcp : lp.length ≤ cp) (hO : Kd.C k134 w Ao lo.length lo) (hoo : OkO lo) (hlo : lo.length ≤ 100000) (hco : lo.length ≤ co) (hS : Kd.C (Kd.int .u32) w As ls.length ls) (hos : OkS ls) (hcs : ls.length ≤ cs) :
    Calls Try.prog 36 #[.agg #[.int .u8 (s : Int), .int .u32 (sd : Int), .int .u32 (md : Int), .slice Ap lp.length cp, .slice Ao lo.length co, .int .u8 (e : Int), .int .u32 (mn : Int), .slice As ls.length cs]] w fun e_ w' =>
      e_ = .returned (.bool (rightN (inM s sd md lp lo e mn ls))) ∧ Below w.heap.size w w' := by
  by_cases h : 1 ≤ s ∧ s ≤ 4 ∧ ls.length ≤ 255
  · exact right_try s sd md e mn h.1 h.2.1 hsd hmd he hmn hP hop hlp hcp hO hoo hlo hco hS hos h.2.2 hcs
  · exact right_no s sd md e mn h
/-- What Put answers. -/
def putN (M : PM) : Nat × Nat × List Nat × Nat := if rightN M = true then (cntN M.sort, kndN M.sort, bodyN M, 0) else (0, 0, [], 2)
theorem rightN_fields {M : PM} (h : rightN M = true) : 1 ≤ M.sort ∧ M.sort ≤ 4 ∧ M.ss.length ≤ 255 := by
  unfold rightN at h
  rw [Bool.and_eq_true, decide_eq_true_iff] at h
  exact h.1
set_option maxHeartbeats 4000000 in
set_option maxRecDepth 100000 in
theorem put_any {w : World} (s sd md e mn : Nat) (hsd : sd < 4294967296) (hmd : md < 4294967296) (he : e < 256) (hmn : mn < 4294967296) {Ap Ao As : Option Addr} {cp co cs : Nat} {lp : List S82} {lo : List S134} {ls : List Int}
    (hP : Kd.C k82 w Ap lp.length lp) (hop : Ok2 lp) (hlp : lp.length ≤ 100000) (hcp : lp.length ≤ cp) (hO : Kd.C k134 w Ao lo.length lo) (hoo : OkO lo) (hlo : lo.length ≤ 100000) (hco : lo.length ≤ co) (hS : Kd.C (Kd.int .u32) w As ls.length ls) (hos : OkS ls) (hls : ls.length ≤ 100000) (hcs : ls.length ≤ cs) :
    Calls Try.prog 34 #[.agg #[.int .u8 (s : Int), .int .u32 (sd : Int), .int .u32 (md : Int), .slice Ap lp.length cp, .slice Ao lo.length co, .int .u8 (e : Int), .int .u32 (mn : Int), .slice As ls.length cs]] w fun e_ w' =>
      ∃ vb, e_ = .returned (.tuple #[.agg #[.int .u8 ((putN (inM s sd md lp lo e mn ls)).1 : Int), .int .u8 ((putN (inM s sd md lp lo e mn ls)).2.1 : Int), vb, .int .u8 0], .int .i64 ((putN (inM s sd md lp lo e mn ls)).2.2.2 : Int)]) ∧
        w'.ownsRow w.heap.size 5 1 vb (putN (inM s sd md lp lo e mn ls)).2.2.1.length (bv (putN (inM s sd md lp lo e mn ls)).2.2.1) ∧ Kp (fun _ => True) w w' := by
  obtain ⟨w1, hw1⟩ : ∃ w1, w1 = (w.alloc (.cells #[.int .u8 (s : Int), .int .u32 (sd : Int), .int .u32 (md : Int), .slice Ap lp.length cp, .slice Ao lo.length co, .int .u8 (e : Int), .int .u32 (mn : Int), .slice As ls.length cs] 52)).alloc (.cells #[.int .u8 0, .int .u8 0, .slice none 0 0, .int .u8 0] 40) := ⟨_, rfl⟩
  have hK1 : Kp (fun _ => True) w w1 := hw1 ▸ ((Kp.refl _ _).alloc _).alloc _
  have M1 : Blk w1 w.heap.size 52 #[.int .u8 (s : Int), .int .u32 (sd : Int), .int .u32 (md : Int), .slice Ap lp.length cp, .slice Ao lo.length co, .int .u8 (e : Int), .int .u32 (mn : Int), .slice As ls.length cs] := hw1 ▸ (Blk.new w _ _).alloc _
  have Z1 : Blk w1 (w.heap.size + 1) 40 #[.int .u8 0, .int .u8 0, .slice none 0 0, .int .u8 0] := by
    have := Blk.new (w.alloc (.cells #[.int .u8 (s : Int), .int .u32 (sd : Int), .int .u32 (md : Int), .slice Ap lp.length cp, .slice Ao lo.length co, .int .u8 (e : Int), .int .u32 (mn : Int), .slice As ls.length cs] 52)) 40 #[.int .u8 0, .int .u8 0, .slice none 0 0, .int .u8 0]
    rw [← hw1, World.size_alloc] at this
    exact this
  have c1 := M1.cell
  go_enter Try.func34, Try.ntmps34
  go_upto_region 1 with (fail)
  rw [← hw1]
  clear hw1
  go_wp2_with fail
  refine (right_any s sd md e mn hsd hmd he hmn (C_all hP hK1) hop hlp hcp (C_all hO hK1) hoo hlo hco (C_all hS hK1) hos hcs).mono ?_
  rintro e_ w2 ⟨rfl, hB2⟩
  have hk2 : Kp (fun _ => True) w1 w2 := Kp.of_below hB2 (fun k _ hl => hl)
  have M2 := M1.kp hk2 trivial
  have Z2 := Z1.kp hk2 trivial
  have hK2 := hK1.trans hk2
  have hF := rightN_fields (M := inM s sd md lp lo e mn ls)
  have hPN : Hd (putN (inM s sd md lp lo e mn ls) = if rightN (inM s sd md lp lo e mn ls) = true then (cntN s, kndN s, bodyN (inM s sd md lp lo e mn ls), 0) else (0, 0, [], 2)) := hd rfl
  clear c1 hK1 M1 Z1 hB2 hk2
  generalize rightN (inM s sd md lp lo e mn ls) = R at *
  cases R
  · have fZ := Z2.frozen
    have cZ := Z2.cell
    clear hF
    go_wp2
    refine bodyPost_ret (results_ct rfl _ _ (w.heap.size + 1) 40 _ (0, 0) _ rfl (set4 Z2 _ _ _ _) Try.underlying40 rfl (by kernel_rfl)) rfl ?_
    rw [hPN.out]
    exact ⟨_, rfl, World.ownsRow_nil _ _ _ _, kp_far hK2 (kp4 _ _ _ _ _ _) (fun k hk => by omega)⟩
  · obtain ⟨h1, h4, h255⟩ := hF rfl
    have h1' : 1 ≤ s := h1
    have h4' : s ≤ 4 := h4
    clear h1 h4 h255
    have hix := fun W => sort_ixN W s h1' h4'
    have s2 : ∀ j, w2.drew.cell? ⟨w.heap.size, j, none⟩ = #[.int .u8 (s : Int), .int .u32 (sd : Int), .int .u32 (md : Int), .slice Ap lp.length cp, .slice Ao lo.length co, .int .u8 (e : Int), .int .u32 (mn : Int), .slice As ls.length cs][j]? := M2.cell
    have hs2 := hK2.size
    have hml := M2.lt
    have hzl := Z2.lt
    have hne : w.heap.size ≠ w.heap.size + 1 := by omega
    go_upto_region 3 with (fail)
    go_region_held3 (fun W => (∀ j, W.cell? ⟨w.heap.size, j, none⟩ = #[.int .u8 (s : Int), .int .u32 (sd : Int), .int .u32 (md : Int), .slice Ap lp.length cp, .slice Ao lo.length co, .int .u8 (e : Int), .int .u32 (mn : Int), .slice As ls.length cs][j]?))
      (first | with_reducible exact s9 | exact s2 | exact s3 | exact s4)
      (first
        | (go_at_call 67; refine (sorts_any _).mono ?_; rintro e_ w3 ⟨rfl, hK3⟩; have M3 := M2.drew.kp hK3 trivial; have Z3 := Z2.drew.kp hK3 trivial; have s3 := M3.cell; have hKb := hK2.drew.trans hK3)
        | (go_at_call 74; refine (packet_any s sd md e mn h1' h4' hsd hmd he hmn (C_all hP hKb) hop (by omega) (C_all hO hKb) hoo (by omega) (C_all hS hKb) hos (by omega)).mono ?_; rintro e_ w4 ⟨A3, n3, c3, rfl, ho4, hK4⟩; have M4 := M3.kp hK4 trivial; have Z4 := Z3.kp hK4 trivial; have s4 := M4.cell; have hKc := hKb.trans hK4; have f4 := Z4.frozen; have c4 := Z4.cell; have s9 := (far4 M4 hne (.int .u8 (cntN s : Int)) (.int .u8 (kndN s : Int)) (.slice A3 n3 c3) (.int .u8 0)).cell))
    all_goals
      have hz3 := Z3.lt
      go_wp2
      refine bodyPost_ret (results_ct rfl _ _ (w.heap.size + 1) 40 _ (0, 0) _ rfl (set4 Z4 _ _ _ _) Try.underlying40 rfl (by kernel_rfl)) rfl ?_
      rw [hPN.out]
      exact ⟨_, rfl, own_lo (own_kp ho4 (kp4 w4 (w.heap.size + 1) _ _ _ _) (fun g hg _ => Nat.ne_of_gt (by omega))) (by omega), kp_far hKc (kp4 _ _ _ _ _ _) (fun k hk => by omega)⟩
def fb_Right.f (a0_0 a0_1 a0_2 : Int) (l0_3 : List S82) (l0_4 : List S134) (a0_5 a0_6 : Int) (l0_7 : List Int) : Option Bool :=
  if OkM a0_0 a0_1 a0_2 l0_3 l0_4 a0_5 a0_6 l0_7 then some (rightN (inM a0_0 a0_1 a0_2 l0_3 l0_4 a0_5 a0_6 l0_7)) else none
theorem fb_Right.calls (a0_0 : Int) (a0_1 : Int) (a0_2 : Int) (A0_3 : Option Addr) (c0_3 : Nat) (l0_3 : List (S82)) (A0_4 : Option Addr) (c0_4 : Nat) (l0_4 : List (S134)) (a0_5 : Int) (a0_6 : Int) (A0_7 : Option Addr) (c0_7 : Nat) (l0_7 : List Int) (r : Bool) (w : World) (hr0_3 : Kd.C k82 w A0_3 l0_3.length l0_3) (hc0_3 : l0_3.length ≤ c0_3) (hr0_4 : Kd.C k134 w A0_4 l0_4.length l0_4) (hc0_4 : l0_4.length ≤ c0_4) (hr0_7 : Kd.C (Kd.int .u32) w A0_7 l0_7.length l0_7) (hc0_7 : l0_7.length ≤ c0_7) (h : fb_Right.f a0_0 a0_1 a0_2 l0_3 l0_4 a0_5 a0_6 l0_7 = some r) :
    Calls Try.prog 36 #[.agg #[.int .u8 a0_0, .int .u32 a0_1, .int .u32 a0_2, .slice A0_3 l0_3.length c0_3, .slice A0_4 l0_4.length c0_4, .int .u8 a0_5, .int .u32 a0_6, .slice A0_7 l0_7.length c0_7]] w fun e w' => e = .returned (.bool r) ∧ Below w.heap.size w w' := by
  unfold fb_Right.f at h
  split at h
  · rename_i hc
    obtain ⟨h0, h1, h2, h3, h4, h5, h6, h7, h8⟩ := hc
    obtain ⟨x0, rfl⟩ := Int.eq_ofNat_of_zero_le h0.1
    obtain ⟨x1, rfl⟩ := Int.eq_ofNat_of_zero_le h1.1
    obtain ⟨x2, rfl⟩ := Int.eq_ofNat_of_zero_le h2.1
    obtain ⟨x5, rfl⟩ := Int.eq_ofNat_of_zero_le h5.1
    obtain ⟨x6, rfl⟩ := Int.eq_ofNat_of_zero_le h6.1
    injection h with h
    subst h
    exact right_any x0 x1 x2 x5 x6 (by omega) (by omega) (by omega) (by omega) hr0_3 h3.1 h3.2 hc0_3 hr0_4 h4.1 h4.2 hc0_4 hr0_7 h7 hc0_7
  · cases h
def fb_Put.f (a0_0 a0_1 a0_2 : Int) (l0_3 : List S82) (l0_4 : List S134) (a0_5 a0_6 : Int) (l0_7 : List Int) : Option (Int × Int × List Int × Int × Int) :=
  if OkM a0_0 a0_1 a0_2 l0_3 l0_4 a0_5 a0_6 l0_7 then (let P := putN (inM a0_0 a0_1 a0_2 l0_3 l0_4 a0_5 a0_6 l0_7); some ((P.1 : Int), (P.2.1 : Int), ib P.2.2.1, 0, (P.2.2.2 : Int))) else none
theorem fb_Put.calls (a0_0 : Int) (a0_1 : Int) (a0_2 : Int) (A0_3 : Option Addr) (c0_3 : Nat) (l0_3 : List (S82)) (A0_4 : Option Addr) (c0_4 : Nat) (l0_4 : List (S134)) (a0_5 : Int) (a0_6 : Int) (A0_7 : Option Addr) (c0_7 : Nat) (l0_7 : List Int) (r1 : Int) (r2 : Int) (r3 : List Int) (r4 : Int) (r5 : Int) (w : World) (hr0_3 : Kd.C k82 w A0_3 l0_3.length l0_3) (hc0_3 : l0_3.length ≤ c0_3) (hr0_4 : Kd.C k134 w A0_4 l0_4.length l0_4) (hc0_4 : l0_4.length ≤ c0_4) (hr0_7 : Kd.C (Kd.int .u32) w A0_7 l0_7.length l0_7) (hc0_7 : l0_7.length ≤ c0_7) (h : fb_Put.f a0_0 a0_1 a0_2 l0_3 l0_4 a0_5 a0_6 l0_7 = some (r1, r2, r3, r4, r5)) :
    Calls Try.prog 34 #[.agg #[.int .u8 a0_0, .int .u32 a0_1, .int .u32 a0_2, .slice A0_3 l0_3.length c0_3, .slice A0_4 l0_4.length c0_4, .int .u8 a0_5, .int .u32 a0_6, .slice A0_7 l0_7.length c0_7]] w fun e w' => ∃ v2_ : Value, e = .returned (.tuple #[.agg #[.int .u8 r1, .int .u8 r2, v2_, .int .u8 r4], .int .i64 r5]) ∧ Kd.R (Kd.int .u8) 5 w' w.heap.size (fun _ => True) v2_ r3 ∧ Below w.heap.size w w' := by
  unfold fb_Put.f at h
  split at h
  · rename_i hc
    obtain ⟨h0, h1, h2, h3, h4, h5, h6, h7, h8⟩ := hc
    obtain ⟨x0, rfl⟩ := Int.eq_ofNat_of_zero_le h0.1
    obtain ⟨x1, rfl⟩ := Int.eq_ofNat_of_zero_le h1.1
    obtain ⟨x2, rfl⟩ := Int.eq_ofNat_of_zero_le h2.1
    obtain ⟨x5, rfl⟩ := Int.eq_ofNat_of_zero_le h5.1
    obtain ⟨x6, rfl⟩ := Int.eq_ofNat_of_zero_le h6.1
    simp only [Option.some.injEq, Prod.mk.injEq] at h
    obtain ⟨rfl, rfl, rfl, rfl, rfl⟩ := h
    refine (put_any x0 x1 x2 x5 x6 (by omega) (by omega) (by omega) (by omega) hr0_3 h3.1 h3.2 hc0_3 hr0_4 h4.1 h4.2 hc0_4 hr0_7 h7 h8 hc0_7).mono ?_
    rintro e w' ⟨vb, rfl, ho, hk⟩
    exact ⟨vb, rfl, R_bytes ho, kp_below' hk⟩
  · cases h
end Go.Proofs.Ytjcejgolcdgipaa.K7
