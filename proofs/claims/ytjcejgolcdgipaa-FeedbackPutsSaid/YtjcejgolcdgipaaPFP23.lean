/- Texts of this session, one behind the other, what the row does not use left out: walks and laws over plain data. -/
import Derived.Test.YtjcejgolcdgipaaPFP5

namespace Go.Proofs.Ytjcejgolcdgipaa.K7
open Go.RowKit Go.Proofs.YtjcejgolcdgipaaW.PrintWords Go.Proofs.YtjcejgolcdgipaaW.PrintLast Go.Proofs.YtjcejgolcdgipaaW.PrintMore
attribute [local go_sem] max2_int min2_int max_two min_two max_three min_three max_four min_four   -- for this text's walks alone
set_option linter.unusedVariables false
set_option linter.unusedSimpArgs false

def easelref07_Rate.l0 : Nat → Int → Int → Int → Int → Int → List (S115) → List (S119) → Int → Int → List Int → Option (Int)
  | 0, _, _, _, _, _, _, _, _, _, _ => none
  | k + 1, x3, x4, x373000, x373001, x373002, x373003, x373004, x373005, x373006, x373007 => if x4 < (wrap64 (x373005)) then (if x3 ≥ 9223372036854775808 then (some 18446744073709551615) else (easelref07_Rate.l0 k (IntKind.u64.wrap (x3 * 2)) (wrap64 (x4 + 1)) x373000 x373001 x373002 x373003 x373004 x373005 x373006 x373007)) else (some x3)
def easelref07_Rate.f (k : Nat) (a0_0 : Int) (a0_1 : Int) (a0_2 : Int) (l0_3 : List (S115)) (l0_4 : List (S119)) (a0_5 : Int) (a0_6 : Int) (l0_7 : List Int) : Option (Int) := easelref07_Rate.l0 k (IntKind.u64.wrap (a0_6)) 0 a0_0 a0_1 a0_2 l0_3 l0_4 a0_5 a0_6 l0_7
set_option maxHeartbeats 8000000 in
set_option maxRecDepth 100000 in
theorem easelref07_Rate.calls (k : Nat) (a0_0 : Int) (a0_1 : Int) (a0_2 : Int) (A0_3 : Option Addr) (c0_3 : Nat) (l0_3 : List (S115)) (A0_4 : Option Addr) (c0_4 : Nat) (l0_4 : List (S119)) (a0_5 : Int) (a0_6 : Int) (A0_7 : Option Addr) (c0_7 : Nat) (l0_7 : List Int) (r : Int) (w : World) (hr0_3 : Kd.C k115 w A0_3 l0_3.length l0_3) (hc0_3 : l0_3.length ≤ c0_3) (hr0_4 : Kd.C k119 w A0_4 l0_4.length l0_4) (hc0_4 : l0_4.length ≤ c0_4) (hr0_7 : Kd.C (Kd.int .u32) w A0_7 l0_7.length l0_7) (hc0_7 : l0_7.length ≤ c0_7) (h : easelref07_Rate.f k a0_0 a0_1 a0_2 l0_3 l0_4 a0_5 a0_6 l0_7 = some r) :
    Calls Try.prog 40 #[.agg #[.int .u8 a0_0, .int .u32 a0_1, .int .u32 a0_2, .slice A0_3 l0_3.length c0_3, .slice A0_4 l0_4.length c0_4, .int .u8 a0_5, .int .u32 a0_6, .slice A0_7 l0_7.length c0_7]] w fun e w' => e = .returned (.int .u64 r) ∧ Below w.heap.size w w' := by
  have hu46 := Try.underlying46
  have HR0_3 := Aside0.mk hr0_3
  have HC0_3 := Aside0.mk hc0_3
  clear hr0_3 hc0_3
  have HR0_4 := Aside0.mk hr0_4
  have HC0_4 := Aside0.mk hc0_4
  clear hr0_4 hc0_4
  have HR0_7 := Aside0.mk hr0_7
  have HC0_7 := Aside0.mk hc0_7
  clear hr0_7 hc0_7
  have HB := Aside0.mk (Below.refl w.heap.size w)
  have H : (easelref07_Rate.l0 k (IntKind.u64.wrap (a0_6)) 0 a0_0 a0_1 a0_2 l0_3 l0_4 a0_5 a0_6 l0_7) = some r := h
  clear h
  have H' := Aside0.mk H
  clear H
  go_enter Try.func40, Try.ntmps40
  go_wp2_with (first | ((with_reducible refine gate_dst (N := 1) rfl ?_); refine box_event ?hg (N := 1) ?hd (cs := #[.int .u8 a0_0, .int .u32 a0_1, .int .u32 a0_2, .slice A0_3 l0_3.length c0_3, .slice A0_4 l0_4.length c0_4, .int .u8 a0_5, .int .u32 a0_6, .slice A0_7 l0_7.length c0_7]) (t := 46) ?hr ?_; (case hd => rfl); (case hg => rfl); (case hr => first | (go_simp; done) | (go_simp; rfl)); intro gb372 hg w2 hbox hb; have n0_ := Aside0.mk (below_step (by repeat (first | (with_reducible first | exact HB.out | apply below_alloc | apply pw_below_drewN | apply below_drew1) | exact HB.out)) hb); have n1_ := Aside0.mk (hbox); have n2_ := Aside0.mk ((by rw [hg]; exact (below_size (by repeat (first | (with_reducible first | exact HB.out | apply below_alloc | apply pw_below_drewN | apply below_drew1) | exact HB.out))) : w.heap.size ≤ gb372)); have n3_ := Aside0.mk ((by rw [hg]; exact (below_size (by repeat (first | (with_reducible first | exact HB.out | apply below_alloc | apply pw_below_drewN | apply below_drew1) | exact HB.out))) : w.heap.size ≤ gb372)); clear HB; have HB := n0_; have BK372 := n1_; have GW372 := n2_; have GE372 := n3_; clear n0_ n1_ n2_ n3_; clear hb hbox hg; have hcz3_0 : w2.cell? ⟨gb372, 0, none⟩ = some (.int .u8 a0_0) := (blk_cell BK372.out 0).trans rfl; have hcz3_1 : w2.cell? ⟨gb372, 1, none⟩ = some (.int .u32 a0_1) := (blk_cell BK372.out 1).trans rfl; have hcz3_2 : w2.cell? ⟨gb372, 2, none⟩ = some (.int .u32 a0_2) := (blk_cell BK372.out 2).trans rfl; have hcz3_3 : w2.cell? ⟨gb372, 3, none⟩ = some (.slice A0_3 l0_3.length c0_3) := (blk_cell BK372.out 3).trans rfl; have hcz3_4 : w2.cell? ⟨gb372, 4, none⟩ = some (.slice A0_4 l0_4.length c0_4) := (blk_cell BK372.out 4).trans rfl; have hcz3_5 : w2.cell? ⟨gb372, 5, none⟩ = some (.int .u8 a0_5) := (blk_cell BK372.out 5).trans rfl; have hcz3_6 : w2.cell? ⟨gb372, 6, none⟩ = some (.int .u32 a0_6) := (blk_cell BK372.out 6).trans rfl; have hcz3_7 : w2.cell? ⟨gb372, 7, none⟩ = some (.slice A0_7 l0_7.length c0_7) := (blk_cell BK372.out 7).trans rfl; have hfz3_0 := blk_frozen BK372.out 0; have hfz3_1 := blk_frozen BK372.out 1; have hfz3_2 := blk_frozen BK372.out 2; have hfz3_3 := blk_frozen BK372.out 3; have hfz3_4 := blk_frozen BK372.out 4; have hfz3_5 := blk_frozen BK372.out 5; have hfz3_6 := blk_frozen BK372.out 6; have hfz3_7 := blk_frozen BK372.out 7))
  go_loopg [3, 4] k (fun kq v3 v4 w' => ∃ (x3_1 : Int) (x4_1 : Int), v3 = .int .u64 x3_1 ∧ v4 = .int .i64 x4_1 ∧ Aside0 (easelref07_Rate.l0 kq x3_1 x4_1 a0_0 a0_1 a0_2 l0_3 l0_4 a0_5 a0_6 l0_7 = some r) ∧ Aside0 (kq ≤ k) ∧ Aside0 (w'.heap[gb372]? = some (.cells #[.int .u8 a0_0, .int .u32 a0_1, .int .u32 a0_2, (.slice A0_3 l0_3.length c0_3), (.slice A0_4 l0_4.length c0_4), .int .u8 a0_5, .int .u32 a0_6, (.slice A0_7 l0_7.length c0_7)] 46 (0, 0))) ∧ Aside0 (Below w.heap.size w w'))
  case atStart => exact ⟨(IntKind.u64.wrap (a0_6)), (0), (by first | rfl | (simp; done) | (simp [*]; done)), (by first | rfl | (simp; done) | (simp [*]; done)), H', ⟨Nat.le_refl _⟩, ⟨by (with_reducible repeat (first | refine blk_drewN ?_ _ | refine blk_drew ?_ | refine blk_alloc ?_ _)); exact BK372.out⟩, ⟨by repeat (first | (with_reducible first | exact HB.out | apply below_alloc | apply pw_below_drewN | apply below_drew1 | refine below_set ?_ GE372.out) | exact HB.out)⟩⟩
  case round =>
    clear H'
    try clear p2
    try clear hcz3_0
    try clear hcz3_1
    try clear hcz3_2
    try clear hcz3_3
    try clear hcz3_4
    try clear hcz3_5
    try clear hcz3_6
    try clear hcz3_7
    try clear hfz3_0
    try clear hfz3_1
    try clear hfz3_2
    try clear hfz3_3
    try clear hfz3_4
    try clear hfz3_5
    try clear hfz3_6
    try clear hfz3_7
    obtain ⟨x3_1, x4_1, rfl, rfl, HA, HK1, BK372, HB⟩ := hrel
    cases gk with
    | zero => exact absurd HA.out (by simp [easelref07_Rate.l0])
    | succ k1 =>
      have H := HA.out
      clear HA
      simp only [easelref07_Rate.l0] at H
      by_cases c4 : x4_1 < (wrap64 (a0_5))
      · rw [if_pos c4] at H
        have c4b0 : decide (x4_1 < (wrap64 (a0_5))) = true := decide_eq_true c4
        clear c4
        by_cases c5 : x3_1 ≥ 9223372036854775808
        · rw [if_pos c5] at H
          have c5b0 : decide (9223372036854775808 ≤ x3_1) = true := decide_eq_true c5
          clear c5
          obtain rfl := Option.some.inj H
          have hcz6_0 : wr.cell? ⟨gb372, 0, none⟩ = some (.int .u8 a0_0) := (blk_cell BK372.out 0).trans rfl
          have hcz6_1 : wr.cell? ⟨gb372, 1, none⟩ = some (.int .u32 a0_1) := (blk_cell BK372.out 1).trans rfl
          have hcz6_2 : wr.cell? ⟨gb372, 2, none⟩ = some (.int .u32 a0_2) := (blk_cell BK372.out 2).trans rfl
          have hcz6_3 : wr.cell? ⟨gb372, 3, none⟩ = some (.slice A0_3 l0_3.length c0_3) := (blk_cell BK372.out 3).trans rfl
          have hcz6_4 : wr.cell? ⟨gb372, 4, none⟩ = some (.slice A0_4 l0_4.length c0_4) := (blk_cell BK372.out 4).trans rfl
          have hcz6_5 : wr.cell? ⟨gb372, 5, none⟩ = some (.int .u8 a0_5) := (blk_cell BK372.out 5).trans rfl
          have hcz6_6 : wr.cell? ⟨gb372, 6, none⟩ = some (.int .u32 a0_6) := (blk_cell BK372.out 6).trans rfl
          have hcz6_7 : wr.cell? ⟨gb372, 7, none⟩ = some (.slice A0_7 l0_7.length c0_7) := (blk_cell BK372.out 7).trans rfl
          have hfz6_0 := blk_frozen BK372.out 0
          have hfz6_1 := blk_frozen BK372.out 1
          have hfz6_2 := blk_frozen BK372.out 2
          have hfz6_3 := blk_frozen BK372.out 3
          have hfz6_4 := blk_frozen BK372.out 4
          have hfz6_5 := blk_frozen BK372.out 5
          have hfz6_6 := blk_frozen BK372.out 6
          have hfz6_7 := blk_frozen BK372.out 7
          go_wp2
          go_ret
          exact ⟨by first | rfl | (simp [errW_none, errW_some] <;> rfl) | (simp [*, errW_none, errW_some] <;> rfl), by repeat (first | (with_reducible first | exact HB.out | apply below_alloc | apply pw_below_drewN | apply below_drew1 | refine below_set ?_ GE372.out) | exact HB.out)⟩
        · rw [if_neg c5] at H
          have c5b0 : decide (9223372036854775808 ≤ x3_1) = false := decide_eq_false c5
          clear c5
          have H' := Aside0.mk H
          clear H
          have hcz7_0 : wr.cell? ⟨gb372, 0, none⟩ = some (.int .u8 a0_0) := (blk_cell BK372.out 0).trans rfl
          have hcz7_1 : wr.cell? ⟨gb372, 1, none⟩ = some (.int .u32 a0_1) := (blk_cell BK372.out 1).trans rfl
          have hcz7_2 : wr.cell? ⟨gb372, 2, none⟩ = some (.int .u32 a0_2) := (blk_cell BK372.out 2).trans rfl
          have hcz7_3 : wr.cell? ⟨gb372, 3, none⟩ = some (.slice A0_3 l0_3.length c0_3) := (blk_cell BK372.out 3).trans rfl
          have hcz7_4 : wr.cell? ⟨gb372, 4, none⟩ = some (.slice A0_4 l0_4.length c0_4) := (blk_cell BK372.out 4).trans rfl
          have hcz7_5 : wr.cell? ⟨gb372, 5, none⟩ = some (.int .u8 a0_5) := (blk_cell BK372.out 5).trans rfl
          have hcz7_6 : wr.cell? ⟨gb372, 6, none⟩ = some (.int .u32 a0_6) := (blk_cell BK372.out 6).trans rfl
          have hcz7_7 : wr.cell? ⟨gb372, 7, none⟩ = some (.slice A0_7 l0_7.length c0_7) := (blk_cell BK372.out 7).trans rfl
          have hfz7_0 := blk_frozen BK372.out 0
          have hfz7_1 := blk_frozen BK372.out 1
          have hfz7_2 := blk_frozen BK372.out 2
          have hfz7_3 := blk_frozen BK372.out 3
          have hfz7_4 := blk_frozen BK372.out 4
          have hfz7_5 := blk_frozen BK372.out 5
          have hfz7_6 := blk_frozen BK372.out 6
          have hfz7_7 := blk_frozen BK372.out 7
          go_wp2
          go_roundg k1
          case measure => have := HK1.out; omega
          case rel => exact ⟨(IntKind.u64.wrap (x3_1 * 2)), (wrap64 (x4_1 + 1)), (by first | rfl | (simp; done) | (simp [*]; done)), (by first | rfl | (simp; done) | (simp [*]; done)), H', ⟨by have := HK1.out; omega⟩, ⟨by (with_reducible repeat (first | refine blk_drewN ?_ _ | refine blk_drew ?_ | refine blk_alloc ?_ _)); exact BK372.out⟩, ⟨by repeat (first | (with_reducible first | exact HB.out | apply below_alloc | apply pw_below_drewN | apply below_drew1 | refine below_set ?_ GE372.out) | exact HB.out)⟩⟩
      · rw [if_neg c4] at H
        have c4b0 : decide (x4_1 < (wrap64 (a0_5))) = false := decide_eq_false c4
        clear c4
        obtain rfl := Option.some.inj H
        have hcz8_0 : wr.cell? ⟨gb372, 0, none⟩ = some (.int .u8 a0_0) := (blk_cell BK372.out 0).trans rfl
        have hcz8_1 : wr.cell? ⟨gb372, 1, none⟩ = some (.int .u32 a0_1) := (blk_cell BK372.out 1).trans rfl
        have hcz8_2 : wr.cell? ⟨gb372, 2, none⟩ = some (.int .u32 a0_2) := (blk_cell BK372.out 2).trans rfl
        have hcz8_3 : wr.cell? ⟨gb372, 3, none⟩ = some (.slice A0_3 l0_3.length c0_3) := (blk_cell BK372.out 3).trans rfl
        have hcz8_4 : wr.cell? ⟨gb372, 4, none⟩ = some (.slice A0_4 l0_4.length c0_4) := (blk_cell BK372.out 4).trans rfl
        have hcz8_5 : wr.cell? ⟨gb372, 5, none⟩ = some (.int .u8 a0_5) := (blk_cell BK372.out 5).trans rfl
        have hcz8_6 : wr.cell? ⟨gb372, 6, none⟩ = some (.int .u32 a0_6) := (blk_cell BK372.out 6).trans rfl
        have hcz8_7 : wr.cell? ⟨gb372, 7, none⟩ = some (.slice A0_7 l0_7.length c0_7) := (blk_cell BK372.out 7).trans rfl
        have hfz8_0 := blk_frozen BK372.out 0
        have hfz8_1 := blk_frozen BK372.out 1
        have hfz8_2 := blk_frozen BK372.out 2
        have hfz8_3 := blk_frozen BK372.out 3
        have hfz8_4 := blk_frozen BK372.out 4
        have hfz8_5 := blk_frozen BK372.out 5
        have hfz8_6 := blk_frozen BK372.out 6
        have hfz8_7 := blk_frozen BK372.out 7
        go_wp2
        go_ret
        exact ⟨by first | rfl | (simp [errW_none, errW_some] <;> rfl) | (simp [*, errW_none, errW_some] <;> rfl), by repeat (first | (with_reducible first | exact HB.out | apply below_alloc | apply pw_below_drewN | apply below_drew1 | refine below_set ?_ GE372.out) | exact HB.out)⟩

-- NOT PRINTED: function 5 (easellaw07_FeedbackPuts)

def easelref02_Number.l0 : Nat → Int → List Int → Int → Option (List Int)
  | 0, _, _, _ => none
  | k + 1, x0, x5, x6 => if x6 ≥ 0 then (if 0 ≤ x6 then (if x6 < (x5.length : Int) then (easelref02_Number.l0 k (IntKind.u64.wrap (Int.tdiv x0 256)) (x5.set (x6 : Int).toNat ((Int.tmod x0 256) % 256)) (wrap64 (x6 - 1))) else (none)) else (none)) else (some x5)
def easelref02_Number.f (k : Nat) (a0 : Int) (a1 : Int) : Option (List Int) := if 0 ≤ a1 then (if (a1 : Int).toNat ≤ 281474976710656 then (easelref02_Number.l0 k a0 (List.replicate (a1 : Int).toNat 0) (wrap64 (a1 - 1))) else (none)) else (none)
set_option maxHeartbeats 8000000 in
set_option maxRecDepth 100000 in
theorem easelref02_Number.calls (k : Nat) (a0 : Int) (a1 : Int) (r : List Int) (w : World) (h : easelref02_Number.f k a0 a1 = some r) :
    Calls Try.prog 113 #[.int .u64 a0, .int .i64 a1] w fun e w' => ∃ v0_ : Value, e = .returned (v0_) ∧ Kd.R (Kd.int .u8) 5 w' w.heap.size (fun _ => True) v0_ r ∧ Below w.heap.size w w' := by
  have HB := Aside0.mk (Below.refl w.heap.size w)
  have H : (if 0 ≤ a1 then (if (a1 : Int).toNat ≤ 281474976710656 then (easelref02_Number.l0 k a0 (List.replicate (a1 : Int).toNat 0) (wrap64 (a1 - 1))) else (none)) else (none)) = some r := h
  clear h
  by_cases c3 : 0 ≤ a1
  · rw [if_pos c3] at H
    have c3b0 := eq_true c3
    have c3b1 : decide (0 ≤ a1) = true := decide_eq_true c3
    clear c3
    by_cases c4 : (a1 : Int).toNat ≤ 281474976710656
    · rw [if_pos c4] at H
      have c4b0 := eq_true c4
      have c4b1 : decide ((a1 : Int).toNat ≤ 281474976710656) = true := decide_eq_true c4
      clear c4
      obtain ⟨y454, hy454⟩ : ∃ y_ : List Int, y_ = (List.replicate (a1 : Int).toNat 0) := ⟨_, rfl⟩
      replace H : (easelref02_Number.l0 k a0 y454 (wrap64 (a1 - 1))) = some r := by first | (rw [hy454]; with_reducible exact H) | (have H2_ := (Option.bind_some _ _).symm.trans H; rw [hy454]; with_reducible exact H2_) | (have H2_ := (Option.bind_some _ _).symm.trans H; with_reducible exact H2_) | with_reducible exact H | (rw [hy454]; exact H) | exact H
      have Ny454 := Aside0.mk hy454
      clear hy454
      have H' := Aside0.mk H
      clear H
      go_enter Try.func113, Try.ntmps113
      go_wp2_with (first | ((with_reducible refine gate_dst (N := 8) rfl ?_); refine Kd.R_make (Kd.int .u8) _ 5 rfl (N := 8) rfl 38 _ _ rfl a1 rfl rfl Try.underlying38 (.int .u8 0) 1 info5 rfl (by decide) (by omega) 0 (ok := fun _ => True) (okp := fun _ => True) rfl (fun _ hk => hk) trivial (of_decide_eq_true (by first | (with_reducible assumption) | assumption)) (Nat.le_trans (Nat.mul_le_mul_right _ (of_decide_eq_true (by first | (with_reducible assumption) | assumption) : a1.toNat ≤ 281474976710656)) (by omega)) (Below.refl _ _) (Nat.le_refl _) ?_; intro v455 w5 ho6 hb hg_ hnew_; clear hg_ hnew_; (first | rw [← Ny454.out] at ho6 | (simp only [Int.reduceToNat] at ho6; rw [← Ny454.out] at ho6)); have n0_ := Aside0.mk (Kd.R_lower ho6 (below_size (by repeat (first | (with_reducible first | exact HB.out | apply below_alloc | apply pw_below_drewN | apply below_drew1) | exact HB.out)))); have n1_ := Aside0.mk (below_step (by repeat (first | (with_reducible first | exact HB.out | apply below_alloc | apply pw_below_drewN | apply below_drew1) | exact HB.out)) hb); clear HB; have HO456 := n0_; have HB := n1_; clear n0_ n1_; clear hb ho6))
      go_loopg [0, 6] k (fun kq v0 v6 w' => ∃ (x0_1 : Int) (x5_1 : List Int) (x6_1 : Int), v0 = .int .u64 x0_1 ∧ v6 = .int .i64 x6_1 ∧ Aside0 (easelref02_Number.l0 kq x0_1 x5_1 x6_1 = some r) ∧ Aside0 (kq ≤ k) ∧ Aside0 (Kd.R (Kd.int .u8) 5 w' w.heap.size (fun _ => True) v455 x5_1) ∧ Aside0 (Below w.heap.size w w'))
      case atStart => exact ⟨(a0), (y454), (wrap64 (a1 - 1)), (by first | rfl | (simp; done) | (simp [*]; done)), (by first | rfl | (simp; done) | (simp [*]; done)), H', ⟨Nat.le_refl _⟩, ⟨by (with_reducible repeat (first | apply Kd.R_alloc | apply Kd.R_drewN | apply Kd.R_drew)); exact HO456.out⟩, ⟨by repeat (first | (with_reducible first | exact HB.out | apply below_alloc | apply pw_below_drewN | apply below_drew1) | exact HB.out)⟩⟩
      case round =>
        clear H'
        try clear c1
        try clear p2
        try clear c3
        try clear c3b0
        try clear c3b1
        try clear c4
        try clear c4b0
        try clear c4b1
        try clear p6
        obtain ⟨x0_1, x5_1, x6_1, rfl, rfl, HA, HK1, HO_5, HB⟩ := hrel
        cases gk with
        | zero => exact absurd HA.out (by simp [easelref02_Number.l0])
        | succ k1 =>
          have H := HA.out
          clear HA
          simp only [easelref02_Number.l0] at H
          by_cases c7 : x6_1 ≥ 0
          · rw [if_pos c7] at H
            have c7b0 : decide (0 ≤ x6_1) = true := decide_eq_true c7
            clear c7
            by_cases c8 : 0 ≤ x6_1
            · rw [if_pos c8] at H
              have c8b0 : decide (0 ≤ x6_1) = true := decide_eq_true c8
              clear c8
              by_cases c9 : x6_1 < (x5_1.length : Int)
              · rw [if_pos c9] at H
                have c9b0 : decide (x6_1 < (x5_1.length : Int)) = true := decide_eq_true c9
                clear c9
                obtain ⟨y457, hy457⟩ : ∃ y_ : List Int, y_ = (x5_1.set (x6_1 : Int).toNat ((Int.tmod x0_1 256) % 256)) := ⟨_, rfl⟩
                replace H : (easelref02_Number.l0 k1 (IntKind.u64.wrap (Int.tdiv x0_1 256)) y457 (wrap64 (x6_1 - 1))) = some r := by first | (rw [hy457]; with_reducible exact H) | (have H2_ := (Option.bind_some _ _).symm.trans H; rw [hy457]; with_reducible exact H2_) | (have H2_ := (Option.bind_some _ _).symm.trans H; with_reducible exact H2_) | with_reducible exact H | (rw [hy457]; exact H) | exact H
                have Ny457 := Aside0.mk hy457
                clear hy457
                have H' := Aside0.mk H
                clear H
                have p10 : 0 ≤ (x6_1 : Int) := of_decide_eq_true (by first | (with_reducible assumption) | assumption)
                have q10 : (x6_1 : Int) < ((x5_1.length : Int) : Int) := of_decide_eq_true (by first | (with_reducible assumption) | assumption)
                obtain ⟨go10, co10, eo10, gb10, gl10, cl10, HG10⟩ := Kd.R_form HO_5.out (by omega)
                (first | cases eo10 | (injection eo10 with ea_ en_ ec_; (first | subst ea_ | (injection ea_ with ea_; subst ea_)); subst ec_; clear en_))
                have GB10 := Aside0.mk gb10
                have GG10 := Aside0.mk HG10
                clear gb10 gl10 HG10
                obtain ⟨hx10_0, hf10_0⟩ := Kd.R_celln 0 HO_5.out (x6_1 : Int) p10 q10
                replace p10 := eq_true p10
                replace q10 := eq_true q10
                have HP11 := Kd.R_putg HO_5.out (x6_1 : Int) ((Int.tmod x0_1 256) % 256)
                go_wp2_with (first | ((with_reducible refine gate_store (t := 5) (p := 20) rfl ?_); refine store_event (t := 5) (p := 20) (v := ?vo_w12) (w1 := (wr.setCell ⟨go10, (x6_1 : Int).toNat, none⟩ (.int .u8 ((Int.tmod x0_1 256) % 256)))) ?hg ?ho ?hn ?hr ?_; (case ho => rfl); (case hg => rfl); (case hn => rfl); (case hr => first | (go_simp; done) | (go_simp; rfl)); intro w12 hw; have hg : wr.grownBy w12 (some go10) := (by rw [hw]; exact HP11.2); have hp_ : Kd.R (Kd.int .u8) 5 w12 w.heap.size (fun _ => True) (.slice (some ⟨go10, 0, none⟩) x5_1.length co10) y457 := (by rw [hw, Ny457.out]; exact HP11.1); clear HP11; have n0_ := Aside0.mk (hp_); have n1_ := Aside0.mk ((by rw [hw]; exact below_set (HB.out) GB10.out : Below w.heap.size w w12)); clear HO_5; clear HB; have HO_5 := n0_; have HB := n1_; clear n0_ n1_; clear hg hw hp_))
                go_roundg k1
                case measure => have := HK1.out; omega
                case rel => exact ⟨(IntKind.u64.wrap (Int.tdiv x0_1 256)), (y457), (wrap64 (x6_1 - 1)), (by first | rfl | (simp; done) | (simp [*]; done)), (by first | rfl | (simp; done) | (simp [*]; done)), H', ⟨by have := HK1.out; omega⟩, ⟨by (with_reducible repeat (first | apply Kd.R_alloc | apply Kd.R_drewN | apply Kd.R_drew)); exact HO_5.out⟩, ⟨by repeat (first | (with_reducible first | exact HB.out | apply below_alloc | apply pw_below_drewN | apply below_drew1) | exact HB.out)⟩⟩
              · rw [if_neg c9] at H
                exact absurd H (by simp)
            · rw [if_neg c8] at H
              exact absurd H (by simp)
          · rw [if_neg c7] at H
            have c7b0 : decide (0 ≤ x6_1) = false := decide_eq_false c7
            clear c7
            obtain rfl := Option.some.inj H
            go_wp2
            go_ret
            exact ⟨_, by first | rfl | (simp [errW_none, errW_some] <;> rfl) | (simp [*, errW_none, errW_some] <;> rfl), by (with_reducible repeat (first | apply Kd.R_alloc | apply Kd.R_drewN | apply Kd.R_drew)); exact HO_5.out, by repeat (first | (with_reducible first | exact HB.out | apply below_alloc | apply pw_below_drewN | apply below_drew1) | exact HB.out)⟩
    · rw [if_neg c4] at H
      exact absurd H (by simp)
  · rw [if_neg c3] at H
    exact absurd H (by simp)

end Go.Proofs.Ytjcejgolcdgipaa.K7
