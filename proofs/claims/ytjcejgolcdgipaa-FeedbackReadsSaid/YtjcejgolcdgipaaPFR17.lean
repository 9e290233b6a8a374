/- Texts of this session, one behind the other, what the row does not use left out: walks and laws over plain data. -/
import Derived.Test.YtjcejgolcdgipaaPFR5

namespace Go.Proofs.Ytjcejgolcdgipaa.K7
open Go.RowKit Go.Proofs.YtjcejgolcdgipaaW.PrintWords Go.Proofs.YtjcejgolcdgipaaW.PrintLast Go.Proofs.YtjcejgolcdgipaaW.PrintMore
attribute [local go_sem] max2_int min2_int max_two min_two max_three min_three max_four min_four   -- for this text's walks alone
set_option linter.unusedVariables false
set_option linter.unusedSimpArgs false

mutual
def easellaw07_spoil.l0 : Nat → Int → Int → Int → Int → List (S82) → List (S134) → Int → Int → List Int → Option ((List (S82)) × (List (S134)) × List Int)
  | 0, _, _, _, _, _, _, _, _, _ => none
  | k + 1, x2, x181000, x181001, x181002, x181003, x181004, x181005, x181006, x181007 => if x2 < (x181003.length : Int) then (if 0 ≤ x2 then (easellaw07_spoil.l0 k (wrap64 (x2 + 1)) x181000 x181001 x181002 (x181003.set (x2 : Int).toNat (⟨7, 0⟩ : S82)) x181004 x181005 x181006 x181007) else (none)) else (easellaw07_spoil.l1 k 0 x181000 x181001 x181002 x181003 x181004 x181005 x181006 x181007)
def easellaw07_spoil.l1 : Nat → Int → Int → Int → Int → List (S82) → List (S134) → Int → Int → List Int → Option ((List (S82)) × (List (S134)) × List Int)
  | 0, _, _, _, _, _, _, _, _, _ => none
  | k + 1, x3, x181000, x181001, x181002, x181003, x181004, x181005, x181006, x181007 => if x3 < (x181004.length : Int) then (if 0 ≤ x3 then (easellaw07_spoil.l1 k (wrap64 (x3 + 1)) x181000 x181001 x181002 x181003 (x181004.set (x3 : Int).toNat (⟨0, 7⟩ : S134)) x181005 x181006 x181007) else (none)) else (easellaw07_spoil.l2 k 0 x181000 x181001 x181002 x181003 x181004 x181005 x181006 x181007)
def easellaw07_spoil.l2 : Nat → Int → Int → Int → Int → List (S82) → List (S134) → Int → Int → List Int → Option ((List (S82)) × (List (S134)) × List Int)
  | 0, _, _, _, _, _, _, _, _, _ => none
  | k + 1, x4, x181000, x181001, x181002, x181003, x181004, x181005, x181006, x181007 => if x4 < (x181007.length : Int) then (if 0 ≤ x4 then (easellaw07_spoil.l2 k (wrap64 (x4 + 1)) x181000 x181001 x181002 x181003 x181004 x181005 x181006 (x181007.set (x4 : Int).toNat 7)) else (none)) else (some (x181003, x181004, x181007))
end
def easellaw07_spoil.f (k : Nat) (a0_0 : Int) (a0_1 : Int) (a0_2 : Int) (l0_3 : List (S82)) (l0_4 : List (S134)) (a0_5 : Int) (a0_6 : Int) (l0_7 : List Int) : Option ((List (S82)) × (List (S134)) × List Int) := easellaw07_spoil.l0 k 0 a0_0 a0_1 a0_2 l0_3 l0_4 a0_5 a0_6 l0_7
set_option maxHeartbeats 8000000 in
set_option maxRecDepth 100000 in
theorem easellaw07_spoil.calls (k : Nat) (a0_0 : Int) (a0_1 : Int) (a0_2 : Int) (P0_3_ : Nat → Prop) (u9000_ : Value) (l0_3 : List (S82)) (P0_4_ : Nat → Prop) (u9001_ : Value) (l0_4 : List (S134)) (a0_5 : Int) (a0_6 : Int) (P0_7_ : Nat → Prop) (u9002_ : Value) (l0_7 : List Int) (r1 : List (S82)) (r2 : List (S134)) (r3 : List Int) (w0 w : World) (hB : Below w0.heap.size w0 w) (ho0_3 : Kd.R k82 82 w w0.heap.size P0_3_ u9000_ l0_3) (ho0_4 : Kd.R k134 134 w w0.heap.size P0_4_ u9001_ l0_4) (ho0_7 : Kd.R (Kd.int .u32) 28 w w0.heap.size P0_7_ u9002_ l0_7) (h : easellaw07_spoil.f k a0_0 a0_1 a0_2 l0_3 l0_4 a0_5 a0_6 l0_7 = some (r1, r2, r3)) :
    Calls Try.prog 28 #[.agg #[.int .u8 a0_0, .int .u32 a0_1, .int .u32 a0_2, u9000_, u9001_, .int .u8 a0_5, .int .u32 a0_6, u9002_]] w fun e w' => e = .returned (.tuple #[]) ∧ Kd.R k82 82 w' w0.heap.size (fun k_ => ((P0_3_ k_ ∨ P0_4_ k_ ∨ P0_7_ k_) ∨ w.heap.size ≤ k_)) u9000_ r1 ∧ Kd.R k134 134 w' w0.heap.size (fun k_ => ((P0_3_ k_ ∨ P0_4_ k_ ∨ P0_7_ k_) ∨ w.heap.size ≤ k_)) u9001_ r2 ∧ Kd.R (Kd.int .u32) 28 w' w0.heap.size (fun k_ => ((P0_3_ k_ ∨ P0_4_ k_ ∨ P0_7_ k_) ∨ w.heap.size ≤ k_)) u9002_ r3 ∧ Below w0.heap.size w0 w' ∧ Kept w w' (fun k_ => P0_3_ k_ ∨ P0_4_ k_ ∨ P0_7_ k_) := by
  have hu52 := Try.underlying52
  have hu82 := Try.underlying82
  have hu134 := Try.underlying134
  have HO0_3 := Aside0.mk (show Kd.R k82 82 w w0.heap.size (fun k_ => ((P0_3_ k_ ∨ P0_4_ k_ ∨ P0_7_ k_) ∨ w.heap.size ≤ k_)) u9000_ l0_3 from Kd.R_mono ho0_3 (fun k_ hk => (.inl (.inl hk))))
  have HO0_4 := Aside0.mk (show Kd.R k134 134 w w0.heap.size (fun k_ => ((P0_3_ k_ ∨ P0_4_ k_ ∨ P0_7_ k_) ∨ w.heap.size ≤ k_)) u9001_ l0_4 from Kd.R_mono ho0_4 (fun k_ hk => (.inl (.inr (.inl hk)))))
  have HO0_7 := Aside0.mk (show Kd.R (Kd.int .u32) 28 w w0.heap.size (fun k_ => ((P0_3_ k_ ∨ P0_4_ k_ ∨ P0_7_ k_) ∨ w.heap.size ≤ k_)) u9002_ l0_7 from Kd.R_mono ho0_7 (fun k_ hk => (.inl (.inr (.inr hk)))))
  have HK := Aside0.mk (Kept.refl w (fun k_ => P0_3_ k_ ∨ P0_4_ k_ ∨ P0_7_ k_))
  have HW0 := Aside0.mk hB.size
  have HB := Aside0.mk hB
  clear hB
  have H : (easellaw07_spoil.l0 k 0 a0_0 a0_1 a0_2 l0_3 l0_4 a0_5 a0_6 l0_7) = some (r1, r2, r3) := h
  clear h
  have H' := Aside0.mk H
  clear H
  obtain ⟨Ao2, co2, eo2⟩ := Kd.R_slice HO0_3.out
  subst eo2
  obtain ⟨Ao3, co3, eo3⟩ := Kd.R_slice HO0_4.out
  subst eo3
  obtain ⟨Ao4, co4, eo4⟩ := Kd.R_slice HO0_7.out
  subst eo4
  go_enter Try.func28, Try.ntmps28
  go_wp2_with (first | ((with_reducible refine gate_dst (N := 1) rfl ?_); refine box_event ?hg (N := 1) ?hd (cs := #[.int .u8 a0_0, .int .u32 a0_1, .int .u32 a0_2, .slice Ao2 l0_3.length co2, .slice Ao3 l0_4.length co3, .int .u8 a0_5, .int .u32 a0_6, .slice Ao4 l0_7.length co4]) (t := 52) ?hr ?_; (case hd => rfl); (case hg => rfl); (case hr => first | (go_simp; done) | (go_simp; rfl)); intro gb180 hg w5 hbox hb; have n0_ := Aside0.mk (Kd.R_below (by (with_reducible repeat (first | apply Kd.R_alloc | apply Kd.R_drewN | apply Kd.R_drew)); exact HO0_3.out) hb); have n1_ := Aside0.mk (Kd.R_below (by (with_reducible repeat (first | apply Kd.R_alloc | apply Kd.R_drewN | apply Kd.R_drew)); exact HO0_4.out) hb); have n2_ := Aside0.mk (Kd.R_below (by (with_reducible repeat (first | apply Kd.R_alloc | apply Kd.R_drewN | apply Kd.R_drew)); exact HO0_7.out) hb); have n3_ := Aside0.mk (Kept.below (S := (fun k_ => P0_3_ k_ ∨ P0_4_ k_ ∨ P0_7_ k_)) (by repeat (first | (with_reducible first | exact HK.out | apply Kept.alloc | apply Kept.drewN | apply Kept.drew) | exact HK.out)) hb); have n4_ := Aside0.mk (below_step (by repeat (first | (with_reducible first | exact HB.out | apply below_alloc | apply pw_below_drewN | apply below_drew1) | exact HB.out)) hb); have n5_ := Aside0.mk (hbox); have n6_ := Aside0.mk ((by rw [hg]; exact (by first | exact HK.out.1 | exact (show Kept w _ (fun k_ => P0_3_ k_ ∨ P0_4_ k_ ∨ P0_7_ k_) from by repeat (first | (with_reducible first | exact HK.out | apply Kept.alloc | apply Kept.drewN | apply Kept.drew) | exact HK.out)).1) : w.heap.size ≤ gb180)); have n7_ := Aside0.mk ((by rw [hg]; exact (below_size (by repeat (first | (with_reducible first | exact HB.out | apply below_alloc | apply pw_below_drewN | apply below_drew1) | exact HB.out))) : w0.heap.size ≤ gb180)); clear HO0_3; clear HO0_4; clear HO0_7; clear HK; clear HB; have HO0_3 := n0_; have HO0_4 := n1_; have HO0_7 := n2_; have HK := n3_; have HB := n4_; have BK180 := n5_; have GW180 := n6_; have GE180 := n7_; clear n0_ n1_ n2_ n3_ n4_ n5_ n6_ n7_; clear hb hbox hg))
  go_loopg [2] k (fun kq v2 w' => ∃ (x2_1 : Int) (x181003_1 : List (S82)), v2 = .int .i64 x2_1 ∧ Aside0 (easellaw07_spoil.l0 kq x2_1 a0_0 a0_1 a0_2 x181003_1 l0_4 a0_5 a0_6 l0_7 = some (r1, r2, r3)) ∧ Aside0 (kq ≤ k) ∧ Aside0 (Kd.R k82 82 w' w0.heap.size (fun k_ => ((P0_3_ k_ ∨ P0_4_ k_ ∨ P0_7_ k_) ∨ w.heap.size ≤ k_)) (.slice Ao2 l0_3.length co2) x181003_1) ∧ Aside0 (Kd.R k134 134 w' w0.heap.size (fun k_ => ((P0_3_ k_ ∨ P0_4_ k_ ∨ P0_7_ k_) ∨ w.heap.size ≤ k_)) (.slice Ao3 l0_4.length co3) l0_4) ∧ Aside0 (Kd.R (Kd.int .u32) 28 w' w0.heap.size (fun k_ => ((P0_3_ k_ ∨ P0_4_ k_ ∨ P0_7_ k_) ∨ w.heap.size ≤ k_)) (.slice Ao4 l0_7.length co4) l0_7) ∧ Aside0 (w'.heap[gb180]? = some (.cells #[.int .u8 a0_0, .int .u32 a0_1, .int .u32 a0_2, (.slice Ao2 l0_3.length co2), (.slice Ao3 l0_4.length co3), .int .u8 a0_5, .int .u32 a0_6, (.slice Ao4 l0_7.length co4)] 52 (0, 0))) ∧ Aside0 (Kept w w' (fun k_ => P0_3_ k_ ∨ P0_4_ k_ ∨ P0_7_ k_)) ∧ Aside0 (Below w0.heap.size w0 w'))
  case atStart => exact ⟨(0), (l0_3), (by first | rfl | (simp; done) | (simp [*]; done)), H', ⟨Nat.le_refl _⟩, ⟨by (with_reducible repeat (first | apply Kd.R_alloc | apply Kd.R_drewN | apply Kd.R_drew)); exact HO0_3.out⟩, ⟨by (with_reducible repeat (first | apply Kd.R_alloc | apply Kd.R_drewN | apply Kd.R_drew)); exact HO0_4.out⟩, ⟨by (with_reducible repeat (first | apply Kd.R_alloc | apply Kd.R_drewN | apply Kd.R_drew)); exact HO0_7.out⟩, ⟨by (with_reducible repeat (first | refine blk_drewN ?_ _ | refine blk_drew ?_ | refine blk_alloc ?_ _)); exact BK180.out⟩, ⟨by repeat (first | (with_reducible first | exact HK.out | apply Kept.alloc | apply Kept.drewN | apply Kept.drew | refine Kept.setCell ?_ (.inr GW180.out) _) | exact HK.out)⟩, ⟨by repeat (first | (with_reducible first | exact HB.out | apply below_alloc | apply pw_below_drewN | apply below_drew1 | refine below_set ?_ GE180.out) | exact HB.out)⟩⟩
  case round =>
    clear H'
    try clear c2
    try clear p2
    obtain ⟨x2_1, x181003_1, rfl, HA, HK1, HO_181003, HO_181004, HO_181007, BK180, HK, HB⟩ := hrel
    have hl181003_1 := (Kd.R_reads' HO_181003.out).1
    rw [hl181003_1] at HO_181003
    (try simp only [hl181003_1])
    (try simp only [hl181003_1] at BK180)
    (try simp only [hl181003_1] at HO_181004)
    (try simp only [hl181003_1] at HO_181007)
    cases gk with
    | zero => exact absurd HA.out (by simp [easellaw07_spoil.l0])
    | succ k1 =>
      have H := HA.out
      clear HA
      simp only [easellaw07_spoil.l0] at H
      by_cases c6 : x2_1 < (x181003_1.length : Int)
      · rw [if_pos c6] at H
        have c6b0 : decide (x2_1 < (x181003_1.length : Int)) = true := decide_eq_true c6
        clear c6
        by_cases c7 : 0 ≤ x2_1
        · rw [if_pos c7] at H
          have c7b0 : decide (0 ≤ x2_1) = true := decide_eq_true c7
          clear c7
          obtain ⟨y181, hy181⟩ : ∃ y_ : List (S82), y_ = (x181003_1.set (x2_1 : Int).toNat (⟨7, 0⟩ : S82)) := ⟨_, rfl⟩
          replace H : (easellaw07_spoil.l0 k1 (wrap64 (x2_1 + 1)) a0_0 a0_1 a0_2 y181 l0_4 a0_5 a0_6 l0_7) = some (r1, r2, r3) := by first | (rw [hy181]; with_reducible exact H) | (have H2_ := (Option.bind_some _ _).symm.trans H; rw [hy181]; with_reducible exact H2_) | (have H2_ := (Option.bind_some _ _).symm.trans H; with_reducible exact H2_) | with_reducible exact H | (rw [hy181]; exact H) | exact H
          have Ny181 := Aside0.mk hy181
          clear hy181
          have H' := Aside0.mk H
          clear H
          have hcz9_0 : wr.cell? ⟨gb180, 0, none⟩ = some (.int .u8 a0_0) := (blk_cell BK180.out 0).trans rfl
          have hcz9_1 : wr.cell? ⟨gb180, 1, none⟩ = some (.int .u32 a0_1) := (blk_cell BK180.out 1).trans rfl
          have hcz9_2 : wr.cell? ⟨gb180, 2, none⟩ = some (.int .u32 a0_2) := (blk_cell BK180.out 2).trans rfl
          have hcz9_3 : wr.cell? ⟨gb180, 3, none⟩ = some (.slice Ao2 x181003_1.length co2) := (blk_cell BK180.out 3).trans rfl
          have hcz9_4 : wr.cell? ⟨gb180, 4, none⟩ = some (.slice Ao3 l0_4.length co3) := (blk_cell BK180.out 4).trans rfl
          have hcz9_5 : wr.cell? ⟨gb180, 5, none⟩ = some (.int .u8 a0_5) := (blk_cell BK180.out 5).trans rfl
          have hcz9_6 : wr.cell? ⟨gb180, 6, none⟩ = some (.int .u32 a0_6) := (blk_cell BK180.out 6).trans rfl
          have hcz9_7 : wr.cell? ⟨gb180, 7, none⟩ = some (.slice Ao4 l0_7.length co4) := (blk_cell BK180.out 7).trans rfl
          have hfz9_0 := blk_frozen BK180.out 0
          have hfz9_1 := blk_frozen BK180.out 1
          have hfz9_2 := blk_frozen BK180.out 2
          have hfz9_3 := blk_frozen BK180.out 3
          have hfz9_4 := blk_frozen BK180.out 4
          have hfz9_5 := blk_frozen BK180.out 5
          have hfz9_6 := blk_frozen BK180.out 6
          have hfz9_7 := blk_frozen BK180.out 7
          have p8 : 0 ≤ (x2_1 : Int) := of_decide_eq_true (by first | (with_reducible assumption) | assumption)
          have q8 : (x2_1 : Int) < ((x181003_1.length : Int) : Int) := of_decide_eq_true (by first | (with_reducible assumption) | assumption)
          obtain ⟨go8, co8, eo8, gb8, gl8, cl8, HG8⟩ := Kd.R_form HO_181003.out (by omega)
          (first | cases eo8 | (injection eo8 with ea_ en_ ec_; (first | subst ea_ | (injection ea_ with ea_; subst ea_)); subst ec_; clear en_))
          have GB8 := Aside0.mk gb8
          have GG8 := Aside0.mk HG8
          clear gb8 gl8 HG8
          have HMgo8 := Aside0.mk (show ((P0_3_ go8 ∨ P0_4_ go8 ∨ P0_7_ go8) ∨ w.heap.size ≤ go8) from (HO_181003.out.1 _ rfl))
          obtain ⟨ce8, hcl8, hM8, hcc8, hfr8⟩ := Kd.R_elem HO_181003.out z82 (x2_1 : Int) p8 q8
          obtain rfl := k82_openM hM8
          have hx8_0 : wr.cell? ⟨go8, (x2_1 : Int).toNat * 2, none⟩ = some (.int .u16 ((rd_T82 x181003_1 x2_1).f0)) := hcc8 0 _ rfl
          have hx8_1 : wr.cell? ⟨go8, (x2_1 : Int).toNat * 2 + 1, none⟩ = some (.int .u16 ((rd_T82 x181003_1 x2_1).f1)) := hcc8 1 _ rfl
          have hf8_0 : wr.frozen? ⟨go8, (x2_1 : Int).toNat * 2, none⟩ = false := hfr8 0
          have hf8_1 : wr.frozen? ⟨go8, (x2_1 : Int).toNat * 2 + 1, none⟩ = false := hfr8 1
          clear hcl8 hcc8 hfr8 hM8
          replace p8 := eq_true p8
          replace q8 := eq_true q8
          have HX10 := Aside0.mk (show Kd.R k82 82 wr w0.heap.size (fun k_ => ((P0_3_ k_ ∨ P0_4_ k_ ∨ P0_7_ k_) ∨ w.heap.size ≤ k_)) (.slice (some ⟨go8, 0, none⟩) x181003_1.length co2) x181003_1 from (by (with_reducible repeat (first | apply Kd.R_alloc | apply Kd.R_drewN | apply Kd.R_drew)); exact HO_181003.out))
          obtain ⟨ce10, hcl10, hM10, hcc10, hfr10⟩ := Kd.R_elem HX10.out z82 (x2_1 : Int) (of_decide_eq_true (by first | (with_reducible assumption) | assumption)) (by have h_ : (x2_1 : Int) < ((x181003_1.length : Int) : Int) := of_decide_eq_true (by first | (with_reducible assumption) | assumption); first | exact h_ | (have e_ := (Kd.R_reads' HO_181003.out).1; omega) | simpa using h_)
          obtain rfl := k82_openM hM10
          have HP10 := Kd.R_seg HX10.out (x2_1 : Int) (of_decide_eq_true (by first | (with_reducible assumption) | assumption)) (by have h_ : (x2_1 : Int) < ((x181003_1.length : Int) : Int) := of_decide_eq_true (by first | (with_reducible assumption) | assumption); first | exact h_ | (have e_ := (Kd.R_reads' HO_181003.out).1; omega) | simpa using h_) (seg := [.int .u16 7, .int .u16 0]) (j := 0) hcl10 hcc10 (show 2 ≤ 2 from by decide) (x' := (⟨7, 0⟩ : S82)) (k82_mkM _ _ _ (⟨7, 0⟩ : S82) ) (fun _ hk => hk)
          have hx10_0 := hcc10 0 _ rfl
          (try simp only [show (k82).sz = 2 from rfl, Nat.mul_one, Nat.add_zero] at hx10_0)
          have hf10_0 := hfr10 0
          (try simp only [show (k82).sz = 2 from rfl, Nat.mul_one, Nat.add_zero] at hf10_0)
          have hx10_1 := hcc10 1 _ rfl
          (try simp only [show (k82).sz = 2 from rfl, Nat.mul_one, Nat.add_zero] at hx10_1)
          have hf10_1 := hfr10 1
          (try simp only [show (k82).sz = 2 from rfl, Nat.mul_one, Nat.add_zero] at hf10_1)
          clear hcl10 hcc10 hfr10 hM10
          go_wp2_with (first | ((with_reducible refine gate_store (t := 82) (p := 16) rfl ?_); refine store_event (t := 82) (p := 16) (v := ?vo_w11) (w1 := ((wr.setCell ⟨go8, (x2_1 : Int).toNat * 2, none⟩ (.int .u16 7)).setCell ⟨go8, (x2_1 : Int).toNat * 2 + 1, none⟩ (.int .u16 0))) ?hg ?ho ?hn ?hr ?_; (case ho => rfl); (case hg => rfl); (case hn => rfl); (case hr => first | (go_simp; done) | (go_simp; rfl)); intro w11 hw; have hg : wr.grownBy w11 (some go8) := (by rw [hw]; exact HP10.2); have hp_ : Kd.R k82 82 w11 w0.heap.size (fun k_ => ((P0_3_ k_ ∨ P0_4_ k_ ∨ P0_7_ k_) ∨ w.heap.size ≤ k_)) (.slice (some ⟨go8, 0, none⟩) x181003_1.length co2) y181 := (by rw [hw, Ny181.out]; exact HP10.1); clear HP10; have n0_ := Aside0.mk (hp_); have n1_ := Aside0.mk (Kd.R_over' (v := (.slice (some ⟨go8, 0, none⟩) x181003_1.length co2)) (by (with_reducible repeat (first | apply Kd.R_alloc | apply Kd.R_drewN | apply Kd.R_drew)); exact HO_181004.out) (Kd.R_typed HO_181003.out) (by decide) hg); have n2_ := Aside0.mk (Kd.R_over' (v := (.slice (some ⟨go8, 0, none⟩) x181003_1.length co2)) (by (with_reducible repeat (first | apply Kd.R_alloc | apply Kd.R_drewN | apply Kd.R_drew)); exact HO_181007.out) (Kd.R_typed HO_181003.out) (by decide) hg); have n3_ := Aside0.mk (blk_grown (g := gb180) (o := .cells #[.int .u8 a0_0, .int .u32 a0_1, .int .u32 a0_2, .slice (some ⟨go8, 0, none⟩) x181003_1.length co2, .slice Ao3 l0_4.length co3, .int .u8 a0_5, .int .u32 a0_6, .slice Ao4 l0_7.length co4] 52 (0, 0)) (by (with_reducible repeat (first | refine blk_drewN ?_ _ | refine blk_drew ?_ | refine blk_alloc ?_ _)); exact BK180.out) hg (Kd.R_ne HO_181003.out BK180.out (by decide))); have n4_ := Aside0.mk ((by rw [hw]; exact below_set (below_set (HB.out) GB8.out) GB8.out : Below w0.heap.size w0 w11)); have n5_ := Aside0.mk (Kept.of_grown (S := (fun k_ => P0_3_ k_ ∨ P0_4_ k_ ∨ P0_7_ k_)) hg (by repeat (first | (with_reducible first | exact HK.out | apply Kept.alloc | apply Kept.drewN | apply Kept.drew | refine Kept.setCell ?_ (.inr GW180.out) _) | exact HK.out)) (fun k_ e_ => (HO_181003.out.1 k_ e_))); clear HO_181003; clear HO_181004; clear HO_181007; clear BK180; clear HB; clear HK; have HO_181003 := n0_; have HO_181004 := n1_; have HO_181007 := n2_; have BK180 := n3_; have HB := n4_; have HK := n5_; clear n0_ n1_ n2_ n3_ n4_ n5_; clear hg hw hp_))
          (try simp only [← hl181003_1])
          go_roundg k1
          case measure => have := HK1.out; omega
          case rel => exact ⟨(wrap64 (x2_1 + 1)), (y181), (by first | rfl | (simp; done) | (simp [*]; done)), H', ⟨by have := HK1.out; omega⟩, ⟨by (try simp only [hl181003_1]); (with_reducible repeat (first | apply Kd.R_alloc | apply Kd.R_drewN | apply Kd.R_drew)); exact HO_181003.out⟩, ⟨by (try simp only [hl181003_1]); (with_reducible repeat (first | apply Kd.R_alloc | apply Kd.R_drewN | apply Kd.R_drew)); exact HO_181004.out⟩, ⟨by (try simp only [hl181003_1]); (with_reducible repeat (first | apply Kd.R_alloc | apply Kd.R_drewN | apply Kd.R_drew)); exact HO_181007.out⟩, ⟨by (try simp only [hl181003_1]); (with_reducible repeat (first | refine blk_drewN ?_ _ | refine blk_drew ?_ | refine blk_alloc ?_ _)); exact BK180.out⟩, ⟨by repeat (first | (with_reducible first | exact HK.out | apply Kept.alloc | apply Kept.drewN | apply Kept.drew | refine Kept.setCell ?_ (.inr GW180.out) _) | exact HK.out)⟩, ⟨by repeat (first | (with_reducible first | exact HB.out | apply below_alloc | apply pw_below_drewN | apply below_drew1 | refine below_set ?_ GE180.out) | exact HB.out)⟩⟩
        · rw [if_neg c7] at H
          exact absurd H (by simp)
      · rw [if_neg c6] at H
        have c6b0 : decide (x2_1 < (x181003_1.length : Int)) = false := decide_eq_false c6
        clear c6
        have H' := Aside0.mk H
        clear H
        have hcz12_0 : wr.cell? ⟨gb180, 0, none⟩ = some (.int .u8 a0_0) := (blk_cell BK180.out 0).trans rfl
        have hcz12_1 : wr.cell? ⟨gb180, 1, none⟩ = some (.int .u32 a0_1) := (blk_cell BK180.out 1).trans rfl
        have hcz12_2 : wr.cell? ⟨gb180, 2, none⟩ = some (.int .u32 a0_2) := (blk_cell BK180.out 2).trans rfl
        have hcz12_3 : wr.cell? ⟨gb180, 3, none⟩ = some (.slice Ao2 x181003_1.length co2) := (blk_cell BK180.out 3).trans rfl
        have hcz12_4 : wr.cell? ⟨gb180, 4, none⟩ = some (.slice Ao3 l0_4.length co3) := (blk_cell BK180.out 4).trans rfl
        have hcz12_5 : wr.cell? ⟨gb180, 5, none⟩ = some (.int .u8 a0_5) := (blk_cell BK180.out 5).trans rfl
        have hcz12_6 : wr.cell? ⟨gb180, 6, none⟩ = some (.int .u32 a0_6) := (blk_cell BK180.out 6).trans rfl
        have hcz12_7 : wr.cell? ⟨gb180, 7, none⟩ = some (.slice Ao4 l0_7.length co4) := (blk_cell BK180.out 7).trans rfl
        have hfz12_0 := blk_frozen BK180.out 0
        have hfz12_1 := blk_frozen BK180.out 1
        have hfz12_2 := blk_frozen BK180.out 2
        have hfz12_3 := blk_frozen BK180.out 3
        have hfz12_4 := blk_frozen BK180.out 4
        have hfz12_5 := blk_frozen BK180.out 5
        have hfz12_6 := blk_frozen BK180.out 6
        have hfz12_7 := blk_frozen BK180.out 7
        go_wp2
        go_loopg [3] k1 (fun kq v3 w' => ∃ (x3_2 : Int) (x181004_2 : List (S134)), v3 = .int .i64 x3_2 ∧ Aside0 (easellaw07_spoil.l1 kq x3_2 a0_0 a0_1 a0_2 x181003_1 x181004_2 a0_5 a0_6 l0_7 = some (r1, r2, r3)) ∧ Aside0 (kq ≤ k1) ∧ Aside0 (Kd.R k82 82 w' w0.heap.size (fun k_ => ((P0_3_ k_ ∨ P0_4_ k_ ∨ P0_7_ k_) ∨ w.heap.size ≤ k_)) (.slice Ao2 x181003_1.length co2) x181003_1) ∧ Aside0 (Kd.R k134 134 w' w0.heap.size (fun k_ => ((P0_3_ k_ ∨ P0_4_ k_ ∨ P0_7_ k_) ∨ w.heap.size ≤ k_)) (.slice Ao3 l0_4.length co3) x181004_2) ∧ Aside0 (Kd.R (Kd.int .u32) 28 w' w0.heap.size (fun k_ => ((P0_3_ k_ ∨ P0_4_ k_ ∨ P0_7_ k_) ∨ w.heap.size ≤ k_)) (.slice Ao4 l0_7.length co4) l0_7) ∧ Aside0 (w'.heap[gb180]? = some (.cells #[.int .u8 a0_0, .int .u32 a0_1, .int .u32 a0_2, (.slice Ao2 x181003_1.length co2), (.slice Ao3 l0_4.length co3), .int .u8 a0_5, .int .u32 a0_6, (.slice Ao4 l0_7.length co4)] 52 (0, 0))) ∧ Aside0 (Kept w w' (fun k_ => P0_3_ k_ ∨ P0_4_ k_ ∨ P0_7_ k_)) ∧ Aside0 (Below w0.heap.size w0 w'))
        case atStart => exact ⟨(0), (l0_4), (by first | rfl | (simp; done) | (simp [*]; done)), H', ⟨Nat.le_refl _⟩, ⟨by (try simp only [hl181003_1]); (with_reducible repeat (first | apply Kd.R_alloc | apply Kd.R_drewN | apply Kd.R_drew)); exact HO_181003.out⟩, ⟨by (try simp only [hl181003_1]); (with_reducible repeat (first | apply Kd.R_alloc | apply Kd.R_drewN | apply Kd.R_drew)); exact HO_181004.out⟩, ⟨by (try simp only [hl181003_1]); (with_reducible repeat (first | apply Kd.R_alloc | apply Kd.R_drewN | apply Kd.R_drew)); exact HO_181007.out⟩, ⟨by (try simp only [hl181003_1]); (with_reducible repeat (first | refine blk_drewN ?_ _ | refine blk_drew ?_ | refine blk_alloc ?_ _)); exact BK180.out⟩, ⟨by repeat (first | (with_reducible first | exact HK.out | apply Kept.alloc | apply Kept.drewN | apply Kept.drew | refine Kept.setCell ?_ (.inr GW180.out) _) | exact HK.out)⟩, ⟨by repeat (first | (with_reducible first | exact HB.out | apply below_alloc | apply pw_below_drewN | apply below_drew1 | refine below_set ?_ GE180.out) | exact HB.out)⟩⟩
        case round =>
          clear H'
          try clear c1
          try clear hx1
          try clear hf1
          try clear c2
          try clear p2
          try clear c6
          try clear c6b0
          try clear p6
          try clear c7
          try clear c7b0
          try clear c8
          try clear p8
          try clear q8
          try clear hx8
          try clear hf8
          try clear c10
          try clear hx10
          try clear hf10
          try clear hcz12_0
          try clear hcz12_1
          try clear hcz12_2
          try clear hcz12_3
          try clear hcz12_4
          try clear hcz12_5
          try clear hcz12_6
          try clear hcz12_7
          try clear hcz9_0
          try clear hcz9_1
          try clear hcz9_2
          try clear hcz9_3
          try clear hcz9_4
          try clear hcz9_5
          try clear hcz9_6
          try clear hcz9_7
          try clear hfz12_0
          try clear hfz12_1
          try clear hfz12_2
          try clear hfz12_3
          try clear hfz12_4
          try clear hfz12_5
          try clear hfz12_6
          try clear hfz12_7
          try clear hfz9_0
          try clear hfz9_1
          try clear hfz9_2
          try clear hfz9_3
          try clear hfz9_4
          try clear hfz9_5
          try clear hfz9_6
          try clear hfz9_7
          try clear hx10_0
          try clear hx10_1
          try clear hx8_0
          try clear hx8_1
          try clear p2
          try clear p8
          try clear q8
          obtain ⟨x3_2, x181004_2, rfl, HA, HK2, HO_181003, HO_181004, HO_181007, BK180, HK, HB⟩ := hrel
          have hl181004_2 := (Kd.R_reads' HO_181004.out).1
          rw [hl181004_2] at HO_181004
          (try simp only [hl181004_2])
          (try simp only [hl181004_2] at BK180)
          (try simp only [hl181004_2] at HO_181003)
          (try simp only [hl181004_2] at HO_181007)
          cases gk with
          | zero => exact absurd HA.out (by simp [easellaw07_spoil.l1])
          | succ k2 =>
            have H := HA.out
            clear HA
            simp only [easellaw07_spoil.l1] at H
            by_cases c13 : x3_2 < (x181004_2.length : Int)
            · rw [if_pos c13] at H
              have c13b0 : decide (x3_2 < (x181004_2.length : Int)) = true := decide_eq_true c13
              clear c13
              by_cases c14 : 0 ≤ x3_2
              · rw [if_pos c14] at H
                have c14b0 : decide (0 ≤ x3_2) = true := decide_eq_true c14
                clear c14
                obtain ⟨y182, hy182⟩ : ∃ y_ : List (S134), y_ = (x181004_2.set (x3_2 : Int).toNat (⟨0, 7⟩ : S134)) := ⟨_, rfl⟩
                replace H : (easellaw07_spoil.l1 k2 (wrap64 (x3_2 + 1)) a0_0 a0_1 a0_2 x181003_1 y182 a0_5 a0_6 l0_7) = some (r1, r2, r3) := by first | (rw [hy182]; with_reducible exact H) | (have H2_ := (Option.bind_some _ _).symm.trans H; rw [hy182]; with_reducible exact H2_) | (have H2_ := (Option.bind_some _ _).symm.trans H; with_reducible exact H2_) | with_reducible exact H | (rw [hy182]; exact H) | exact H
                have Ny182 := Aside0.mk hy182
                clear hy182
                have H' := Aside0.mk H
                clear H
                have hcz16_0 : wr.cell? ⟨gb180, 0, none⟩ = some (.int .u8 a0_0) := (blk_cell BK180.out 0).trans rfl
                have hcz16_1 : wr.cell? ⟨gb180, 1, none⟩ = some (.int .u32 a0_1) := (blk_cell BK180.out 1).trans rfl
                have hcz16_2 : wr.cell? ⟨gb180, 2, none⟩ = some (.int .u32 a0_2) := (blk_cell BK180.out 2).trans rfl
                have hcz16_3 : wr.cell? ⟨gb180, 3, none⟩ = some (.slice Ao2 x181003_1.length co2) := (blk_cell BK180.out 3).trans rfl
                have hcz16_4 : wr.cell? ⟨gb180, 4, none⟩ = some (.slice Ao3 x181004_2.length co3) := (blk_cell BK180.out 4).trans rfl
                have hcz16_5 : wr.cell? ⟨gb180, 5, none⟩ = some (.int .u8 a0_5) := (blk_cell BK180.out 5).trans rfl
                have hcz16_6 : wr.cell? ⟨gb180, 6, none⟩ = some (.int .u32 a0_6) := (blk_cell BK180.out 6).trans rfl
                have hcz16_7 : wr.cell? ⟨gb180, 7, none⟩ = some (.slice Ao4 l0_7.length co4) := (blk_cell BK180.out 7).trans rfl
                have hfz16_0 := blk_frozen BK180.out 0
                have hfz16_1 := blk_frozen BK180.out 1
                have hfz16_2 := blk_frozen BK180.out 2
                have hfz16_3 := blk_frozen BK180.out 3
                have hfz16_4 := blk_frozen BK180.out 4
                have hfz16_5 := blk_frozen BK180.out 5
                have hfz16_6 := blk_frozen BK180.out 6
                have hfz16_7 := blk_frozen BK180.out 7
                have p15 : 0 ≤ (x3_2 : Int) := of_decide_eq_true (by first | (with_reducible assumption) | assumption)
                have q15 : (x3_2 : Int) < ((x181004_2.length : Int) : Int) := of_decide_eq_true (by first | (with_reducible assumption) | assumption)
                obtain ⟨go15, co15, eo15, gb15, gl15, cl15, HG15⟩ := Kd.R_form HO_181004.out (by omega)
                (first | cases eo15 | (injection eo15 with ea_ en_ ec_; (first | subst ea_ | (injection ea_ with ea_; subst ea_)); subst ec_; clear en_))
                have GB15 := Aside0.mk gb15
                have GG15 := Aside0.mk HG15
                clear gb15 gl15 HG15
                have HMgo15 := Aside0.mk (show ((P0_3_ go15 ∨ P0_4_ go15 ∨ P0_7_ go15) ∨ w.heap.size ≤ go15) from (HO_181004.out.1 _ rfl))
                obtain ⟨ce15, hcl15, hM15, hcc15, hfr15⟩ := Kd.R_elem HO_181004.out z134 (x3_2 : Int) p15 q15
                obtain rfl := k134_openM hM15
                have hx15_0 : wr.cell? ⟨go15, (x3_2 : Int).toNat * 2, none⟩ = some (.int .u32 ((rd_T134 x181004_2 x3_2).f0)) := hcc15 0 _ rfl
                have hx15_1 : wr.cell? ⟨go15, (x3_2 : Int).toNat * 2 + 1, none⟩ = some (.int .u8 ((rd_T134 x181004_2 x3_2).f1)) := hcc15 1 _ rfl
                have hf15_0 : wr.frozen? ⟨go15, (x3_2 : Int).toNat * 2, none⟩ = false := hfr15 0
                have hf15_1 : wr.frozen? ⟨go15, (x3_2 : Int).toNat * 2 + 1, none⟩ = false := hfr15 1
                clear hcl15 hcc15 hfr15 hM15
                replace p15 := eq_true p15
                replace q15 := eq_true q15
                have HX17 := Aside0.mk (show Kd.R k134 134 wr w0.heap.size (fun k_ => ((P0_3_ k_ ∨ P0_4_ k_ ∨ P0_7_ k_) ∨ w.heap.size ≤ k_)) (.slice (some ⟨go15, 0, none⟩) x181004_2.length co3) x181004_2 from (by (with_reducible repeat (first | apply Kd.R_alloc | apply Kd.R_drewN | apply Kd.R_drew)); exact HO_181004.out))
                obtain ⟨ce17, hcl17, hM17, hcc17, hfr17⟩ := Kd.R_elem HX17.out z134 (x3_2 : Int) (of_decide_eq_true (by first | (with_reducible assumption) | assumption)) (by have h_ : (x3_2 : Int) < ((x181004_2.length : Int) : Int) := of_decide_eq_true (by first | (with_reducible assumption) | assumption); first | exact h_ | (have e_ := (Kd.R_reads' HO_181004.out).1; omega) | simpa using h_)
                obtain rfl := k134_openM hM17
                have HP17 := Kd.R_seg HX17.out (x3_2 : Int) (of_decide_eq_true (by first | (with_reducible assumption) | assumption)) (by have h_ : (x3_2 : Int) < ((x181004_2.length : Int) : Int) := of_decide_eq_true (by first | (with_reducible assumption) | assumption); first | exact h_ | (have e_ := (Kd.R_reads' HO_181004.out).1; omega) | simpa using h_) (seg := [.int .u32 0, .int .u8 7]) (j := 0) hcl17 hcc17 (show 2 ≤ 2 from by decide) (x' := (⟨0, 7⟩ : S134)) (k134_mkM _ _ _ (⟨0, 7⟩ : S134) ) (fun _ hk => hk)
                have hx17_0 := hcc17 0 _ rfl
                (try simp only [show (k134).sz = 2 from rfl, Nat.mul_one, Nat.add_zero] at hx17_0)
                have hf17_0 := hfr17 0
                (try simp only [show (k134).sz = 2 from rfl, Nat.mul_one, Nat.add_zero] at hf17_0)
                have hx17_1 := hcc17 1 _ rfl
                (try simp only [show (k134).sz = 2 from rfl, Nat.mul_one, Nat.add_zero] at hx17_1)
                have hf17_1 := hfr17 1
                (try simp only [show (k134).sz = 2 from rfl, Nat.mul_one, Nat.add_zero] at hf17_1)
                clear hcl17 hcc17 hfr17 hM17
                go_wp2_with (first | ((with_reducible refine gate_store (t := 134) (p := 28) rfl ?_); refine store_event (t := 134) (p := 28) (v := ?vo_w18) (w1 := ((wr.setCell ⟨go15, (x3_2 : Int).toNat * 2, none⟩ (.int .u32 0)).setCell ⟨go15, (x3_2 : Int).toNat * 2 + 1, none⟩ (.int .u8 7))) ?hg ?ho ?hn ?hr ?_; (case ho => rfl); (case hg => rfl); (case hn => rfl); (case hr => first | (go_simp; done) | (go_simp; rfl)); intro w18 hw; have hg : wr.grownBy w18 (some go15) := (by rw [hw]; exact HP17.2); have hp_ : Kd.R k134 134 w18 w0.heap.size (fun k_ => ((P0_3_ k_ ∨ P0_4_ k_ ∨ P0_7_ k_) ∨ w.heap.size ≤ k_)) (.slice (some ⟨go15, 0, none⟩) x181004_2.length co3) y182 := (by rw [hw, Ny182.out]; exact HP17.1); clear HP17; have n0_ := Aside0.mk (Kd.R_over' (v := (.slice (some ⟨go15, 0, none⟩) x181004_2.length co3)) (by (with_reducible repeat (first | apply Kd.R_alloc | apply Kd.R_drewN | apply Kd.R_drew)); exact HO_181003.out) (Kd.R_typed HO_181004.out) (by decide) hg); have n1_ := Aside0.mk (hp_); have n2_ := Aside0.mk (Kd.R_over' (v := (.slice (some ⟨go15, 0, none⟩) x181004_2.length co3)) (by (with_reducible repeat (first | apply Kd.R_alloc | apply Kd.R_drewN | apply Kd.R_drew)); exact HO_181007.out) (Kd.R_typed HO_181004.out) (by decide) hg); have n3_ := Aside0.mk (blk_grown (g := gb180) (o := .cells #[.int .u8 a0_0, .int .u32 a0_1, .int .u32 a0_2, .slice Ao2 x181003_1.length co2, .slice (some ⟨go15, 0, none⟩) x181004_2.length co3, .int .u8 a0_5, .int .u32 a0_6, .slice Ao4 l0_7.length co4] 52 (0, 0)) (by (with_reducible repeat (first | refine blk_drewN ?_ _ | refine blk_drew ?_ | refine blk_alloc ?_ _)); exact BK180.out) hg (Kd.R_ne HO_181004.out BK180.out (by decide))); have n4_ := Aside0.mk ((by rw [hw]; exact below_set (below_set (HB.out) GB15.out) GB15.out : Below w0.heap.size w0 w18)); have n5_ := Aside0.mk (Kept.of_grown (S := (fun k_ => P0_3_ k_ ∨ P0_4_ k_ ∨ P0_7_ k_)) hg (by repeat (first | (with_reducible first | exact HK.out | apply Kept.alloc | apply Kept.drewN | apply Kept.drew | refine Kept.setCell ?_ (.inr GW180.out) _) | exact HK.out)) (fun k_ e_ => (HO_181004.out.1 k_ e_))); clear HO_181003; clear HO_181004; clear HO_181007; clear BK180; clear HB; clear HK; have HO_181003 := n0_; have HO_181004 := n1_; have HO_181007 := n2_; have BK180 := n3_; have HB := n4_; have HK := n5_; clear n0_ n1_ n2_ n3_ n4_ n5_; clear hg hw hp_))
                (try simp only [← hl181004_2])
                go_roundg k2
                case measure => have := HK1.out; have := HK2.out; omega
                case rel => exact ⟨(wrap64 (x3_2 + 1)), (y182), (by first | rfl | (simp; done) | (simp [*]; done)), H', ⟨by have := HK1.out; have := HK2.out; omega⟩, ⟨by (try simp only [hl181003_1]); (try simp only [hl181004_2]); (with_reducible repeat (first | apply Kd.R_alloc | apply Kd.R_drewN | apply Kd.R_drew)); exact HO_181003.out⟩, ⟨by (try simp only [hl181003_1]); (try simp only [hl181004_2]); (with_reducible repeat (first | apply Kd.R_alloc | apply Kd.R_drewN | apply Kd.R_drew)); exact HO_181004.out⟩, ⟨by (try simp only [hl181003_1]); (try simp only [hl181004_2]); (with_reducible repeat (first | apply Kd.R_alloc | apply Kd.R_drewN | apply Kd.R_drew)); exact HO_181007.out⟩, ⟨by (try simp only [hl181003_1]); (try simp only [hl181004_2]); (with_reducible repeat (first | refine blk_drewN ?_ _ | refine blk_drew ?_ | refine blk_alloc ?_ _)); exact BK180.out⟩, ⟨by repeat (first | (with_reducible first | exact HK.out | apply Kept.alloc | apply Kept.drewN | apply Kept.drew | refine Kept.setCell ?_ (.inr GW180.out) _) | exact HK.out)⟩, ⟨by repeat (first | (with_reducible first | exact HB.out | apply below_alloc | apply pw_below_drewN | apply below_drew1 | refine below_set ?_ GE180.out) | exact HB.out)⟩⟩
              · rw [if_neg c14] at H
                exact absurd H (by simp)
            · rw [if_neg c13] at H
              have c13b0 : decide (x3_2 < (x181004_2.length : Int)) = false := decide_eq_false c13
              clear c13
              have H' := Aside0.mk H
              clear H
              have hcz19_0 : wr.cell? ⟨gb180, 0, none⟩ = some (.int .u8 a0_0) := (blk_cell BK180.out 0).trans rfl
              have hcz19_1 : wr.cell? ⟨gb180, 1, none⟩ = some (.int .u32 a0_1) := (blk_cell BK180.out 1).trans rfl
              have hcz19_2 : wr.cell? ⟨gb180, 2, none⟩ = some (.int .u32 a0_2) := (blk_cell BK180.out 2).trans rfl
              have hcz19_3 : wr.cell? ⟨gb180, 3, none⟩ = some (.slice Ao2 x181003_1.length co2) := (blk_cell BK180.out 3).trans rfl
              have hcz19_4 : wr.cell? ⟨gb180, 4, none⟩ = some (.slice Ao3 x181004_2.length co3) := (blk_cell BK180.out 4).trans rfl
              have hcz19_5 : wr.cell? ⟨gb180, 5, none⟩ = some (.int .u8 a0_5) := (blk_cell BK180.out 5).trans rfl
              have hcz19_6 : wr.cell? ⟨gb180, 6, none⟩ = some (.int .u32 a0_6) := (blk_cell BK180.out 6).trans rfl
              have hcz19_7 : wr.cell? ⟨gb180, 7, none⟩ = some (.slice Ao4 l0_7.length co4) := (blk_cell BK180.out 7).trans rfl
              have hfz19_0 := blk_frozen BK180.out 0
              have hfz19_1 := blk_frozen BK180.out 1
              have hfz19_2 := blk_frozen BK180.out 2
              have hfz19_3 := blk_frozen BK180.out 3
              have hfz19_4 := blk_frozen BK180.out 4
              have hfz19_5 := blk_frozen BK180.out 5
              have hfz19_6 := blk_frozen BK180.out 6
              have hfz19_7 := blk_frozen BK180.out 7
              go_wp2
              go_loopg [4] k2 (fun kq v4 w' => ∃ (x4_3 : Int) (x181007_3 : List Int), v4 = .int .i64 x4_3 ∧ Aside0 (easellaw07_spoil.l2 kq x4_3 a0_0 a0_1 a0_2 x181003_1 x181004_2 a0_5 a0_6 x181007_3 = some (r1, r2, r3)) ∧ Aside0 (kq ≤ k2) ∧ Aside0 (Kd.R k82 82 w' w0.heap.size (fun k_ => ((P0_3_ k_ ∨ P0_4_ k_ ∨ P0_7_ k_) ∨ w.heap.size ≤ k_)) (.slice Ao2 x181003_1.length co2) x181003_1) ∧ Aside0 (Kd.R k134 134 w' w0.heap.size (fun k_ => ((P0_3_ k_ ∨ P0_4_ k_ ∨ P0_7_ k_) ∨ w.heap.size ≤ k_)) (.slice Ao3 x181004_2.length co3) x181004_2) ∧ Aside0 (Kd.R (Kd.int .u32) 28 w' w0.heap.size (fun k_ => ((P0_3_ k_ ∨ P0_4_ k_ ∨ P0_7_ k_) ∨ w.heap.size ≤ k_)) (.slice Ao4 l0_7.length co4) x181007_3) ∧ Aside0 (w'.heap[gb180]? = some (.cells #[.int .u8 a0_0, .int .u32 a0_1, .int .u32 a0_2, (.slice Ao2 x181003_1.length co2), (.slice Ao3 x181004_2.length co3), .int .u8 a0_5, .int .u32 a0_6, (.slice Ao4 l0_7.length co4)] 52 (0, 0))) ∧ Aside0 (Kept w w' (fun k_ => P0_3_ k_ ∨ P0_4_ k_ ∨ P0_7_ k_)) ∧ Aside0 (Below w0.heap.size w0 w'))
              case atStart => exact ⟨(0), (l0_7), (by first | rfl | (simp; done) | (simp [*]; done)), H', ⟨Nat.le_refl _⟩, ⟨by (try simp only [hl181003_1]); (try simp only [hl181004_2]); (with_reducible repeat (first | apply Kd.R_alloc | apply Kd.R_drewN | apply Kd.R_drew)); exact HO_181003.out⟩, ⟨by (try simp only [hl181003_1]); (try simp only [hl181004_2]); (with_reducible repeat (first | apply Kd.R_alloc | apply Kd.R_drewN | apply Kd.R_drew)); exact HO_181004.out⟩, ⟨by (try simp only [hl181003_1]); (try simp only [hl181004_2]); (with_reducible repeat (first | apply Kd.R_alloc | apply Kd.R_drewN | apply Kd.R_drew)); exact HO_181007.out⟩, ⟨by (try simp only [hl181003_1]); (try simp only [hl181004_2]); (with_reducible repeat (first | refine blk_drewN ?_ _ | refine blk_drew ?_ | refine blk_alloc ?_ _)); exact BK180.out⟩, ⟨by repeat (first | (with_reducible first | exact HK.out | apply Kept.alloc | apply Kept.drewN | apply Kept.drew | refine Kept.setCell ?_ (.inr GW180.out) _) | exact HK.out)⟩, ⟨by repeat (first | (with_reducible first | exact HB.out | apply below_alloc | apply pw_below_drewN | apply below_drew1 | refine below_set ?_ GE180.out) | exact HB.out)⟩⟩
              case round =>
                clear H'
                try clear c1
                try clear p1
                try clear q1
                try clear hx1
                try clear hf1
                try clear c2
                try clear p2
                try clear c6
                try clear c6b0
                try clear p6
                try clear c7
                try clear c7b0
                try clear c8
                try clear p8
                try clear q8
                try clear hx8
                try clear hf8
                try clear c10
                try clear hx10
                try clear hf10
                try clear c13
                try clear c13b0
                try clear c14
                try clear c14b0
                try clear c15
                try clear p15
                try clear q15
                try clear hx15
                try clear hf15
                try clear c17
                try clear hx17
                try clear hf17
                try clear hcz12_0
                try clear hcz12_1
                try clear hcz12_2
                try clear hcz12_3
                try clear hcz12_4
                try clear hcz12_5
                try clear hcz12_6
                try clear hcz12_7
                try clear hcz16_0
                try clear hcz16_1
                try clear hcz16_2
                try clear hcz16_3
                try clear hcz16_4
                try clear hcz16_5
                try clear hcz16_6
                try clear hcz16_7
                try clear hcz19_0
                try clear hcz19_1
                try clear hcz19_2
                try clear hcz19_3
                try clear hcz19_4
                try clear hcz19_5
                try clear hcz19_6
                try clear hcz19_7
                try clear hcz9_0
                try clear hcz9_1
                try clear hcz9_2
                try clear hcz9_3
                try clear hcz9_4
                try clear hcz9_5
                try clear hcz9_6
                try clear hcz9_7
                try clear hfz12_0
                try clear hfz12_1
                try clear hfz12_2
                try clear hfz12_3
                try clear hfz12_4
                try clear hfz12_5
                try clear hfz12_6
                try clear hfz12_7
                try clear hfz16_0
                try clear hfz16_1
                try clear hfz16_2
                try clear hfz16_3
                try clear hfz16_4
                try clear hfz16_5
                try clear hfz16_6
                try clear hfz16_7
                try clear hfz19_0
                try clear hfz19_1
                try clear hfz19_2
                try clear hfz19_3
                try clear hfz19_4
                try clear hfz19_5
                try clear hfz19_6
                try clear hfz19_7
                try clear hfz9_0
                try clear hfz9_1
                try clear hfz9_2
                try clear hfz9_3
                try clear hfz9_4
                try clear hfz9_5
                try clear hfz9_6
                try clear hfz9_7
                try clear hx10_0
                try clear hx10_1
                try clear hx15_0
                try clear hx15_1
                try clear hx17_0
                try clear hx17_1
                try clear hx8_0
                try clear hx8_1
                try clear p15
                try clear p2
                try clear p6
                try clear p8
                try clear q15
                try clear q8
                obtain ⟨x4_3, x181007_3, rfl, HA, HK3, HO_181003, HO_181004, HO_181007, BK180, HK, HB⟩ := hrel
                have hl181007_3 := (Kd.R_reads' HO_181007.out).1
                rw [hl181007_3] at HO_181007
                (try simp only [hl181007_3])
                (try simp only [hl181007_3] at BK180)
                (try simp only [hl181007_3] at HO_181003)
                (try simp only [hl181007_3] at HO_181004)
                cases gk with
                | zero => exact absurd HA.out (by simp [easellaw07_spoil.l2])
                | succ k3 =>
                  have H := HA.out
                  clear HA
                  simp only [easellaw07_spoil.l2] at H
                  by_cases c20 : x4_3 < (x181007_3.length : Int)
                  · rw [if_pos c20] at H
                    have c20b0 : decide (x4_3 < (x181007_3.length : Int)) = true := decide_eq_true c20
                    clear c20
                    by_cases c21 : 0 ≤ x4_3
                    · rw [if_pos c21] at H
                      have c21b0 : decide (0 ≤ x4_3) = true := decide_eq_true c21
                      clear c21
                      obtain ⟨y183, hy183⟩ : ∃ y_ : List Int, y_ = (x181007_3.set (x4_3 : Int).toNat 7) := ⟨_, rfl⟩
                      replace H : (easellaw07_spoil.l2 k3 (wrap64 (x4_3 + 1)) a0_0 a0_1 a0_2 x181003_1 x181004_2 a0_5 a0_6 y183) = some (r1, r2, r3) := by first | (rw [hy183]; with_reducible exact H) | (have H2_ := (Option.bind_some _ _).symm.trans H; rw [hy183]; with_reducible exact H2_) | (have H2_ := (Option.bind_some _ _).symm.trans H; with_reducible exact H2_) | with_reducible exact H | (rw [hy183]; exact H) | exact H
                      have Ny183 := Aside0.mk hy183
                      clear hy183
                      have H' := Aside0.mk H
                      clear H
                      have hcz23_0 : wr.cell? ⟨gb180, 0, none⟩ = some (.int .u8 a0_0) := (blk_cell BK180.out 0).trans rfl
                      have hcz23_1 : wr.cell? ⟨gb180, 1, none⟩ = some (.int .u32 a0_1) := (blk_cell BK180.out 1).trans rfl
                      have hcz23_2 : wr.cell? ⟨gb180, 2, none⟩ = some (.int .u32 a0_2) := (blk_cell BK180.out 2).trans rfl
                      have hcz23_3 : wr.cell? ⟨gb180, 3, none⟩ = some (.slice Ao2 x181003_1.length co2) := (blk_cell BK180.out 3).trans rfl
                      have hcz23_4 : wr.cell? ⟨gb180, 4, none⟩ = some (.slice Ao3 x181004_2.length co3) := (blk_cell BK180.out 4).trans rfl
                      have hcz23_5 : wr.cell? ⟨gb180, 5, none⟩ = some (.int .u8 a0_5) := (blk_cell BK180.out 5).trans rfl
                      have hcz23_6 : wr.cell? ⟨gb180, 6, none⟩ = some (.int .u32 a0_6) := (blk_cell BK180.out 6).trans rfl
                      have hcz23_7 : wr.cell? ⟨gb180, 7, none⟩ = some (.slice Ao4 x181007_3.length co4) := (blk_cell BK180.out 7).trans rfl
                      have hfz23_0 := blk_frozen BK180.out 0
                      have hfz23_1 := blk_frozen BK180.out 1
                      have hfz23_2 := blk_frozen BK180.out 2
                      have hfz23_3 := blk_frozen BK180.out 3
                      have hfz23_4 := blk_frozen BK180.out 4
                      have hfz23_5 := blk_frozen BK180.out 5
                      have hfz23_6 := blk_frozen BK180.out 6
                      have hfz23_7 := blk_frozen BK180.out 7
                      have p22 : 0 ≤ (x4_3 : Int) := of_decide_eq_true (by first | (with_reducible assumption) | assumption)
                      have q22 : (x4_3 : Int) < ((x181007_3.length : Int) : Int) := of_decide_eq_true (by first | (with_reducible assumption) | assumption)
                      obtain ⟨go22, co22, eo22, gb22, gl22, cl22, HG22⟩ := Kd.R_form HO_181007.out (by omega)
                      (first | cases eo22 | (injection eo22 with ea_ en_ ec_; (first | subst ea_ | (injection ea_ with ea_; subst ea_)); subst ec_; clear en_))
                      have GB22 := Aside0.mk gb22
                      have GG22 := Aside0.mk HG22
                      clear gb22 gl22 HG22
                      have HMgo22 := Aside0.mk (show ((P0_3_ go22 ∨ P0_4_ go22 ∨ P0_7_ go22) ∨ w.heap.size ≤ go22) from (HO_181007.out.1 _ rfl))
                      obtain ⟨hx22_0, hf22_0⟩ := Kd.R_celln 0 HO_181007.out (x4_3 : Int) p22 q22
                      replace p22 := eq_true p22
                      replace q22 := eq_true q22
                      have HP24 := Kd.R_putg HO_181007.out (x4_3 : Int) 7
                      go_wp2_with (first | ((with_reducible refine gate_store (t := 28) (p := 39) rfl ?_); refine store_event (t := 28) (p := 39) (v := ?vo_w25) (w1 := (wr.setCell ⟨go22, (x4_3 : Int).toNat, none⟩ (.int .u32 7))) ?hg ?ho ?hn ?hr ?_; (case ho => rfl); (case hg => rfl); (case hn => rfl); (case hr => first | (go_simp; done) | (go_simp; rfl)); intro w25 hw; have hg : wr.grownBy w25 (some go22) := (by rw [hw]; exact HP24.2); have hp_ : Kd.R (Kd.int .u32) 28 w25 w0.heap.size (fun k_ => ((P0_3_ k_ ∨ P0_4_ k_ ∨ P0_7_ k_) ∨ w.heap.size ≤ k_)) (.slice (some ⟨go22, 0, none⟩) x181007_3.length co4) y183 := (by rw [hw, Ny183.out]; exact HP24.1); clear HP24; have n0_ := Aside0.mk (Kd.R_over' (v := (.slice (some ⟨go22, 0, none⟩) x181007_3.length co4)) (by (with_reducible repeat (first | apply Kd.R_alloc | apply Kd.R_drewN | apply Kd.R_drew)); exact HO_181003.out) (Kd.R_typed HO_181007.out) (by decide) hg); have n1_ := Aside0.mk (Kd.R_over' (v := (.slice (some ⟨go22, 0, none⟩) x181007_3.length co4)) (by (with_reducible repeat (first | apply Kd.R_alloc | apply Kd.R_drewN | apply Kd.R_drew)); exact HO_181004.out) (Kd.R_typed HO_181007.out) (by decide) hg); have n2_ := Aside0.mk (hp_); have n3_ := Aside0.mk (blk_grown (g := gb180) (o := .cells #[.int .u8 a0_0, .int .u32 a0_1, .int .u32 a0_2, .slice Ao2 x181003_1.length co2, .slice Ao3 x181004_2.length co3, .int .u8 a0_5, .int .u32 a0_6, .slice (some ⟨go22, 0, none⟩) x181007_3.length co4] 52 (0, 0)) (by (with_reducible repeat (first | refine blk_drewN ?_ _ | refine blk_drew ?_ | refine blk_alloc ?_ _)); exact BK180.out) hg (Kd.R_ne HO_181007.out BK180.out (by decide))); have n4_ := Aside0.mk ((by rw [hw]; exact below_set (HB.out) GB22.out : Below w0.heap.size w0 w25)); have n5_ := Aside0.mk (Kept.of_grown (S := (fun k_ => P0_3_ k_ ∨ P0_4_ k_ ∨ P0_7_ k_)) hg (by repeat (first | (with_reducible first | exact HK.out | apply Kept.alloc | apply Kept.drewN | apply Kept.drew | refine Kept.setCell ?_ (.inr GW180.out) _) | exact HK.out)) (fun k_ e_ => (HO_181007.out.1 k_ e_))); clear HO_181003; clear HO_181004; clear HO_181007; clear BK180; clear HB; clear HK; have HO_181003 := n0_; have HO_181004 := n1_; have HO_181007 := n2_; have BK180 := n3_; have HB := n4_; have HK := n5_; clear n0_ n1_ n2_ n3_ n4_ n5_; clear hg hw hp_))
                      (try simp only [← hl181007_3])
                      go_roundg k3
                      case measure => have := HK1.out; have := HK2.out; have := HK3.out; omega
                      case rel => exact ⟨(wrap64 (x4_3 + 1)), (y183), (by first | rfl | (simp; done) | (simp [*]; done)), H', ⟨by have := HK1.out; have := HK2.out; have := HK3.out; omega⟩, ⟨by (try simp only [hl181003_1]); (try simp only [hl181004_2]); (try simp only [hl181007_3]); (with_reducible repeat (first | apply Kd.R_alloc | apply Kd.R_drewN | apply Kd.R_drew)); exact HO_181003.out⟩, ⟨by (try simp only [hl181003_1]); (try simp only [hl181004_2]); (try simp only [hl181007_3]); (with_reducible repeat (first | apply Kd.R_alloc | apply Kd.R_drewN | apply Kd.R_drew)); exact HO_181004.out⟩, ⟨by (try simp only [hl181003_1]); (try simp only [hl181004_2]); (try simp only [hl181007_3]); (with_reducible repeat (first | apply Kd.R_alloc | apply Kd.R_drewN | apply Kd.R_drew)); exact HO_181007.out⟩, ⟨by (try simp only [hl181003_1]); (try simp only [hl181004_2]); (try simp only [hl181007_3]); (with_reducible repeat (first | refine blk_drewN ?_ _ | refine blk_drew ?_ | refine blk_alloc ?_ _)); exact BK180.out⟩, ⟨by repeat (first | (with_reducible first | exact HK.out | apply Kept.alloc | apply Kept.drewN | apply Kept.drew | refine Kept.setCell ?_ (.inr GW180.out) _) | exact HK.out)⟩, ⟨by repeat (first | (with_reducible first | exact HB.out | apply below_alloc | apply pw_below_drewN | apply below_drew1 | refine below_set ?_ GE180.out) | exact HB.out)⟩⟩
                    · rw [if_neg c21] at H
                      exact absurd H (by simp)
                  · rw [if_neg c20] at H
                    have c20b0 : decide (x4_3 < (x181007_3.length : Int)) = false := decide_eq_false c20
                    clear c20
                    simp only [Option.some.injEq, Prod.mk.injEq] at H
                    obtain ⟨rfl, rfl, rfl⟩ := H
                    have hcz26_0 : wr.cell? ⟨gb180, 0, none⟩ = some (.int .u8 a0_0) := (blk_cell BK180.out 0).trans rfl
                    have hcz26_1 : wr.cell? ⟨gb180, 1, none⟩ = some (.int .u32 a0_1) := (blk_cell BK180.out 1).trans rfl
                    have hcz26_2 : wr.cell? ⟨gb180, 2, none⟩ = some (.int .u32 a0_2) := (blk_cell BK180.out 2).trans rfl
                    have hcz26_3 : wr.cell? ⟨gb180, 3, none⟩ = some (.slice Ao2 x181003_1.length co2) := (blk_cell BK180.out 3).trans rfl
                    have hcz26_4 : wr.cell? ⟨gb180, 4, none⟩ = some (.slice Ao3 x181004_2.length co3) := (blk_cell BK180.out 4).trans rfl
                    have hcz26_5 : wr.cell? ⟨gb180, 5, none⟩ = some (.int .u8 a0_5) := (blk_cell BK180.out 5).trans rfl
                    have hcz26_6 : wr.cell? ⟨gb180, 6, none⟩ = some (.int .u32 a0_6) := (blk_cell BK180.out 6).trans rfl
                    have hcz26_7 : wr.cell? ⟨gb180, 7, none⟩ = some (.slice Ao4 x181007_3.length co4) := (blk_cell BK180.out 7).trans rfl
                    have hfz26_0 := blk_frozen BK180.out 0
                    have hfz26_1 := blk_frozen BK180.out 1
                    have hfz26_2 := blk_frozen BK180.out 2
                    have hfz26_3 := blk_frozen BK180.out 3
                    have hfz26_4 := blk_frozen BK180.out 4
                    have hfz26_5 := blk_frozen BK180.out 5
                    have hfz26_6 := blk_frozen BK180.out 6
                    have hfz26_7 := blk_frozen BK180.out 7
                    go_wp2
                    first | go_end0 | ((try simp only [Exit.inBlock, Exit.then]); refine bodyPost_ret (results_none rfl _ _ _) rfl ?_)
                    exact ⟨by first | rfl | (simp [errW_none, errW_some] <;> rfl) | (simp [*, errW_none, errW_some] <;> rfl), (by first | exact (by (with_reducible repeat (first | apply Kd.R_alloc | apply Kd.R_drewN | apply Kd.R_drew)); exact HO_181003.out) | (simp only [hl181003_1, hl181004_2, hl181007_3]; exact (by (with_reducible repeat (first | apply Kd.R_alloc | apply Kd.R_drewN | apply Kd.R_drew)); exact HO_181003.out))), (by first | exact (by (with_reducible repeat (first | apply Kd.R_alloc | apply Kd.R_drewN | apply Kd.R_drew)); exact HO_181004.out) | (simp only [hl181003_1, hl181004_2, hl181007_3]; exact (by (with_reducible repeat (first | apply Kd.R_alloc | apply Kd.R_drewN | apply Kd.R_drew)); exact HO_181004.out))), (by first | exact (by (with_reducible repeat (first | apply Kd.R_alloc | apply Kd.R_drewN | apply Kd.R_drew)); exact HO_181007.out) | (simp only [hl181003_1, hl181004_2, hl181007_3]; exact (by (with_reducible repeat (first | apply Kd.R_alloc | apply Kd.R_drewN | apply Kd.R_drew)); exact HO_181007.out))), by repeat (first | (with_reducible first | exact HB.out | apply below_alloc | apply pw_below_drewN | apply below_drew1 | refine below_set ?_ GE180.out) | exact HB.out), by repeat (first | (with_reducible first | exact HK.out | apply Kept.alloc | apply Kept.drewN | apply Kept.drew | refine Kept.setCell ?_ (.inr GW180.out) _) | exact HK.out)⟩

end Go.Proofs.Ytjcejgolcdgipaa.K7
