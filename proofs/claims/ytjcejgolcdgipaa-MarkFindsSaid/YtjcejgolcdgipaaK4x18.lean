/- Written by a program of this session over the kit's printer: functions as plain Lean, each call's walk; the conditions stand in each theorem. -/
import Derived.Test.YtjcejgolcdgipaaK4x0
import Derived.Test.YtjcejgolcdgipaaK4x4
namespace Go.Proofs.Ytjcejgolcdgipaa.K4
open Go.RowKit Go.Proofs.YtjcejgolcdgipaaW.PrintWords Go.Proofs.YtjcejgolcdgipaaW.PrintLast Go.Proofs.YtjcejgolcdgipaaW.PrintMore
attribute [local go_sem] max2_int min2_int max_two min_two max_three min_three max_four min_four   -- for this text's walks alone
set_option linter.unusedVariables false
set_option linter.unusedSimpArgs false

/-! ### easeldocs_SpoilPacket: function 62 -/
def easeldocs_SpoilPacket.l0 : Nat → Int → Bool → Int → Int → Int → Int → List Int → Bool → Int → List Int → List Int → Int → Option (List Int × List Int × List Int)
  | 0, _, _, _, _, _, _, _, _, _, _, _, _ => none
  | k + 1, x2, x344000, x344001, x344002, x344003, x344004, x344005, x344006, x344007, x344008, x344009, x344010 => if x2 < (x344005.length : Int) then (if 0 ≤ x2 then (easeldocs_SpoilPacket.l0 k (wrap64 (x2 + 1)) x344000 x344001 x344002 x344003 x344004 (x344005.set (x2 : Int).toNat 77) x344006 x344007 x344008 x344009 x344010) else (none)) else ((easelkit_Spoil.f k x344008).bind fun t345 => ((easelkit_Spoil.f k x344009).bind fun t346 => (some (x344005, t345, t346))))
def easeldocs_SpoilPacket.f (k : Nat) (a0_0 : Bool) (a0_1 : Int) (a0_2 : Int) (a0_3 : Int) (a0_4 : Int) (l0_5 : List Int) (a0_6 : Bool) (a0_7 : Int) (l0_8 : List Int) (l0_9 : List Int) (a0_10 : Int) : Option (List Int × List Int × List Int) := easeldocs_SpoilPacket.l0 k 0 a0_0 a0_1 a0_2 a0_3 a0_4 l0_5 a0_6 a0_7 l0_8 l0_9 a0_10
theorem easeldocs_SpoilPacket.mono_l : ∀ k, (∀ y0 y1 y2 y3 y4 y5 y6 y7 y8 y9 y10 y11, LeO (easeldocs_SpoilPacket.l0 k y0 y1 y2 y3 y4 y5 y6 y7 y8 y9 y10 y11) (easeldocs_SpoilPacket.l0 (k + 1) y0 y1 y2 y3 y4 y5 y6 y7 y8 y9 y10 y11))
  | 0 => fun _ _ _ _ _ _ _ _ _ _ _ _ r h => by simp [easeldocs_SpoilPacket.l0] at h
  | k + 1 => by
    have ih0 := easeldocs_SpoilPacket.mono_l k
    · intro y0 y1 y2 y3 y4 y5 y6 y7 y8 y9 y10 y11
      unfold easeldocs_SpoilPacket.l0
      repeat' first
      | (with_reducible exact ih0 _ _ _ _ _ _ _ _ _ _ _ _)
      | (with_reducible exact easelkit_Spoil.mono _ _)
      | (with_reducible exact LeO.refl _)
      | (with_reducible exact LeO.none _)
      | (with_reducible refine LeO.ite ?_ ?_)
      | (with_reducible refine LeO.bind ?_ (fun _ => ?_))
      | exact ih0 _ _ _ _ _ _ _ _ _ _ _ _
      | exact easelkit_Spoil.mono _ _
      | exact LeO.none _
      | refine LeO.ite ?_ ?_
      | refine LeO.bind ?_ (fun _ => ?_)
theorem easeldocs_SpoilPacket.mono : ∀ a0 a1 a2 a3 a4 a5 a6 a7 a8 a9 a10 k, LeO (easeldocs_SpoilPacket.f k a0 a1 a2 a3 a4 a5 a6 a7 a8 a9 a10) (easeldocs_SpoilPacket.f (k + 1) a0 a1 a2 a3 a4 a5 a6 a7 a8 a9 a10) := by
  intro a0 a1 a2 a3 a4 a5 a6 a7 a8 a9 a10 k
  have ih0 := easeldocs_SpoilPacket.mono_l k
  unfold easeldocs_SpoilPacket.f
  repeat' first
      | (with_reducible exact ih0 _ _ _ _ _ _ _ _ _ _ _ _)
      | (with_reducible exact easelkit_Spoil.mono _ _)
      | (with_reducible exact LeO.refl _)
      | (with_reducible exact LeO.none _)
      | (with_reducible refine LeO.ite ?_ ?_)
      | (with_reducible refine LeO.bind ?_ (fun _ => ?_))
      | exact ih0 _ _ _ _ _ _ _ _ _ _ _ _
      | exact easelkit_Spoil.mono _ _
      | exact LeO.none _
      | refine LeO.ite ?_ ?_
      | refine LeO.bind ?_ (fun _ => ?_)
set_option maxHeartbeats 8000000 in
set_option maxRecDepth 100000 in
theorem easeldocs_SpoilPacket.calls (k : Nat) (a0_0 : Bool) (a0_1 : Int) (a0_2 : Int) (a0_3 : Int) (a0_4 : Int) (P0_5_ : Nat → Prop) (u9000_ : Value) (l0_5 : List Int) (a0_6 : Bool) (a0_7 : Int) (P0_8_ : Nat → Prop) (u9001_ : Value) (l0_8 : List Int) (P0_9_ : Nat → Prop) (u9002_ : Value) (l0_9 : List Int) (a0_10 : Int) (r1 : List Int) (r2 : List Int) (r3 : List Int) (w0 w : World) (hB : Below w0.heap.size w0 w) (ho0_5 : Kd.R (Kd.int .u32) 28 w w0.heap.size P0_5_ u9000_ l0_5) (ho0_8 : Kd.R (Kd.int .u8) 5 w w0.heap.size P0_8_ u9001_ l0_8) (hp0_8_0_9 : ∀ k_, P0_8_ k_ → ¬ P0_9_ k_) (ho0_9 : Kd.R (Kd.int .u8) 5 w w0.heap.size P0_9_ u9002_ l0_9) (hp0_9_0_8 : ∀ k_, P0_9_ k_ → ¬ P0_8_ k_) (h : easeldocs_SpoilPacket.f k a0_0 a0_1 a0_2 a0_3 a0_4 l0_5 a0_6 a0_7 l0_8 l0_9 a0_10 = some (r1, r2, r3)) :
    Calls Try.prog 62 #[.agg #[.bool a0_0, .int .u8 a0_1, .int .u16 a0_2, .int .u32 a0_3, .int .u32 a0_4, u9000_, .bool a0_6, .int .u16 a0_7, u9001_, u9002_, .int .u8 a0_10]] w fun e w' => e = .returned (.tuple #[]) ∧ Kd.R (Kd.int .u32) 28 w' w0.heap.size (fun k_ => ((P0_5_ k_ ∨ P0_8_ k_ ∨ P0_9_ k_) ∨ w.heap.size ≤ k_)) u9000_ r1 ∧ Kd.R (Kd.int .u8) 5 w' w0.heap.size (fun k_ => ((P0_5_ k_ ∨ P0_8_ k_ ∨ P0_9_ k_) ∨ w.heap.size ≤ k_)) u9001_ r2 ∧ Kd.R (Kd.int .u8) 5 w' w0.heap.size (fun k_ => ((P0_5_ k_ ∨ P0_8_ k_ ∨ P0_9_ k_) ∨ w.heap.size ≤ k_)) u9002_ r3 ∧ Below w0.heap.size w0 w' ∧ Kept w w' (fun k_ => P0_5_ k_ ∨ P0_8_ k_ ∨ P0_9_ k_) := by
  have hu98 := Try.underlying98
  have HO0_5 := Aside0.mk (show Kd.R (Kd.int .u32) 28 w w0.heap.size (fun k_ => ((P0_5_ k_ ∨ P0_8_ k_ ∨ P0_9_ k_) ∨ w.heap.size ≤ k_)) u9000_ l0_5 from Kd.R_mono ho0_5 (fun k_ hk => (.inl (.inl hk))))
  have HO0_8 := Aside0.mk (show Kd.R (Kd.int .u8) 5 w w0.heap.size (fun k_ => ((P0_5_ k_ ∨ P0_8_ k_ ∨ P0_9_ k_) ∨ w.heap.size ≤ k_) ∧ some k_ ≠ (u9002_ : Value).ownBlock) u9001_ l0_8 from Kd.R_mono ho0_8 (fun k_ hk => ⟨(.inl (.inr (.inl hk))), fun e_ => hp0_8_0_9 k_ hk (ho0_9.1 k_ e_.symm)⟩))
  have HO0_9 := Aside0.mk (show Kd.R (Kd.int .u8) 5 w w0.heap.size (fun k_ => ((P0_5_ k_ ∨ P0_8_ k_ ∨ P0_9_ k_) ∨ w.heap.size ≤ k_) ∧ some k_ ≠ (u9001_ : Value).ownBlock) u9002_ l0_9 from Kd.R_mono ho0_9 (fun k_ hk => ⟨(.inl (.inr (.inr hk))), fun e_ => hp0_9_0_8 k_ hk (ho0_8.1 k_ e_.symm)⟩))
  have HK := Aside0.mk (Kept.refl w (fun k_ => P0_5_ k_ ∨ P0_8_ k_ ∨ P0_9_ k_))
  have HW0 := Aside0.mk hB.size
  have HB := Aside0.mk hB
  clear hB
  have H : (easeldocs_SpoilPacket.l0 k 0 a0_0 a0_1 a0_2 a0_3 a0_4 l0_5 a0_6 a0_7 l0_8 l0_9 a0_10) = some (r1, r2, r3) := h
  clear h
  have H' := Aside0.mk H
  clear H
  obtain ⟨Ao2, co2, eo2⟩ := Kd.R_slice HO0_5.out
  subst eo2
  obtain ⟨Ao3, co3, eo3⟩ := Kd.R_slice HO0_8.out
  subst eo3
  obtain ⟨Ao4, co4, eo4⟩ := Kd.R_slice HO0_9.out
  subst eo4
  go_enter Try.func62, Try.ntmps62
  go_wp2_with (first | ((with_reducible refine gate_dst (N := 1) rfl ?_); refine box_event ?hg (N := 1) ?hd (cs := #[.bool a0_0, .int .u8 a0_1, .int .u16 a0_2, .int .u32 a0_3, .int .u32 a0_4, .slice Ao2 l0_5.length co2, .bool a0_6, .int .u16 a0_7, .slice Ao3 l0_8.length co3, .slice Ao4 l0_9.length co4, .int .u8 a0_10]) (t := 98) ?hr ?_; (case hd => rfl); (case hg => rfl); (case hr => first | (go_simp; done) | (go_simp; rfl)); intro gb343 hg w5 hbox hb; have n0_ := Aside0.mk (Kd.R_below (by (with_reducible repeat (first | apply Kd.R_alloc | apply Kd.R_drewN | apply Kd.R_drew)); exact HO0_5.out) hb); have n1_ := Aside0.mk (Kd.R_below (by (with_reducible repeat (first | apply Kd.R_alloc | apply Kd.R_drewN | apply Kd.R_drew)); exact HO0_8.out) hb); have n2_ := Aside0.mk (Kd.R_below (by (with_reducible repeat (first | apply Kd.R_alloc | apply Kd.R_drewN | apply Kd.R_drew)); exact HO0_9.out) hb); have n3_ := Aside0.mk (Kept.below (S := (fun k_ => P0_5_ k_ ∨ P0_8_ k_ ∨ P0_9_ k_)) (by repeat (first | (with_reducible first | exact HK.out | apply Kept.alloc | apply Kept.drewN | apply Kept.drew) | exact HK.out)) hb); have n4_ := Aside0.mk (below_step (by repeat (first | (with_reducible first | exact HB.out | apply below_alloc | apply pw_below_drewN | apply below_drew1) | exact HB.out)) hb); have n5_ := Aside0.mk (hbox); have n6_ := Aside0.mk ((by rw [hg]; exact (by first | exact HK.out.1 | exact (show Kept w _ (fun k_ => P0_5_ k_ ∨ P0_8_ k_ ∨ P0_9_ k_) from by repeat (first | (with_reducible first | exact HK.out | apply Kept.alloc | apply Kept.drewN | apply Kept.drew) | exact HK.out)).1) : w.heap.size ≤ gb343)); have n7_ := Aside0.mk ((by rw [hg]; exact (below_size (by repeat (first | (with_reducible first | exact HB.out | apply below_alloc | apply pw_below_drewN | apply below_drew1) | exact HB.out))) : w0.heap.size ≤ gb343)); clear HO0_5; clear HO0_8; clear HO0_9; clear HK; clear HB; have HO0_5 := n0_; have HO0_8 := n1_; have HO0_9 := n2_; have HK := n3_; have HB := n4_; have BK343 := n5_; have GW343 := n6_; have GE343 := n7_; clear n0_ n1_ n2_ n3_ n4_ n5_ n6_ n7_; clear hb hbox hg))
  go_loopg [2] k (fun kq v2 w' => ∃ (x2_1 : Int) (x344005_1 : List Int), v2 = .int .i64 x2_1 ∧ Aside0 (easeldocs_SpoilPacket.l0 kq x2_1 a0_0 a0_1 a0_2 a0_3 a0_4 x344005_1 a0_6 a0_7 l0_8 l0_9 a0_10 = some (r1, r2, r3)) ∧ Aside0 (kq ≤ k) ∧ Aside0 (Kd.R (Kd.int .u32) 28 w' w0.heap.size (fun k_ => ((P0_5_ k_ ∨ P0_8_ k_ ∨ P0_9_ k_) ∨ w.heap.size ≤ k_)) (.slice Ao2 l0_5.length co2) x344005_1) ∧ Aside0 (Kd.R (Kd.int .u8) 5 w' w0.heap.size (fun k_ => ((P0_5_ k_ ∨ P0_8_ k_ ∨ P0_9_ k_) ∨ w.heap.size ≤ k_) ∧ some k_ ≠ ((.slice Ao4 l0_9.length co4) : Value).ownBlock) (.slice Ao3 l0_8.length co3) l0_8) ∧ Aside0 (Kd.R (Kd.int .u8) 5 w' w0.heap.size (fun k_ => ((P0_5_ k_ ∨ P0_8_ k_ ∨ P0_9_ k_) ∨ w.heap.size ≤ k_) ∧ some k_ ≠ ((.slice Ao3 l0_8.length co3) : Value).ownBlock) (.slice Ao4 l0_9.length co4) l0_9) ∧ Aside0 (w'.heap[gb343]? = some (.cells #[.bool a0_0, .int .u8 a0_1, .int .u16 a0_2, .int .u32 a0_3, .int .u32 a0_4, (.slice Ao2 l0_5.length co2), .bool a0_6, .int .u16 a0_7, (.slice Ao3 l0_8.length co3), (.slice Ao4 l0_9.length co4), .int .u8 a0_10] 98 (0, 0))) ∧ Aside0 (Kept w w' (fun k_ => P0_5_ k_ ∨ P0_8_ k_ ∨ P0_9_ k_)) ∧ Aside0 (Below w0.heap.size w0 w'))
  case atStart => exact ⟨(0), (l0_5), (by first | rfl | (simp; done) | (simp [*]; done)), H', ⟨Nat.le_refl _⟩, ⟨by (with_reducible repeat (first | apply Kd.R_alloc | apply Kd.R_drewN | apply Kd.R_drew)); exact HO0_5.out⟩, ⟨by (with_reducible repeat (first | apply Kd.R_alloc | apply Kd.R_drewN | apply Kd.R_drew)); exact HO0_8.out⟩, ⟨by (with_reducible repeat (first | apply Kd.R_alloc | apply Kd.R_drewN | apply Kd.R_drew)); exact HO0_9.out⟩, ⟨by (with_reducible repeat (first | refine blk_drewN ?_ _ | refine blk_drew ?_ | refine blk_alloc ?_ _)); exact BK343.out⟩, ⟨by repeat (first | (with_reducible first | exact HK.out | apply Kept.alloc | apply Kept.drewN | apply Kept.drew | refine Kept.setCell ?_ (.inr GW343.out) _) | exact HK.out)⟩, ⟨by repeat (first | (with_reducible first | exact HB.out | apply below_alloc | apply pw_below_drewN | apply below_drew1 | refine below_set ?_ GE343.out) | exact HB.out)⟩⟩
  case round =>
    clear H'
    try clear p2
    obtain ⟨x2_1, x344005_1, rfl, HA, HK1, HO_344005, HO_344008, HO_344009, BK343, HK, HB⟩ := hrel
    have hl344005_1 := (Kd.R_reads' HO_344005.out).1
    rw [hl344005_1] at HO_344005
    (try simp only [hl344005_1])
    (try simp only [hl344005_1] at BK343)
    (try simp only [hl344005_1] at HO_344008)
    (try simp only [hl344005_1] at HO_344009)
    cases gk with
    | zero => exact absurd HA.out (by simp [easeldocs_SpoilPacket.l0])
    | succ k1 =>
      have H := HA.out
      clear HA
      simp only [easeldocs_SpoilPacket.l0] at H
      by_cases c6 : x2_1 < (x344005_1.length : Int)
      · rw [if_pos c6] at H
        have c6b0 : decide (x2_1 < (x344005_1.length : Int)) = true := decide_eq_true c6
        clear c6
        by_cases c7 : 0 ≤ x2_1
        · rw [if_pos c7] at H
          have c7b0 : decide (0 ≤ x2_1) = true := decide_eq_true c7
          clear c7
          obtain ⟨y344, hy344⟩ : ∃ y_ : List Int, y_ = (x344005_1.set (x2_1 : Int).toNat 77) := ⟨_, rfl⟩
          replace H : (easeldocs_SpoilPacket.l0 k1 (wrap64 (x2_1 + 1)) a0_0 a0_1 a0_2 a0_3 a0_4 y344 a0_6 a0_7 l0_8 l0_9 a0_10) = some (r1, r2, r3) := by first | (rw [hy344]; with_reducible exact H) | (have H2_ := (Option.bind_some _ _).symm.trans H; rw [hy344]; with_reducible exact H2_) | (have H2_ := (Option.bind_some _ _).symm.trans H; with_reducible exact H2_) | with_reducible exact H | (rw [hy344]; exact H) | exact H
          have Ny344 := Aside0.mk hy344
          clear hy344
          have H' := Aside0.mk H
          clear H
          have hcz9_0 : wr.cell? ⟨gb343, 0, none⟩ = some (.bool a0_0) := (blk_cell BK343.out 0).trans rfl
          have hcz9_1 : wr.cell? ⟨gb343, 1, none⟩ = some (.int .u8 a0_1) := (blk_cell BK343.out 1).trans rfl
          have hcz9_2 : wr.cell? ⟨gb343, 2, none⟩ = some (.int .u16 a0_2) := (blk_cell BK343.out 2).trans rfl
          have hcz9_3 : wr.cell? ⟨gb343, 3, none⟩ = some (.int .u32 a0_3) := (blk_cell BK343.out 3).trans rfl
          have hcz9_4 : wr.cell? ⟨gb343, 4, none⟩ = some (.int .u32 a0_4) := (blk_cell BK343.out 4).trans rfl
          have hcz9_5 : wr.cell? ⟨gb343, 5, none⟩ = some (.slice Ao2 x344005_1.length co2) := (blk_cell BK343.out 5).trans rfl
          have hcz9_6 : wr.cell? ⟨gb343, 6, none⟩ = some (.bool a0_6) := (blk_cell BK343.out 6).trans rfl
          have hcz9_7 : wr.cell? ⟨gb343, 7, none⟩ = some (.int .u16 a0_7) := (blk_cell BK343.out 7).trans rfl
          have hcz9_8 : wr.cell? ⟨gb343, 8, none⟩ = some (.slice Ao3 l0_8.length co3) := (blk_cell BK343.out 8).trans rfl
          have hcz9_9 : wr.cell? ⟨gb343, 9, none⟩ = some (.slice Ao4 l0_9.length co4) := (blk_cell BK343.out 9).trans rfl
          have hcz9_10 : wr.cell? ⟨gb343, 10, none⟩ = some (.int .u8 a0_10) := (blk_cell BK343.out 10).trans rfl
          have hfz9_0 := blk_frozen BK343.out 0
          have hfz9_1 := blk_frozen BK343.out 1
          have hfz9_2 := blk_frozen BK343.out 2
          have hfz9_3 := blk_frozen BK343.out 3
          have hfz9_4 := blk_frozen BK343.out 4
          have hfz9_5 := blk_frozen BK343.out 5
          have hfz9_6 := blk_frozen BK343.out 6
          have hfz9_7 := blk_frozen BK343.out 7
          have hfz9_8 := blk_frozen BK343.out 8
          have hfz9_9 := blk_frozen BK343.out 9
          have hfz9_10 := blk_frozen BK343.out 10
          have p8 : 0 ≤ (x2_1 : Int) := of_decide_eq_true (by first | (with_reducible assumption) | assumption)
          have q8 : (x2_1 : Int) < ((x344005_1.length : Int) : Int) := of_decide_eq_true (by first | (with_reducible assumption) | assumption)
          obtain ⟨go8, co8, eo8, gb8, gl8, cl8, HG8⟩ := Kd.R_form HO_344005.out (by omega)
          (first | cases eo8 | (injection eo8 with ea_ en_ ec_; (first | subst ea_ | (injection ea_ with ea_; subst ea_)); subst ec_; clear en_))
          have GB8 := Aside0.mk gb8
          have GG8 := Aside0.mk HG8
          clear gb8 gl8 HG8
          have HMgo8 := Aside0.mk (show ((P0_5_ go8 ∨ P0_8_ go8 ∨ P0_9_ go8) ∨ w.heap.size ≤ go8) from (HO_344005.out.1 _ rfl))
          obtain ⟨hx8_0, hf8_0⟩ := Kd.R_celln 0 HO_344005.out (x2_1 : Int) p8 q8
          replace p8 := eq_true p8
          replace q8 := eq_true q8
          have HP10 := Kd.R_putg HO_344005.out (x2_1 : Int) 77
          go_wp2_with (first | ((with_reducible refine gate_store (t := 28) (p := 13) rfl ?_); refine store_event (t := 28) (p := 13) (v := ?vo_w11) (w1 := (wr.setCell ⟨go8, (x2_1 : Int).toNat, none⟩ (.int .u32 77))) ?hg ?ho ?hn ?hr ?_; (case ho => rfl); (case hg => rfl); (case hn => rfl); (case hr => first | (go_simp; done) | (go_simp; rfl)); intro w11 hw; have hg : wr.grownBy w11 (some go8) := (by rw [hw]; exact HP10.2); have hp_ : Kd.R (Kd.int .u32) 28 w11 w0.heap.size (fun k_ => ((P0_5_ k_ ∨ P0_8_ k_ ∨ P0_9_ k_) ∨ w.heap.size ≤ k_)) (.slice (some ⟨go8, 0, none⟩) x344005_1.length co2) y344 := (by rw [hw, Ny344.out]; exact HP10.1); clear HP10; have n0_ := Aside0.mk (hp_); have n1_ := Aside0.mk (Kd.R_over' (v := (.slice (some ⟨go8, 0, none⟩) x344005_1.length co2)) (by (with_reducible repeat (first | apply Kd.R_alloc | apply Kd.R_drewN | apply Kd.R_drew)); exact HO_344008.out) (Kd.R_typed HO_344005.out) (by decide) hg); have n2_ := Aside0.mk (Kd.R_over' (v := (.slice (some ⟨go8, 0, none⟩) x344005_1.length co2)) (by (with_reducible repeat (first | apply Kd.R_alloc | apply Kd.R_drewN | apply Kd.R_drew)); exact HO_344009.out) (Kd.R_typed HO_344005.out) (by decide) hg); have n3_ := Aside0.mk (blk_grown (g := gb343) (o := .cells #[.bool a0_0, .int .u8 a0_1, .int .u16 a0_2, .int .u32 a0_3, .int .u32 a0_4, .slice (some ⟨go8, 0, none⟩) x344005_1.length co2, .bool a0_6, .int .u16 a0_7, .slice Ao3 l0_8.length co3, .slice Ao4 l0_9.length co4, .int .u8 a0_10] 98 (0, 0)) (by (with_reducible repeat (first | refine blk_drewN ?_ _ | refine blk_drew ?_ | refine blk_alloc ?_ _)); exact BK343.out) hg (Kd.R_ne HO_344005.out BK343.out (by decide))); have n4_ := Aside0.mk ((by rw [hw]; exact below_set (HB.out) GB8.out : Below w0.heap.size w0 w11)); have n5_ := Aside0.mk (Kept.of_grown (S := (fun k_ => P0_5_ k_ ∨ P0_8_ k_ ∨ P0_9_ k_)) hg (by repeat (first | (with_reducible first | exact HK.out | apply Kept.alloc | apply Kept.drewN | apply Kept.drew | refine Kept.setCell ?_ (.inr GW343.out) _) | exact HK.out)) (fun k_ e_ => (HO_344005.out.1 k_ e_))); clear HO_344005; clear HO_344008; clear HO_344009; clear BK343; clear HB; clear HK; have HO_344005 := n0_; have HO_344008 := n1_; have HO_344009 := n2_; have BK343 := n3_; have HB := n4_; have HK := n5_; clear n0_ n1_ n2_ n3_ n4_ n5_; clear hg hw hp_))
          (try simp only [← hl344005_1])
          go_roundg k1
          case measure => have := HK1.out; omega
          case rel => exact ⟨(wrap64 (x2_1 + 1)), (y344), (by first | rfl | (simp; done) | (simp [*]; done)), H', ⟨by have := HK1.out; omega⟩, ⟨by (try simp only [hl344005_1]); (with_reducible repeat (first | apply Kd.R_alloc | apply Kd.R_drewN | apply Kd.R_drew)); exact HO_344005.out⟩, ⟨by (try simp only [hl344005_1]); (with_reducible repeat (first | apply Kd.R_alloc | apply Kd.R_drewN | apply Kd.R_drew)); exact HO_344008.out⟩, ⟨by (try simp only [hl344005_1]); (with_reducible repeat (first | apply Kd.R_alloc | apply Kd.R_drewN | apply Kd.R_drew)); exact HO_344009.out⟩, ⟨by (try simp only [hl344005_1]); (with_reducible repeat (first | refine blk_drewN ?_ _ | refine blk_drew ?_ | refine blk_alloc ?_ _)); exact BK343.out⟩, ⟨by repeat (first | (with_reducible first | exact HK.out | apply Kept.alloc | apply Kept.drewN | apply Kept.drew | refine Kept.setCell ?_ (.inr GW343.out) _) | exact HK.out)⟩, ⟨by repeat (first | (with_reducible first | exact HB.out | apply below_alloc | apply pw_below_drewN | apply below_drew1 | refine below_set ?_ GE343.out) | exact HB.out)⟩⟩
        · rw [if_neg c7] at H
          exact absurd H (by simp)
      · rw [if_neg c6] at H
        have c6b0 : decide (x2_1 < (x344005_1.length : Int)) = false := decide_eq_false c6
        clear c6
        replace H := Option.bind_eq_some_iff.mp H
        obtain ⟨t345, A120, H⟩ := H
        replace H : ((easelkit_Spoil.f k1 l0_9).bind fun t346 => (some (x344005_1, t345, t346))) = some (r1, r2, r3) := H
        have A12 := Aside0.mk A120
        clear A120
        replace H := Option.bind_eq_some_iff.mp H
        obtain ⟨t346, A130, H⟩ := H
        replace H : (some (x344005_1, t345, t346)) = some (r1, r2, r3) := H
        have A13 := Aside0.mk A130
        clear A130
        simp only [Option.some.injEq, Prod.mk.injEq] at H
        obtain ⟨rfl, rfl, rfl⟩ := H
        have hcz14_0 : wr.cell? ⟨gb343, 0, none⟩ = some (.bool a0_0) := (blk_cell BK343.out 0).trans rfl
        have hcz14_1 : wr.cell? ⟨gb343, 1, none⟩ = some (.int .u8 a0_1) := (blk_cell BK343.out 1).trans rfl
        have hcz14_2 : wr.cell? ⟨gb343, 2, none⟩ = some (.int .u16 a0_2) := (blk_cell BK343.out 2).trans rfl
        have hcz14_3 : wr.cell? ⟨gb343, 3, none⟩ = some (.int .u32 a0_3) := (blk_cell BK343.out 3).trans rfl
        have hcz14_4 : wr.cell? ⟨gb343, 4, none⟩ = some (.int .u32 a0_4) := (blk_cell BK343.out 4).trans rfl
        have hcz14_5 : wr.cell? ⟨gb343, 5, none⟩ = some (.slice Ao2 x344005_1.length co2) := (blk_cell BK343.out 5).trans rfl
        have hcz14_6 : wr.cell? ⟨gb343, 6, none⟩ = some (.bool a0_6) := (blk_cell BK343.out 6).trans rfl
        have hcz14_7 : wr.cell? ⟨gb343, 7, none⟩ = some (.int .u16 a0_7) := (blk_cell BK343.out 7).trans rfl
        have hcz14_8 : wr.cell? ⟨gb343, 8, none⟩ = some (.slice Ao3 l0_8.length co3) := (blk_cell BK343.out 8).trans rfl
        have hcz14_9 : wr.cell? ⟨gb343, 9, none⟩ = some (.slice Ao4 l0_9.length co4) := (blk_cell BK343.out 9).trans rfl
        have hcz14_10 : wr.cell? ⟨gb343, 10, none⟩ = some (.int .u8 a0_10) := (blk_cell BK343.out 10).trans rfl
        have hfz14_0 := blk_frozen BK343.out 0
        have hfz14_1 := blk_frozen BK343.out 1
        have hfz14_2 := blk_frozen BK343.out 2
        have hfz14_3 := blk_frozen BK343.out 3
        have hfz14_4 := blk_frozen BK343.out 4
        have hfz14_5 := blk_frozen BK343.out 5
        have hfz14_6 := blk_frozen BK343.out 6
        have hfz14_7 := blk_frozen BK343.out 7
        have hfz14_8 := blk_frozen BK343.out 8
        have hfz14_9 := blk_frozen BK343.out 9
        have hfz14_10 := blk_frozen BK343.out 10
        go_wp2_with (first | ((with_reducible refine gate_callee (f := 35) rfl ?_); refine goesL_ (some 16) rfl rfl Try.func35 (by kernel_rfl) rfl #[.slice Ao3 l0_8.length co3] rfl (by (try simp only [List.map_toArray, List.map_cons, List.map_nil]); first | done | rfl | (simp only [List.length_drop, List.length_take]; rfl)) ?_; (with_reducible refine (easelkit_Spoil.calls k1 (fun k_ => some k_ = (.slice Ao3 l0_8.length co3 : Value).ownBlock) (.slice Ao3 l0_8.length co3) l0_8 t345 w0 _ ?side1 ?side2 A12.out).mono ?_); (case side1 => repeat (first | (with_reducible first | exact HB.out | apply below_alloc | apply pw_below_drewN | apply below_drew1 | refine below_set ?_ GE343.out) | exact HB.out)); (case side2 => exact Kd.R_tight rfl HO_344008.out); rintro e w15 ⟨rfl, hy0, hb, hkp⟩; refine ⟨_, rfl, ?_⟩; have n0_ := Aside0.mk (Kd.R_mono (ok' := fun k_ => ((P0_5_ k_ ∨ P0_8_ k_ ∨ P0_9_ k_) ∨ w.heap.size ≤ k_)) (Kd.R_keptB ((Kd.R_apart' HO_344005.out (Kd.R_typed HO_344008.out) (by decide))) hkp (fun k_ hk_ hs_ => (hk_.2) hs_)) (fun k_ hk_ => hk_.1.1)); have n1_ := Aside0.mk (Kd.R_reok rfl hy0 (fun k_ e_ => HO_344008.out.1 k_ e_)); have n2_ := Aside0.mk (Kd.R_mono (ok' := fun k_ => ((P0_5_ k_ ∨ P0_8_ k_ ∨ P0_9_ k_) ∨ w.heap.size ≤ k_) ∧ some k_ ≠ (.slice Ao3 l0_8.length co3 : Value).ownBlock) (Kd.R_keptB (HO_344009.out) hkp (fun k_ hk_ hs_ => (hk_.2) hs_)) (fun k_ hk_ => ⟨hk_.1.1, hk_.1.2⟩)); have n3_ := Aside0.mk (blk_kept (by (with_reducible repeat (first | refine blk_drewN ?_ _ | refine blk_drew ?_ | refine blk_alloc ?_ _)); exact BK343.out) hkp (fun hs_ => (fun e_ => (Kd.R_ne HO_344008.out BK343.out (by decide)) e_) hs_)); have n4_ := Aside0.mk (Kept.then_ (S := (fun k_ => P0_5_ k_ ∨ P0_8_ k_ ∨ P0_9_ k_)) (by repeat (first | (with_reducible first | exact HK.out | apply Kept.alloc | apply Kept.drewN | apply Kept.drew | refine Kept.setCell ?_ (.inr GW343.out) _) | exact HK.out)) hkp (fun k_ hs_ => (fun e_ => (HO_344008.out.1 k_ e_.symm).1) hs_)); have n5_ := Aside0.mk (hb); clear HO_344005; clear HO_344008; clear HO_344009; clear BK343; clear HK; clear HB; have HO_344005 := n0_; have HO_344008 := n1_; have HO_344009 := n2_; have BK343 := n3_; have HK := n4_; have HB := n5_; clear n0_ n1_ n2_ n3_ n4_ n5_; (try clear hb); (try clear hkp); (try clear hy0); have hcz16_0 : w15.cell? ⟨gb343, 0, none⟩ = some (.bool a0_0) := (blk_cell BK343.out 0).trans rfl; have hcz16_1 : w15.cell? ⟨gb343, 1, none⟩ = some (.int .u8 a0_1) := (blk_cell BK343.out 1).trans rfl; have hcz16_2 : w15.cell? ⟨gb343, 2, none⟩ = some (.int .u16 a0_2) := (blk_cell BK343.out 2).trans rfl; have hcz16_3 : w15.cell? ⟨gb343, 3, none⟩ = some (.int .u32 a0_3) := (blk_cell BK343.out 3).trans rfl; have hcz16_4 : w15.cell? ⟨gb343, 4, none⟩ = some (.int .u32 a0_4) := (blk_cell BK343.out 4).trans rfl; have hcz16_5 : w15.cell? ⟨gb343, 5, none⟩ = some (.slice Ao2 x344005_1.length co2) := (blk_cell BK343.out 5).trans rfl; have hcz16_6 : w15.cell? ⟨gb343, 6, none⟩ = some (.bool a0_6) := (blk_cell BK343.out 6).trans rfl; have hcz16_7 : w15.cell? ⟨gb343, 7, none⟩ = some (.int .u16 a0_7) := (blk_cell BK343.out 7).trans rfl; have hcz16_8 : w15.cell? ⟨gb343, 8, none⟩ = some (.slice Ao3 l0_8.length co3) := (blk_cell BK343.out 8).trans rfl; have hcz16_9 : w15.cell? ⟨gb343, 9, none⟩ = some (.slice Ao4 l0_9.length co4) := (blk_cell BK343.out 9).trans rfl; have hcz16_10 : w15.cell? ⟨gb343, 10, none⟩ = some (.int .u8 a0_10) := (blk_cell BK343.out 10).trans rfl; have hfz16_0 := blk_frozen BK343.out 0; have hfz16_1 := blk_frozen BK343.out 1; have hfz16_2 := blk_frozen BK343.out 2; have hfz16_3 := blk_frozen BK343.out 3; have hfz16_4 := blk_frozen BK343.out 4; have hfz16_5 := blk_frozen BK343.out 5; have hfz16_6 := blk_frozen BK343.out 6; have hfz16_7 := blk_frozen BK343.out 7; have hfz16_8 := blk_frozen BK343.out 8; have hfz16_9 := blk_frozen BK343.out 9; have hfz16_10 := blk_frozen BK343.out 10) | ((with_reducible refine gate_callee (f := 35) rfl ?_); refine goesL_ (some 19) rfl rfl Try.func35 (by kernel_rfl) rfl #[.slice Ao4 l0_9.length co4] rfl (by (try simp only [List.map_toArray, List.map_cons, List.map_nil]); first | done | rfl | (simp only [List.length_drop, List.length_take]; rfl)) ?_; (with_reducible refine (easelkit_Spoil.calls k1 (fun k_ => some k_ = (.slice Ao4 l0_9.length co4 : Value).ownBlock) (.slice Ao4 l0_9.length co4) l0_9 t346 w0 _ ?side1 ?side2 A13.out).mono ?_); (case side1 => repeat (first | (with_reducible first | exact HB.out | apply below_alloc | apply pw_below_drewN | apply below_drew1 | refine below_set ?_ GE343.out) | exact HB.out)); (case side2 => exact Kd.R_tight rfl HO_344009.out); rintro e w17 ⟨rfl, hy0, hb, hkp⟩; refine ⟨_, rfl, ?_⟩; have n0_ := Aside0.mk (Kd.R_mono (ok' := fun k_ => ((P0_5_ k_ ∨ P0_8_ k_ ∨ P0_9_ k_) ∨ w.heap.size ≤ k_)) (Kd.R_keptB ((Kd.R_apart' HO_344005.out (Kd.R_typed HO_344009.out) (by decide))) hkp (fun k_ hk_ hs_ => (hk_.2) hs_)) (fun k_ hk_ => hk_.1.1)); have n1_ := Aside0.mk (Kd.R_mono (ok' := fun k_ => ((P0_5_ k_ ∨ P0_8_ k_ ∨ P0_9_ k_) ∨ w.heap.size ≤ k_) ∧ some k_ ≠ (.slice Ao4 l0_9.length co4 : Value).ownBlock) (Kd.R_keptB (HO_344008.out) hkp (fun k_ hk_ hs_ => (hk_.2) hs_)) (fun k_ hk_ => ⟨hk_.1.1, hk_.1.2⟩)); have n2_ := Aside0.mk (Kd.R_reok rfl hy0 (fun k_ e_ => HO_344009.out.1 k_ e_)); have n3_ := Aside0.mk (blk_kept (by (with_reducible repeat (first | refine blk_drewN ?_ _ | refine blk_drew ?_ | refine blk_alloc ?_ _)); exact BK343.out) hkp (fun hs_ => (fun e_ => (Kd.R_ne HO_344009.out BK343.out (by decide)) e_) hs_)); have n4_ := Aside0.mk (Kept.then_ (S := (fun k_ => P0_5_ k_ ∨ P0_8_ k_ ∨ P0_9_ k_)) (by repeat (first | (with_reducible first | exact HK.out | apply Kept.alloc | apply Kept.drewN | apply Kept.drew | refine Kept.setCell ?_ (.inr GW343.out) _) | exact HK.out)) hkp (fun k_ hs_ => (fun e_ => (HO_344009.out.1 k_ e_.symm).1) hs_)); have n5_ := Aside0.mk (hb); clear HO_344005; clear HO_344008; clear HO_344009; clear BK343; clear HK; clear HB; have HO_344005 := n0_; have HO_344008 := n1_; have HO_344009 := n2_; have BK343 := n3_; have HK := n4_; have HB := n5_; clear n0_ n1_ n2_ n3_ n4_ n5_; (try clear hb); (try clear hkp); (try clear hy0)))
        first | go_end0 | ((try simp only [Exit.inBlock, Exit.then]); refine bodyPost_ret (results_none rfl _ _ _) rfl ?_)
        exact ⟨by first | rfl | (simp [errW_none, errW_some] <;> rfl) | (simp [*, errW_none, errW_some] <;> rfl), (by first | exact (by (with_reducible repeat (first | apply Kd.R_alloc | apply Kd.R_drewN | apply Kd.R_drew)); exact HO_344005.out) | (simp only [hl344005_1]; exact (by (with_reducible repeat (first | apply Kd.R_alloc | apply Kd.R_drewN | apply Kd.R_drew)); exact HO_344005.out))), (by first | exact (by (with_reducible repeat (first | apply Kd.R_alloc | apply Kd.R_drewN | apply Kd.R_drew)); exact Kd.R_mono HO_344008.out (fun _ hk => hk.1)) | (simp only [hl344005_1]; exact (by (with_reducible repeat (first | apply Kd.R_alloc | apply Kd.R_drewN | apply Kd.R_drew)); exact Kd.R_mono HO_344008.out (fun _ hk => hk.1)))), (by first | exact (by (with_reducible repeat (first | apply Kd.R_alloc | apply Kd.R_drewN | apply Kd.R_drew)); exact Kd.R_mono HO_344009.out (fun _ hk => hk.1)) | (simp only [hl344005_1]; exact (by (with_reducible repeat (first | apply Kd.R_alloc | apply Kd.R_drewN | apply Kd.R_drew)); exact Kd.R_mono HO_344009.out (fun _ hk => hk.1)))), by repeat (first | (with_reducible first | exact HB.out | apply below_alloc | apply pw_below_drewN | apply below_drew1 | refine below_set ?_ GE343.out) | exact HB.out), by repeat (first | (with_reducible first | exact HK.out | apply Kept.alloc | apply Kept.drewN | apply Kept.drew | refine Kept.setCell ?_ (.inr GW343.out) _) | exact HK.out)⟩

-- NOT PRINTED: function 10 (easellaw04_MarkFinds)

end Go.Proofs.Ytjcejgolcdgipaa.K4
