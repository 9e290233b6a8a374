/- Chapter 04: rtp.Same tells that packets of the same fields, whose rows read alike, are the same. -/
import Derived.Test.YtjcejgolcdgipaaClone
import Derived.Test.YtjcejgolcdgipaaK4x18
namespace Go.Proofs.Ytjcejgolcdgipaa.K4
open Go.RowKit Go.Proofs.YtjcejgolcdgipaaW.PrintWords Go.Proofs.YtjcejgolcdgipaaW.PrintLast Go.Proofs.YtjcejgolcdgipaaW.PrintMore
set_option linter.unusedVariables false
set_option linter.unusedSimpArgs false
theorem ev_equal32_l (a : List Int) (hl : a.length ≤ 1000000000) : ∀ d i, i + d = a.length → Ev (fun k => slices_Equal_uint32_uint32.l0 k a a (a.length : Int) (i : Int)) true
  | 0, i, h => Ev.step (f := fun _ => some true) (fun k => by simp only [slices_Equal_uint32_uint32.l0]; rw [if_neg (by omega)]) (Ev.now _)
  | d + 1, i, h => Ev.step (f := fun k => slices_Equal_uint32_uint32.l0 k a a (a.length : Int) ((i + 1 : Nat) : Int)) (fun k => by
      simp only [slices_Equal_uint32_uint32.l0]
      rw [if_pos (by omega), if_pos (by omega), if_pos (by omega), if_pos (by omega), if_pos trivial, show wrap64 ((i : Int) + 1) = ((i + 1 : Nat) : Int) by unfold wrap64; omega]) (ev_equal32_l a hl d (i + 1) (by omega))
theorem ev_equal32 (a : List Int) (hl : a.length ≤ 1000000000) : Ev (fun k => slices_Equal_uint32_uint32.f k a a) true :=
  Ev.congr (fun k => by unfold slices_Equal_uint32_uint32.f; rw [if_pos rfl]; rfl) (ev_equal32_l a hl a.length 0 (by omega))
theorem bytes_equal_f (a : List Int) : bytes_Equal.f a a = some true := by
  unfold bytes_Equal.f
  rw [beq_self_eq_true]
set_option maxHeartbeats 4000000 in
set_option maxRecDepth 100000 in
theorem rtpSame_true (m : Bool) (ty sq ti ss : Int) (hx : Bool) (pr pd : Int) (A5 B5 A8 B8 A9 B9 : Option Addr) (c5 d5 c8 d8 c9 d9 : Nat) (l5 l8 l9 : List Int) (w : World)
    (r5 : Kd.C (Kd.int .u32) w A5 l5.length l5) (s5 : Kd.C (Kd.int .u32) w B5 l5.length l5) (e5 : l5.length ≤ c5) (f5 : l5.length ≤ d5) (n5 : l5.length ≤ 1000000)
    (r8 : Kd.C (Kd.int .u8) w A8 l8.length l8) (s8 : Kd.C (Kd.int .u8) w B8 l8.length l8) (e8 : l8.length ≤ c8) (f8 : l8.length ≤ d8)
    (r9 : Kd.C (Kd.int .u8) w A9 l9.length l9) (s9 : Kd.C (Kd.int .u8) w B9 l9.length l9) (e9 : l9.length ≤ c9) (f9 : l9.length ≤ d9) :
    Calls Try.prog 63 #[.agg #[.bool m, .int .u8 ty, .int .u16 sq, .int .u32 ti, .int .u32 ss, .slice A5 l5.length c5, .bool hx, .int .u16 pr, .slice A8 l8.length c8, .slice A9 l9.length c9, .int .u8 pd], .agg #[.bool m, .int .u8 ty, .int .u16 sq, .int .u32 ti, .int .u32 ss, .slice B5 l5.length d5, .bool hx, .int .u16 pr, .slice B8 l8.length d8, .slice B9 l9.length d9, .int .u8 pd]] w fun e w' => e = .returned (.bool true) ∧ Below w.heap.size w w' := by
  obtain ⟨k, h5⟩ := (ev_equal32 l5 (by omega)).rounds
  obtain ⟨w0, hw0⟩ : ∃ w0, w0 = (w.alloc (.cells #[.bool m, .int .u8 ty, .int .u16 sq, .int .u32 ti, .int .u32 ss, .slice A5 l5.length c5, .bool hx, .int .u16 pr, .slice A8 l8.length c8, .slice A9 l9.length c9, .int .u8 pd] 98)).alloc (.cells #[.bool m, .int .u8 ty, .int .u16 sq, .int .u32 ti, .int .u32 ss, .slice B5 l5.length d5, .bool hx, .int .u16 pr, .slice B8 l8.length d8, .slice B9 l9.length d9, .int .u8 pd] 98) := ⟨_, rfl⟩
  have hB0 : Below w.heap.size w w0 := hw0 ▸ ((Below.refl _ _).alloc (Nat.le_refl _) _).alloc (by simp) _
  have hP0 : Blk w0 w.heap.size 98 #[.bool m, .int .u8 ty, .int .u16 sq, .int .u32 ti, .int .u32 ss, .slice A5 l5.length c5, .bool hx, .int .u16 pr, .slice A8 l8.length c8, .slice A9 l9.length c9, .int .u8 pd] := hw0 ▸ (Blk.new w _ _).alloc _
  have hQ0 : Blk w0 (w.heap.size + 1) 98 #[.bool m, .int .u8 ty, .int .u16 sq, .int .u32 ti, .int .u32 ss, .slice B5 l5.length d5, .bool hx, .int .u16 pr, .slice B8 l8.length d8, .slice B9 l9.length d9, .int .u8 pd] := by
    rw [hw0]
    have := Blk.new (w.alloc (.cells #[.bool m, .int .u8 ty, .int .u16 sq, .int .u32 ti, .int .u32 ss, .slice A5 l5.length c5, .bool hx, .int .u16 pr, .slice A8 l8.length c8, .slice A9 l9.length c9, .int .u8 pd] 98)) 98 #[.bool m, .int .u8 ty, .int .u16 sq, .int .u32 ti, .int .u32 ss, .slice B5 l5.length d5, .bool hx, .int .u16 pr, .slice B8 l8.length d8, .slice B9 l9.length d9, .int .u8 pd]
    simp only [World.size_alloc] at this
    exact this
  have R5 := hd (Kd.C_below r5 hB0)
  have S5 := hd (Kd.C_below s5 hB0)
  have R8 := hd (Kd.C_below r8 hB0)
  have S8 := hd (Kd.C_below s8 hB0)
  have R9 := hd (Kd.C_below r9 hB0)
  have S9 := hd (Kd.C_below s9 hB0)
  have H5 := hd h5
  have HW := hd hw0
  have HB := hd hB0
  clear r5 s5 r8 s8 r9 s9 h5 hw0 hB0
  have cP := hP0.cell
  have cQ := hQ0.cell
  have cP' : ∀ n j, (w0.drewN n).cell? ⟨w.heap.size, j, none⟩ = _ := fun n => (hP0.drewN n).cell
  have cQ' : ∀ n j, (w0.drewN n).cell? ⟨w.heap.size + 1, j, none⟩ = _ := fun n => (hQ0.drewN n).cell
  go_enter Try.func63, Try.ntmps63
  go_upto_region 1 with (fail)
  rw [← HW.out]
  clear HW
  go_wp2_with fail
  refine (bytes_Equal.calls _ _ l8 _ _ l8 true _ R8.out e8 S8.out f8 (bytes_equal_f l8)).mono ?_
  rintro e w1 ⟨rfl, ⟨q1, rfl⟩⟩
  go_wp2_with fail
  refine (slices_Equal_uint32_uint32.calls k _ _ l5 _ _ l5 true _ (Kd.C_drewN R5.out _) e5 (Kd.C_drewN S5.out _) f5 H5.out).mono ?_
  rintro e w1 ⟨rfl, ⟨q2, rfl⟩⟩
  go_wp2_with fail
  refine (bytes_Equal.calls _ _ l9 _ _ l9 true _ (Kd.C_drewN R9.out _) e9 (Kd.C_drewN S9.out _) f9 (bytes_equal_f l9)).mono ?_
  rintro e w1 ⟨rfl, ⟨q3, rfl⟩⟩
  go_wp2
  go_ret
  exact ⟨rfl, HB.out.trans ((pw_below_drewN (Below.refl _ _) _).mono HB.out.size)⟩
end Go.Proofs.Ytjcejgolcdgipaa.K4
