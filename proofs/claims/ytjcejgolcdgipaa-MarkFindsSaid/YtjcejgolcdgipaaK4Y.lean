/- Chapter 04: easelref02.Same tells that packets of the same fields, whose rows read alike, are the same. -/
import Derived.Test.YtjcejgolcdgipaaClone
import Derived.Test.YtjcejgolcdgipaaK4x13
namespace Go.Proofs.Ytjcejgolcdgipaa.K4
open Go.RowKit Go.Proofs.YtjcejgolcdgipaaW.PrintWords Go.Proofs.YtjcejgolcdgipaaW.PrintLast Go.Proofs.YtjcejgolcdgipaaW.PrintMore
set_option linter.unusedVariables false
set_option linter.unusedSimpArgs false
set_option maxHeartbeats 4000000 in
set_option maxRecDepth 100000 in
theorem r2Same_true (k : Nat) (m : Bool) (ty sq ti ss : Int) (hx : Bool) (pr pd : Int) (A5 B5 A8 B8 A9 B9 : Option Addr) (c5 d5 c8 d8 c9 d9 : Nat) (l5 l8 l9 : List Int) (w : World)
    (r5 : Kd.C (Kd.int .u32) w A5 l5.length l5) (s5 : Kd.C (Kd.int .u32) w B5 l5.length l5) (e5 : l5.length ≤ c5) (f5 : l5.length ≤ d5) (n5 : l5.length ≤ 1000000)
    (r8 : Kd.C (Kd.int .u8) w A8 l8.length l8) (s8 : Kd.C (Kd.int .u8) w B8 l8.length l8) (e8 : l8.length ≤ c8) (f8 : l8.length ≤ d8) (h8 : easelref02_SameBytes.f k l8 l8 = some true)
    (r9 : Kd.C (Kd.int .u8) w A9 l9.length l9) (s9 : Kd.C (Kd.int .u8) w B9 l9.length l9) (e9 : l9.length ≤ c9) (f9 : l9.length ≤ d9) (h9 : easelref02_SameBytes.f k l9 l9 = some true) :
    Calls Try.prog 61 #[.agg #[.bool m, .int .u8 ty, .int .u16 sq, .int .u32 ti, .int .u32 ss, .slice A5 l5.length c5, .bool hx, .int .u16 pr, .slice A8 l8.length c8, .slice A9 l9.length c9, .int .u8 pd], .agg #[.bool m, .int .u8 ty, .int .u16 sq, .int .u32 ti, .int .u32 ss, .slice B5 l5.length d5, .bool hx, .int .u16 pr, .slice B8 l8.length d8, .slice B9 l9.length d9, .int .u8 pd]] w fun e w' => e = .returned (.bool true) ∧ Kp (fun _ => True) w w' := by
  obtain ⟨w0, hw0⟩ : ∃ w0, w0 = (w.alloc (.cells #[.bool m, .int .u8 ty, .int .u16 sq, .int .u32 ti, .int .u32 ss, .slice A5 l5.length c5, .bool hx, .int .u16 pr, .slice A8 l8.length c8, .slice A9 l9.length c9, .int .u8 pd] 100)).alloc (.cells #[.bool m, .int .u8 ty, .int .u16 sq, .int .u32 ti, .int .u32 ss, .slice B5 l5.length d5, .bool hx, .int .u16 pr, .slice B8 l8.length d8, .slice B9 l9.length d9, .int .u8 pd] 100) := ⟨_, rfl⟩
  have hB0 : Below w.heap.size w w0 := hw0 ▸ ((Below.refl _ _).alloc (Nat.le_refl _) _).alloc (by simp) _
  have hP0 : Blk w0 w.heap.size 100 #[.bool m, .int .u8 ty, .int .u16 sq, .int .u32 ti, .int .u32 ss, .slice A5 l5.length c5, .bool hx, .int .u16 pr, .slice A8 l8.length c8, .slice A9 l9.length c9, .int .u8 pd] := hw0 ▸ (Blk.new w _ _).alloc _
  have hQ0 : Blk w0 (w.heap.size + 1) 100 #[.bool m, .int .u8 ty, .int .u16 sq, .int .u32 ti, .int .u32 ss, .slice B5 l5.length d5, .bool hx, .int .u16 pr, .slice B8 l8.length d8, .slice B9 l9.length d9, .int .u8 pd] := by
    rw [hw0]
    have := Blk.new (w.alloc (.cells #[.bool m, .int .u8 ty, .int .u16 sq, .int .u32 ti, .int .u32 ss, .slice A5 l5.length c5, .bool hx, .int .u16 pr, .slice A8 l8.length c8, .slice A9 l9.length c9, .int .u8 pd] 100)) 100 #[.bool m, .int .u8 ty, .int .u16 sq, .int .u32 ti, .int .u32 ss, .slice B5 l5.length d5, .bool hx, .int .u16 pr, .slice B8 l8.length d8, .slice B9 l9.length d9, .int .u8 pd]
    simp only [World.size_alloc] at this
    exact this
  have hK0 : Kp (fun _ => True) w w0 := Kp.of_below hB0 (fun _ _ hl => hl)
  have SA := hd (sl_of_scalar (Kd.C_below r5 hB0) e5)
  have SB := hd (sl_of_scalar (Kd.C_below s5 hB0) f5)
  have R8 := hd (Kd.C_below r8 hB0)
  have S8 := hd (Kd.C_below s8 hB0)
  have R9 := hd (Kd.C_below r9 hB0)
  have S9 := hd (Kd.C_below s9 hB0)
  have H8 := hd h8
  have H9 := hd h9
  have HW := hd hw0
  clear r5 s5 r8 s8 r9 s9 h8 h9 hw0 hB0
  have cP0 := hP0.cell
  have cQ0 := hQ0.cell
  go_enter Try.func61, Try.ntmps61
  go_upto_region 1 with (fail)
  rw [← HW.out]
  clear HW
  go_wp2
  clear cP0 cQ0
  go_loopw [5] (fun iv wr => ∃ i : Nat, i ≤ l5.length ∧ iv = .int .i64 i ∧ ∃ q, wr = w0.drewN q) (fun iv _ => l5.length - (intOf iv).toNat)
  case atStart => exact ⟨0, by omega, rfl, 0, rfl⟩
  case round =>
    obtain ⟨i, hi, rfl, q, rfl⟩ := hrel
    have cP := hP0.cell
    have cQ := hQ0.cell
    have cP' : ∀ n i, (w0.drewN n).cell? ⟨w.heap.size, i, none⟩ = _ := fun n => (hP0.drewN n).cell
    have cQ' : ∀ n i, (w0.drewN n).cell? ⟨w.heap.size + 1, i, none⟩ = _ := fun n => (hQ0.drewN n).cell
    have cP2 : ∀ n n' i, ((w0.drewN n).drewN n').cell? ⟨w.heap.size, i, none⟩ = _ := fun n n' => ((hP0.drewN n).drewN n').cell
    have cQ2 : ∀ n n' i, ((w0.drewN n).drewN n').cell? ⟨w.heap.size + 1, i, none⟩ = _ := fun n n' => ((hQ0.drewN n).drewN n').cell
    by_cases hlt : i < l5.length
    · have hu : (l5.map (Value.int .u32))[i]? = some (.int .u32 l5[i]) := by rw [List.getElem?_map, List.getElem?_eq_getElem hlt]; rfl
      obtain ⟨ga, oa, rfl, _, ca⟩ := SA.out.at_ hu
      obtain ⟨gb, ob, rfl, _, cb⟩ := SB.out.at_ hu
      generalize l5[i] = x at *
      have ca' : ∀ n, (w0.drewN n).cell? ⟨ga, oa + i, none⟩ = some (.int .u32 x) := fun _ => ca
      have cb' : ∀ n, (w0.drewN n).cell? ⟨gb, ob + i, none⟩ = some (.int .u32 x) := fun _ => cb
      clear hu
      go_wp2_with fail
      go_quiet (fail)
      go_wp2
      go_roundw
      case rel => exact ⟨i + 1, by omega, by go_num, _, rfl⟩
      case measure => simp [intOf]; omega
    · obtain rfl : i = l5.length := by omega
      go_wp2_with fail
      refine (easelref02_SameBytes.calls k _ _ l8 _ _ l8 true _ (Kd.C_drewN R8.out _) e8 (Kd.C_drewN S8.out _) f8 H8.out).mono ?_
      rintro e w1 ⟨rfl, ⟨q1, rfl⟩⟩
      go_wp2_with fail
      refine (easelref02_SameBytes.calls k _ _ l9 _ _ l9 true _ (Kd.C_drewN R9.out _) e9 (Kd.C_drewN S9.out _) f9 H9.out).mono ?_
      rintro e w1 ⟨rfl, ⟨q2, rfl⟩⟩
      go_wp2
      go_ret
      exact ⟨rfl, hK0.drewN _⟩
end Go.Proofs.Ytjcejgolcdgipaa.K4
