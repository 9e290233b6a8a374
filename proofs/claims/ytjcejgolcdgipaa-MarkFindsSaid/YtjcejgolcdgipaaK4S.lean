/- Chapter 04: easelref04.Of over the printed contracts of chapter 03's reference. -/
import Derived.Test.YtjcejgolcdgipaaK4F
import Derived.Test.YtjcejgolcdgipaaK4x8
import Derived.Test.YtjcejgolcdgipaaK4x13
namespace Go.Proofs.Ytjcejgolcdgipaa.K4
open Go.RowKit Go.Proofs.YtjcejgolcdgipaaW.PrintWords Go.Proofs.YtjcejgolcdgipaaW.PrintLast Go.Proofs.YtjcejgolcdgipaaW.PrintMore
set_option linter.unusedVariables false
set_option linter.unusedSimpArgs false

def r4_Of.f (k : Nat) (a0_0 : Bool) (a0_1 : Int) (a0_2 : Int) (a0_3 : Int) (a0_4 : Int) (l0_5 : List Int) (a0_6 : Bool) (a0_7 : Int) (l0_8 : List Int) (l0_9 : List Int) (a0_10 : Int) (a1 : Int) : Option (Bool × Bool × Bool × Bool × Bool × Bool × Int × Int × Int × Bool) :=
  if a0_6 = true then ((easelref03_Parse.f k a0_7 l0_8).bind fun x => (if x.2 = 0 then ((easelref03_Find.f k a1 x.1).bind fun y => (if y.2 = true then ((r4_Parse.f y.1).bind fun z => (some (z.1, z.2.1, z.2.2.1, z.2.2.2.1, z.2.2.2.2.1, z.2.2.2.2.2.1, z.2.2.2.2.2.2.1, z.2.2.2.2.2.2.2.1, z.2.2.2.2.2.2.2.2.1, (z.2.2.2.2.2.2.2.2.2 == 0)))) else (some (false, false, false, false, false, false, 0, 0, 0, false)))) else (some (false, false, false, false, false, false, 0, 0, 0, false)))) else (some (false, false, false, false, false, false, 0, 0, 0, false))
set_option maxHeartbeats 2000000 in
set_option maxRecDepth 100000 in
theorem r4_Of.calls (k : Nat) (a0_0 : Bool) (a0_1 : Int) (a0_2 : Int) (a0_3 : Int) (a0_4 : Int) (A0_5 : Option Addr) (c0_5 : Nat) (l0_5 : List Int) (a0_6 : Bool) (a0_7 : Int) (A0_8 : Option Addr) (c0_8 : Nat) (l0_8 : List Int) (A0_9 : Option Addr) (c0_9 : Nat) (l0_9 : List Int) (a0_10 : Int) (a1 : Int) (r1 : Bool) (r2 : Bool) (r3 : Bool) (r4 : Bool) (r5 : Bool) (r6 : Bool) (r7 : Int) (r8 : Int) (r9 : Int) (r10 : Bool) (w : World) (hr0_8 : Kd.C (Kd.int .u8) w A0_8 l0_8.length l0_8) (hc0_8 : l0_8.length ≤ c0_8) (h : r4_Of.f k a0_0 a0_1 a0_2 a0_3 a0_4 l0_5 a0_6 a0_7 l0_8 l0_9 a0_10 a1 = some (r1, r2, r3, r4, r5, r6, r7, r8, r9, r10)) :
    Calls Try.prog 58 #[.agg #[.bool a0_0, .int .u8 a0_1, .int .u16 a0_2, .int .u32 a0_3, .int .u32 a0_4, .slice A0_5 l0_5.length c0_5, .bool a0_6, .int .u16 a0_7, .slice A0_8 l0_8.length c0_8, .slice A0_9 l0_9.length c0_9, .int .u8 a0_10], .int .u8 a1] w fun e w' => e = .returned (.tuple #[.agg #[.bool r1, .bool r2, .bool r3, .bool r4, .bool r5, .bool r6, .int .u8 r7, .int .u8 r8, .int .u8 r9], .bool r10]) ∧ Below w.heap.size w w' := by
  obtain ⟨w0, hw0⟩ : ∃ w0, w0 = (w.alloc (.cells #[.bool a0_0, .int .u8 a0_1, .int .u16 a0_2, .int .u32 a0_3, .int .u32 a0_4, .slice A0_5 l0_5.length c0_5, .bool a0_6, .int .u16 a0_7, .slice A0_8 l0_8.length c0_8, .slice A0_9 l0_9.length c0_9, .int .u8 a0_10] 100)).alloc (.cells #[.bool false, .bool false, .bool false, .bool false, .bool false, .bool false, .int .u8 0, .int .u8 0, .int .u8 0] 87) := ⟨_, rfl⟩
  have hB0 : Below w.heap.size w w0 := hw0 ▸ ((Below.refl _ _).alloc (Nat.le_refl _) _).alloc (by simp) _
  have hZ0 : Blk w0 (w.heap.size + 1) 87 #[.bool false, .bool false, .bool false, .bool false, .bool false, .bool false, .int .u8 0, .int .u8 0, .int .u8 0] := by
    rw [hw0]
    have := Blk.new (w.alloc (.cells #[.bool a0_0, .int .u8 a0_1, .int .u16 a0_2, .int .u32 a0_3, .int .u32 a0_4, .slice A0_5 l0_5.length c0_5, .bool a0_6, .int .u16 a0_7, .slice A0_8 l0_8.length c0_8, .slice A0_9 l0_9.length c0_9, .int .u8 a0_10] 100)) 87 #[.bool false, .bool false, .bool false, .bool false, .bool false, .bool false, .int .u8 0, .int .u8 0, .int .u8 0]
    simp only [World.size_alloc] at this
    exact this
  have hQ0 : Blk w0 w.heap.size 100 #[.bool a0_0, .int .u8 a0_1, .int .u16 a0_2, .int .u32 a0_3, .int .u32 a0_4, .slice A0_5 l0_5.length c0_5, .bool a0_6, .int .u16 a0_7, .slice A0_8 l0_8.length c0_8, .slice A0_9 l0_9.length c0_9, .int .u8 a0_10] := hw0 ▸ (Blk.new w _ _).alloc _
  have HC := hd (Kd.C_below hr0_8 hB0)
  have HW0 := hd hw0
  have HH := hd h
  have HB0 := hd hB0
  clear hr0_8 hw0 h hB0
  unfold r4_Of.f at HH
  cases a0_6
  · have h1 := HH.out
    rw [if_neg (by decide)] at h1
    simp only [Option.some.injEq, Prod.mk.injEq] at h1
    obtain ⟨rfl, rfl, rfl, rfl, rfl, rfl, rfl, rfl, rfl, rfl⟩ := h1
    clear HH
    have cQ := hQ0.cell
    have cZ := hZ0.cell
    have fZ := hZ0.frozen
    go_enter Try.func58, Try.ntmps58
    go_upto_region 1 with (fail)
    rw [← HW0.out]
    go_wp2
    exact bodyPost_ret (results_ct rfl _ _ (w.heap.size + 1) 87 _ (0, 0) _ rfl (st9_blk hZ0 _ _ _ _ _ _ _ _ _) Try.underlying87 rfl (by kernel_rfl)) rfl ⟨rfl, below_kp0 HB0.out (st9_kp _ _ _ _ _ _ _ _ _ _ _) (fun q hq => by omega)⟩
  · have h1 := HH.out
    rw [if_pos rfl] at h1
    obtain ⟨⟨x1, x2⟩, hx, h2⟩ := Option.bind_eq_some_iff.1 h1
    have HX := hd hx
    have H2 := hd h2
    clear HH h1 hx h2
    have cQ := hQ0.cell
    go_enter Try.func58, Try.ntmps58
    go_upto_region 1 with (fail)
    rw [← HW0.out]
    clear HW0
    go_wp2_with fail
    refine (easelref03_Parse.calls k a0_7 _ _ l0_8 x1 x2 _ HC.out hc0_8 HX.out).mono ?_
    rintro e w1 ⟨vx, rfl, hS, hB1⟩
    obtain ⟨Ax, cx, rfl, lx, hCx⟩ := Kd.R_reads (Kd.S_R hS)
    have HB1 := hd (HB0.out.trans (hB1.mono HB0.out.size))
    have hZ := hZ0.kp (kp_of_below0 hB1) trivial
    have HS := hd hS
    clear hS hB1 cQ hZ0 hQ0
    by_cases hx2 : x2 = 0
    · have h3 := H2.out
      rw [if_pos hx2] at h3
      subst hx2
      obtain ⟨⟨y1, y2⟩, hy, h4⟩ := Option.bind_eq_some_iff.1 h3
      have HY := hd hy
      have H4 := hd h4
      clear H2 h3 hy h4
      go_wp2_with fail
      refine (easelref03_Find.calls k a1 (fun _ => True) _ _ x1 y1 y2 _ (Kd.S_V HS.out) HY.out).mono ?_
      rintro e w2 ⟨vy, rfl, ⟨Ay, cy, rfl, ly, hR⟩, hB2⟩
      have hCy := Kd.F_now hR
      replace HB1 := hd (HB1.out.trans (hB2.mono HB1.out.size))
      replace hZ := hZ.kp (kp_of_below0 hB2) trivial
      clear hR hB2 hCx
      cases y2
      · have h3 := H4.out
        rw [if_neg (by decide)] at h3
        simp only [Option.some.injEq, Prod.mk.injEq] at h3
        obtain ⟨rfl, rfl, rfl, rfl, rfl, rfl, rfl, rfl, rfl, rfl⟩ := h3
        clear H4
        have cZ := hZ.cell
        have fZ := hZ.frozen
        go_wp2
        exact bodyPost_ret (results_ct rfl _ _ (w.heap.size + 1) 87 _ (0, 0) _ rfl (st9_blk hZ _ _ _ _ _ _ _ _ _) Try.underlying87 rfl (by kernel_rfl)) rfl ⟨rfl, below_kp0 HB1.out (st9_kp _ _ _ _ _ _ _ _ _ _ _) (fun q hq => by omega)⟩
      · have h3 := H4.out
        rw [if_pos rfl] at h3
        obtain ⟨⟨z1, z2, z3, z4, z5, z6, z7, z8, z9, z10⟩, hz, h5⟩ := Option.bind_eq_some_iff.1 h3
        simp only [Option.some.injEq, Prod.mk.injEq] at h5
        obtain ⟨rfl, rfl, rfl, rfl, rfl, rfl, rfl, rfl, rfl, hz10⟩ := h5
        have HZ := hd hz
        have HZ10 := hd hz10
        clear H4 h3 hz hz10
        go_wp2_with fail
        refine (r4_Parse.calls _ _ y1 z1 z2 z3 z4 z5 z6 z7 z8 z9 z10 _ hCy ly HZ.out).mono ?_
        rintro e w3 ⟨rfl, hB3⟩
        replace HB1 := hd (HB1.out.trans (hB3.mono HB1.out.size))
        replace hZ := hZ.kp (kp_of_below0 hB3) trivial
        clear hB3 hCy
        go_upto_region 10 with (fail)
        obtain ⟨w4, hw4⟩ : ∃ w4, w4 = w3.alloc (.cells #[.bool z1, .bool z2, .bool z3, .bool z4, .bool z5, .bool z6, .int .u8 z7, .int .u8 z8, .int .u8 z9] 87) := ⟨_, rfl⟩
        have hM : Blk w4 w3.heap.size 87 #[.bool z1, .bool z2, .bool z3, .bool z4, .bool z5, .bool z6, .int .u8 z7, .int .u8 z8, .int .u8 z9] := hw4 ▸ Blk.new w3 _ _
        replace hZ : Blk w4 _ _ _ := hw4 ▸ hZ.alloc _
        replace HB1 : Hd (Below w.heap.size w w4) := hd (hw4 ▸ HB1.out.alloc HB1.out.size _)
        rw [← hw4]
        clear hw4
        have cM := hM.cell
        have cZ := hZ.cell
        have fZ := hZ.frozen
        go_wp2
        rw [HZ10.out]
        exact bodyPost_ret (results_ct rfl _ _ (w.heap.size + 1) 87 _ (0, 0) _ rfl (st9_blk hZ _ _ _ _ _ _ _ _ _) Try.underlying87 rfl (by kernel_rfl)) rfl ⟨rfl, below_kp0 HB1.out (st9_kp _ _ _ _ _ _ _ _ _ _ _) (fun q hq => by omega)⟩
    · have h3 := H2.out
      rw [if_neg hx2] at h3
      simp only [Option.some.injEq, Prod.mk.injEq] at h3
      obtain ⟨rfl, rfl, rfl, rfl, rfl, rfl, rfl, rfl, rfl, rfl⟩ := h3
      clear H2
      have g0 : ((x2 : Int) != 0) = true := by rw [bne_iff_ne]; exact hx2
      have cZ := hZ.cell
      have fZ := hZ.frozen
      go_wp2
      exact bodyPost_ret (results_ct rfl _ _ (w.heap.size + 1) 87 _ (0, 0) _ rfl (st9_blk hZ _ _ _ _ _ _ _ _ _) Try.underlying87 rfl (by kernel_rfl)) rfl ⟨rfl, below_kp0 HB1.out (st9_kp _ _ _ _ _ _ _ _ _ _ _) (fun q hq => by omega)⟩
end Go.Proofs.Ytjcejgolcdgipaa.K4
