/- Chapter 04: the walk of MarkFinds over contracts. -/
import Derived.Test.YtjcejgolcdgipaaK4F
import Derived.Test.YtjcejgolcdgipaaK4S
import Derived.Test.YtjcejgolcdgipaaK4V
import Derived.Test.YtjcejgolcdgipaaK4Y
import Derived.Test.YtjcejgolcdgipaaK4x11
import Derived.Test.YtjcejgolcdgipaaK4x12
import Derived.Test.YtjcejgolcdgipaaK4x18
import Derived.Test.YtjcejgolcdgipaaK4x3
import Derived.Test.YtjcejgolcdgipaaK4x1
namespace Go.Proofs.Ytjcejgolcdgipaa.K4
open Go.RowKit Go.Proofs.YtjcejgolcdgipaaW.PrintWords Go.Proofs.YtjcejgolcdgipaaW.PrintLast Go.Proofs.YtjcejgolcdgipaaW.PrintMore
set_option linter.unusedVariables false
set_option linter.unusedSimpArgs false
attribute [local go_sem high] eqA87

/-- The three rows of a packet. -/
structure Pk3 (w : World) (A5 A8 A9 : Option Addr) (l5 l8 l9 : List Int) : Prop where
  c5 : Kd.C (Kd.int .u32) w A5 l5.length l5
  c8 : Kd.C (Kd.int .u8) w A8 l8.length l8
  c9 : Kd.C (Kd.int .u8) w A9 l9.length l9
theorem Pk3.below {w w' : World} {A5 A8 A9 : Option Addr} {l5 l8 l9 : List Int} (h : Pk3 w A5 A8 A9 l5 l8 l9) (hb : Below w.heap.size w w') : Pk3 w' A5 A8 A9 l5 l8 l9 := ⟨Kd.C_below h.c5 hb, Kd.C_below h.c8 hb, Kd.C_below h.c9 hb⟩
theorem Pk3.alloc {w : World} {A5 A8 A9 : Option Addr} {l5 l8 l9 : List Int} (h : Pk3 w A5 A8 A9 l5 l8 l9) (o : Obj) : Pk3 (w.alloc o) A5 A8 A9 l5 l8 l9 := h.below ((Below.refl _ _).alloc (Nat.le_refl _) _)
theorem below_alloc1 (w : World) (o : Obj) : Below w.heap.size w (w.alloc o) := (Below.refl _ _).alloc (Nat.le_refl _) _
theorem Pk3.drew {w : World} {A5 A8 A9 : Option Addr} {l5 l8 l9 : List Int} (h : Pk3 w A5 A8 A9 l5 l8 l9) : Pk3 w.drew A5 A8 A9 l5 l8 l9 := ⟨Kd.C_drew h.c5, Kd.C_drew h.c8, Kd.C_drew h.c9⟩
theorem below_next {w w1 w2 : World} (h : Below w.heap.size w w1) (k : Below w1.heap.size w1 w2) : Below w.heap.size w w2 := h.trans (k.mono h.size)
theorem C_st {w0 w1 w2 : World} {A B : Option Addr} {xs ys : List Int} {c b g : Nat} (h : (A = B ∧ xs = ys) ∨ ∃ e, Kd.R (Kd.int .u8) e w1 b (fun _ => True) (.slice A xs.length c) xs) (hC : Kd.C (Kd.int .u8) w0 B ys.length ys) (hb : Below w0.heap.size w0 w2) (hk : Kp (· ≠ g) w1 w2) (hg : g < b) : Kd.C (Kd.int .u8) w2 A xs.length xs := by
  rcases h with ⟨rfl, rfl⟩ | ⟨e, hR⟩
  · exact Kd.C_below hC hb
  · exact C_of_R (R_kp (ok' := fun _ => True) hR (Nat.le_refl _) hk (fun k _ hk => by omega) (fun _ _ => trivial))
theorem R_self {k : IntKind} {e : Nat} {w : World} {base : Nat} {ok : Nat → Prop} {v : Value} {xs : List Int} (h : Kd.R (Kd.int k) e w base ok v xs) : Kd.R (Kd.int k) e w base (fun k_ => v.ownBlock = some k_) v xs := ⟨fun _ hk => hk, h.2⟩
theorem far_cells (g b : Nat) (h : g ≠ b) (W : World) (i j : Nat) (u : Value) : (W.setCell ⟨g, i, none⟩ u).cell? ⟨b, j, none⟩ = W.cell? ⟨b, j, none⟩ := World.cell?_setCell_far W _ _ u h
set_option maxHeartbeats 8000000 in
set_option maxRecDepth 100000 in
theorem MarkFinds_walk (k : Nat) (m : Bool) (ty sq ti ss : Int) (A5 : Option Addr) (c5 : Nat) (l5 : List Int) (hx : Bool) (pr : Int) (A8 : Option Addr) (c8 : Nat) (l8 : List Int) (A9 : Option Addr) (c9 : Nat) (l9 : List Int) (pd id : Int) (s e i d l b : Bool) (t li tl : Int) (w : World)
    (hp : Pk3 w A5 A8 A9 l5 l8 l9) (hc5 : l5.length ≤ c5) (hc8 : l8.length ≤ c8) (hc9 : l9.length ≤ c9) (n5 : l5.length ≤ 1000000)
    (hF : easeldocs_FewPacket.f m ty sq ti ss l5 hx pr l8 l9 pd = some true)
    (hP : easeldocs_Packet.f m ty sq ti ss l5 hx pr l8 l9 pd = some (m, ty, sq, ti, ss, l5, hx, pr, l8, l9, pd))
    (x1 x2 x3 x4 x5 x6 : Bool) (x7 x8 x9 : Int) (x10 : Bool) (hO : mark_Of.f m ty sq ti ss l5 hx pr l8 l9 pd id = some (x1, x2, x3, x4, x5, x6, x7, x8, x9, x10)) (hO' : r4_Of.f k m ty sq ti ss l5 hx pr l8 l9 pd id = some (x1, x2, x3, x4, x5, x6, x7, x8, x9, x10))
    (y1 : Bool) (y2 : Int) (y3 : List Int) (y4 : Int) (hW : mark_With.f m ty sq ti ss l5 hx pr l8 l9 pd id s e i d l b t li tl = some (m, ty, sq, ti, ss, l5, y1, y2, y3, l9, pd, y4)) (hW' : r4With.f k m ty sq ti ss l5 hx pr l8 l9 pd id s e i d l b t li tl = some (y1, y2, y3, y4))
    (hQ : easeldocs_Packet.f m ty sq ti ss l5 y1 y2 y3 l9 pd = some (m, ty, sq, ti, ss, l5, y1, y2, y3, l9, pd))
    (h8 : easelref02_SameBytes.f k l8 l8 = some true) (h9 : easelref02_SameBytes.f k l9 l9 = some true) (hy : easelref02_SameBytes.f k y3 y3 = some true)
    (z1 z2 z3 : List Int) (hZ : easeldocs_SpoilPacket.f k m ty sq ti ss l5 y1 y2 y3 l9 pd = some (z1, z2, z3)) :
    Calls Try.prog 10 #[.agg #[.bool m, .int .u8 ty, .int .u16 sq, .int .u32 ti, .int .u32 ss, .slice A5 l5.length c5, .bool hx, .int .u16 pr, .slice A8 l8.length c8, .slice A9 l9.length c9, .int .u8 pd], .int .u8 id, .agg #[.bool s, .bool e, .bool i, .bool d, .bool l, .bool b, .int .u8 t, .int .u8 li, .int .u8 tl]] w fun e w' => e = .returned (.bool true) ∧ Below w.heap.size w w' := by
  obtain ⟨w0, hw0⟩ : ∃ w0, w0 = (w.alloc (.cells #[.bool m, .int .u8 ty, .int .u16 sq, .int .u32 ti, .int .u32 ss, .slice A5 l5.length c5, .bool hx, .int .u16 pr, .slice A8 l8.length c8, .slice A9 l9.length c9, .int .u8 pd] 98)).alloc (.cells #[.bool s, .bool e, .bool i, .bool d, .bool l, .bool b, .int .u8 t, .int .u8 li, .int .u8 tl] 84) := ⟨_, rfl⟩
  have hB0 : Below w.heap.size w w0 := hw0 ▸ ((Below.refl _ _).alloc (Nat.le_refl _) _).alloc (by simp) _
  have bP : Blk w0 w.heap.size 98 #[.bool m, .int .u8 ty, .int .u16 sq, .int .u32 ti, .int .u32 ss, .slice A5 l5.length c5, .bool hx, .int .u16 pr, .slice A8 l8.length c8, .slice A9 l9.length c9, .int .u8 pd] := hw0 ▸ (Blk.new w _ _).alloc _
  have bM : Blk w0 (w.heap.size + 1) 84 #[.bool s, .bool e, .bool i, .bool d, .bool l, .bool b, .int .u8 t, .int .u8 li, .int .u8 tl] := by
    rw [hw0]
    have := Blk.new (w.alloc (.cells #[.bool m, .int .u8 ty, .int .u16 sq, .int .u32 ti, .int .u32 ss, .slice A5 l5.length c5, .bool hx, .int .u16 pr, .slice A8 l8.length c8, .slice A9 l9.length c9, .int .u8 pd] 98)) 84 #[.bool s, .bool e, .bool i, .bool d, .bool l, .bool b, .int .u8 t, .int .u8 li, .int .u8 tl]
    simp only [World.size_alloc] at this
    exact this
  have HP3 := hd (hp.below hB0)
  have HF := hd hF
  have HPk := hd hP
  have HO := hd hO
  have HO' := hd hO'
  have HW := hd hW
  have HW' := hd hW'
  have HQ := hd hQ
  have H8 := hd h8
  have H9 := hd h9
  have HY := hd hy
  have HZ := hd hZ
  have HW0 := hd hw0
  have HB := hd hB0
  clear hp hF hP hO hO' hW hW' hQ h8 h9 hy hZ hw0 hB0
  have cP := bP.cell
  go_enter Try.func10, Try.ntmps10
  go_upto_region 1 with (fail)
  rw [← HW0.out]
  clear HW0
  go_wp2_with fail
  refine (easeldocs_FewPacket.calls m ty sq ti ss _ _ l5 hx pr _ _ l8 _ _ l9 pd true _ HP3.out.c5 hc5 HP3.out.c8 hc8 HP3.out.c9 hc9 HF.out).mono ?_
  rintro e_ w1 ⟨rfl, hB1⟩
  replace HP3 := hd (HP3.out.below hB1)
  replace bP := bP.kp (kp_of_below hB1) trivial
  replace bM := bM.kp (kp_of_below hB1) trivial
  replace HB := hd (below_next HB.out hB1)
  clear cP hB1
  have cP := bP.cell
  go_wp2_with fail
  refine (easeldocs_Packet.calls m ty sq ti ss _ _ l5 hx pr _ _ l8 _ _ l9 pd m ty sq ti ss l5 hx pr l8 l9 pd _ HP3.out.c5 hc5 HP3.out.c8 hc8 HP3.out.c9 hc9 HPk.out).mono ?_
  rintro e_ w2 ⟨v5, v8, v9, rfl, hR5, hR8, hR9, hB2⟩
  obtain ⟨B5, d5, rfl, hd5, hC5⟩ := Kd.R_reads hR5
  obtain ⟨B8, d8, rfl, hd8, hC8⟩ := Kd.R_reads hR8
  obtain ⟨B9, d9, rfl, hd9, hC9⟩ := Kd.R_reads hR9
  have HR3 := hd (Pk3.mk hC5 hC8 hC9)
  replace HP3 := hd (HP3.out.below hB2)
  replace bP := bP.kp (kp_of_below hB2) trivial
  replace bM := bM.kp (kp_of_below hB2) trivial
  replace HB := hd (below_next HB.out hB2)
  clear cP hB2 hR5 hR8 hR9 hC5 hC8 hC9
  go_upto_region 4 with (fail)
  obtain ⟨w3, hw3⟩ : ∃ w3, w3 = w2.alloc (.cells #[.bool m, .int .u8 ty, .int .u16 sq, .int .u32 ti, .int .u32 ss, .slice B5 l5.length d5, .bool hx, .int .u16 pr, .slice B8 l8.length d8, .slice B9 l9.length d9, .int .u8 pd] 100) := ⟨_, rfl⟩
  have hB3 : Below w2.heap.size w2 w3 := hw3 ▸ below_alloc1 w2 _
  have bR : Blk w3 w2.heap.size 100 #[.bool m, .int .u8 ty, .int .u16 sq, .int .u32 ti, .int .u32 ss, .slice B5 l5.length d5, .bool hx, .int .u16 pr, .slice B8 l8.length d8, .slice B9 l9.length d9, .int .u8 pd] := hw3 ▸ Blk.new w2 _ _
  rw [← hw3]
  clear hw3
  replace HR3 := hd (HR3.out.below hB3)
  replace HP3 := hd (HP3.out.below hB3)
  replace bP := bP.kp (kp_of_below hB3) trivial
  replace bM := bM.kp (kp_of_below hB3) trivial
  replace HB := hd (below_next HB.out hB3)
  clear hB3
  have cP := bP.cell
  go_wp2_with fail
  refine (mark_Of.calls m ty sq ti ss _ _ l5 hx pr _ _ l8 _ _ l9 pd id x1 x2 x3 x4 x5 x6 x7 x8 x9 x10 _ HP3.out.c8 hc8 HO.out).mono ?_
  rintro e_ w4 ⟨rfl, hB4⟩
  replace HR3 := hd (HR3.out.below hB4)
  replace HP3 := hd (HP3.out.below hB4)
  replace bP := bP.kp (kp_of_below hB4) trivial
  replace bM := bM.kp (kp_of_below hB4) trivial
  replace bR := bR.kp (kp_of_below hB4) trivial
  replace HB := hd (below_next HB.out hB4)
  clear cP hB4
  go_upto_region 5 with (fail)
  obtain ⟨w5, hw5⟩ : ∃ w5, w5 = w4.alloc (.cells #[.bool x1, .bool x2, .bool x3, .bool x4, .bool x5, .bool x6, .int .u8 x7, .int .u8 x8, .int .u8 x9] 84) := ⟨_, rfl⟩
  have hB5 : Below w4.heap.size w4 w5 := hw5 ▸ below_alloc1 w4 _
  have bX : Blk w5 w4.heap.size 84 #[.bool x1, .bool x2, .bool x3, .bool x4, .bool x5, .bool x6, .int .u8 x7, .int .u8 x8, .int .u8 x9] := hw5 ▸ Blk.new w4 _ _
  rw [← hw5]
  clear hw5
  replace HR3 := hd (HR3.out.below hB5)
  replace HP3 := hd (HP3.out.below hB5)
  replace bP := bP.kp (kp_of_below hB5) trivial
  replace bM := bM.kp (kp_of_below hB5) trivial
  replace bR := bR.kp (kp_of_below hB5) trivial
  replace HB := hd (below_next HB.out hB5)
  clear hB5
  have cR := bR.cell
  go_wp2_with fail
  refine (r4_Of.calls k m ty sq ti ss _ _ l5 hx pr _ _ l8 _ _ l9 pd id x1 x2 x3 x4 x5 x6 x7 x8 x9 x10 _ HR3.out.c8 hd8 HO'.out).mono ?_
  rintro e_ w6 ⟨rfl, hB6⟩
  replace HR3 := hd (HR3.out.below hB6)
  replace HP3 := hd (HP3.out.below hB6)
  replace bP := bP.kp (kp_of_below hB6) trivial
  replace bM := bM.kp (kp_of_below hB6) trivial
  replace bR := bR.kp (kp_of_below hB6) trivial
  replace bX := bX.kp (kp_of_below hB6) trivial
  replace HB := hd (below_next HB.out hB6)
  clear cR hB6
  go_upto_region 6 with (fail)
  obtain ⟨w7, hw7⟩ : ∃ w7, w7 = w6.alloc (.cells #[.bool x1, .bool x2, .bool x3, .bool x4, .bool x5, .bool x6, .int .u8 x7, .int .u8 x8, .int .u8 x9] 87) := ⟨_, rfl⟩
  have hB7 : Below w6.heap.size w6 w7 := hw7 ▸ below_alloc1 w6 _
  have bY : Blk w7 w6.heap.size 87 #[.bool x1, .bool x2, .bool x3, .bool x4, .bool x5, .bool x6, .int .u8 x7, .int .u8 x8, .int .u8 x9] := hw7 ▸ Blk.new w6 _ _
  rw [← hw7]
  clear hw7
  replace HR3 := hd (HR3.out.below hB7)
  replace HP3 := hd (HP3.out.below hB7)
  replace bP := bP.kp (kp_of_below hB7) trivial
  replace bM := bM.kp (kp_of_below hB7) trivial
  replace bR := bR.kp (kp_of_below hB7) trivial
  replace bX := bX.kp (kp_of_below hB7) trivial
  replace HB := hd (below_next HB.out hB7)
  clear hB7
  have cX := bX.cell
  have cY := bY.cell
  replace HR3 := hd HR3.out.drew
  replace HP3 := hd HP3.out.drew
  replace bP := bP.drew
  replace bM := bM.drew
  replace bR := bR.drew
  replace HB : Hd (Below w.heap.size w w7.drew) := hd (HB.out.trans ((pw_below_drewN (Below.refl _ _) 1).mono HB.out.size))
  have s7 : (∀ j, w7.drew.cell? ⟨w4.heap.size, j, none⟩ = #[.bool x1, .bool x2, .bool x3, .bool x4, .bool x5, .bool x6, .int .u8 x7, .int .u8 x8, .int .u8 x9][j]?) ∧ (∀ j, w7.drew.cell? ⟨w6.heap.size, j, none⟩ = #[.bool x1, .bool x2, .bool x3, .bool x4, .bool x5, .bool x6, .int .u8 x7, .int .u8 x8, .int .u8 x9][j]?) := ⟨bX.drew.cell, bY.drew.cell⟩
  go_wp2_with fail
  go_region_held3 (fun W => (∀ j, W.cell? ⟨w4.heap.size, j, none⟩ = #[.bool x1, .bool x2, .bool x3, .bool x4, .bool x5, .bool x6, .int .u8 x7, .int .u8 x8, .int .u8 x9][j]?) ∧ (∀ j, W.cell? ⟨w6.heap.size, j, none⟩ = #[.bool x1, .bool x2, .bool x3, .bool x4, .bool x5, .bool x6, .int .u8 x7, .int .u8 x8, .int .u8 x9][j]?)) (first | exact s7 | exact s8)
    (first | (go_at_call 48; refine (easellaw04_ref.calls x1 x2 x3 x4 x5 x6 x7 x8 x9 x1 x2 x3 x4 x5 x6 x7 x8 x9 _ rfl).mono ?_; (rintro e_ w8 ⟨rfl, hB8⟩); have s8 : (∀ j, w8.cell? ⟨w4.heap.size, j, none⟩ = #[.bool x1, .bool x2, .bool x3, .bool x4, .bool x5, .bool x6, .int .u8 x7, .int .u8 x8, .int .u8 x9][j]?) ∧ (∀ j, w8.cell? ⟨w6.heap.size, j, none⟩ = #[.bool x1, .bool x2, .bool x3, .bool x4, .bool x5, .bool x6, .int .u8 x7, .int .u8 x8, .int .u8 x9][j]?) := ⟨(bX.drew.kp (kp_of_below hB8) trivial).cell, (bY.drew.kp (kp_of_below hB8) trivial).cell⟩))
  replace HR3 := hd (HR3.out.below hB8)
  replace HP3 := hd (HP3.out.below hB8)
  replace bP := bP.kp (kp_of_below hB8) trivial
  replace bM := bM.kp (kp_of_below hB8) trivial
  replace bR := bR.kp (kp_of_below hB8) trivial
  replace HB := hd (below_next HB.out hB8)
  clear hB8 s7 s8 cX cY bX bY HO HO'
  go_wp2
  go_loopw [12] (fun iv wr => ∃ j : Nat, j ≤ 2 ∧ iv = .int .i64 j ∧ Below w8.heap.size w8 wr) (fun iv _ => 2 - (intOf iv).toNat)
  case atStart => exact ⟨0, by omega, rfl, Below.refl _ _⟩
  case round =>
    obtain ⟨j, hj, rfl, hBr⟩ := hrel
    replace HR3 := hd (HR3.out.below hBr)
    replace HP3 := hd (HP3.out.below hBr)
    replace bP := bP.kp (kp_of_below hBr) trivial
    replace bM := bM.kp (kp_of_below hBr) trivial
    replace bR := bR.kp (kp_of_below hBr) trivial
    by_cases hlt : j < 2
    · have HPr := hd HP3.out
      have HRr := hd HR3.out
      have HbP := hd bP
      have HbM := hd bM
      have HbR := hd bR
      have cP := bP.cell
      have cM := bM.cell
      go_wp2_with fail
      refine (mark_With.calls m ty sq ti ss _ _ l5 hx pr _ _ l8 _ _ l9 pd id s e i d l b t li tl m ty sq ti ss l5 y1 y2 y3 l9 pd y4 _ HP3.out.c5 hc5 HP3.out.c8 hc8 HP3.out.c9 hc9 HW.out).mono ?_
      rintro e_ w10 ⟨v5, v8, v9, rfl, hQ5, hQ8, hQ9, hB10⟩
      obtain ⟨D5, q5, rfl, hq5, _⟩ := Kd.R_reads hQ5
      obtain ⟨D8, q8, rfl, hq8, _⟩ := Kd.R_reads hQ8
      obtain ⟨D9, q9, rfl, hq9, _⟩ := Kd.R_reads hQ9
      replace HR3 := hd (HR3.out.below hB10)
      replace HP3 := hd (HP3.out.below hB10)
      replace bP := bP.kp (kp_of_below hB10) trivial
      replace bM := bM.kp (kp_of_below hB10) trivial
      replace bR := bR.kp (kp_of_below hB10) trivial
      have HQS := hd (And.intro hQ5 (And.intro hQ8 hQ9))
      have HBr := hd hB10
      clear cP cM hB10 hQ5 hQ8 hQ9
      go_upto_region 12 with (fail)
      obtain ⟨w11, hw11⟩ : ∃ w11, w11 = w10.alloc (.cells #[.bool m, .int .u8 ty, .int .u16 sq, .int .u32 ti, .int .u32 ss, .slice D5 l5.length q5, .bool y1, .int .u16 y2, .slice D8 y3.length q8, .slice D9 l9.length q9, .int .u8 pd] 98) := ⟨_, rfl⟩
      have hB11 : Below w10.heap.size w10 w11 := hw11 ▸ below_alloc1 w10 _
      have bQ : Blk w11 w10.heap.size 98 #[.bool m, .int .u8 ty, .int .u16 sq, .int .u32 ti, .int .u32 ss, .slice D5 l5.length q5, .bool y1, .int .u16 y2, .slice D8 y3.length q8, .slice D9 l9.length q9, .int .u8 pd] := hw11 ▸ Blk.new w10 _ _
      replace HR3 := hd (HR3.out.below hB11)
      replace HP3 := hd (HP3.out.below hB11)
      replace bP := bP.kp (kp_of_below hB11) trivial
      replace bM := bM.kp (kp_of_below hB11) trivial
      replace bR := bR.kp (kp_of_below hB11) trivial
      replace HQS := hd (And.intro (Kd.R_below HQS.out.1 hB11) (And.intro (Kd.R_below HQS.out.2.1 hB11) (Kd.R_below HQS.out.2.2 hB11)))
      replace HBr := hd (below_next HBr.out hB11)
      rw [← hw11]
      clear hw11
      have s11 : (∀ j, w11.drew.cell? ⟨w2.heap.size, j, none⟩ = #[.bool m, .int .u8 ty, .int .u16 sq, .int .u32 ti, .int .u32 ss, .slice B5 l5.length d5, .bool hx, .int .u16 pr, .slice B8 l8.length d8, .slice B9 l9.length d9, .int .u8 pd][j]?) ∧ (∀ j, w11.drew.cell? ⟨w.heap.size + 1, j, none⟩ = #[.bool s, .bool e, .bool i, .bool d, .bool l, .bool b, .int .u8 t, .int .u8 li, .int .u8 tl][j]?) := ⟨bR.drew.cell, bM.drew.cell⟩
      have HS11 := hd s11
      have HBR0 := hd bR
      have HBM0 := hd bM
      have HBR := hd bR.drew
      have HBM := hd bM.drew
      clear s11
      go_cut [15, 16] (fun v15 v16 wc => ∃ g E8 s8, v15 = .pointer (some ⟨g, 0, none⟩) ∧ v16 = .int .i64 y4 ∧ Below w11.heap.size w11 wc ∧ Blk wc g 100 #[.bool m, .int .u8 ty, .int .u16 sq, .int .u32 ti, .int .u32 ss, .slice B5 l5.length d5, .bool y1, .int .u16 y2, .slice E8 y3.length s8, .slice B9 l9.length d9, .int .u8 pd] ∧ y3.length ≤ s8 ∧ Kd.C (Kd.int .u8) wc E8 y3.length y3)
      case first =>
        have s11 := HS11.out
        have hD : Below w11.heap.size w11 w11.drew := pw_below_drewN (Below.refl _ _) 1
        have hfR11 := far_cells w11.heap.size w2.heap.size (Nat.ne_of_gt HBR.out.lt)
        have hfM11 := far_cells w11.heap.size (w.heap.size + 1) (Nat.ne_of_gt HBM.out.lt)
        go_wp2_with fail
        go_region_held3 (fun W => (∀ j, W.cell? ⟨w2.heap.size, j, none⟩ = #[.bool m, .int .u8 ty, .int .u16 sq, .int .u32 ti, .int .u32 ss, .slice B5 l5.length d5, .bool hx, .int .u16 pr, .slice B8 l8.length d8, .slice B9 l9.length d9, .int .u8 pd][j]?) ∧ (∀ j, W.cell? ⟨w.heap.size + 1, j, none⟩ = #[.bool s, .bool e, .bool i, .bool d, .bool l, .bool b, .int .u8 t, .int .u8 li, .int .u8 tl][j]?))
          (first | with_reducible exact s11 | with_reducible exact ⟨(HBR.out.alloc _).cell, (HBM.out.alloc _).cell⟩ | with_reducible exact s12 | with_reducible exact ⟨(bR12.alloc _).cell, (bM12.alloc _).cell⟩ | with_reducible exact s13 | with_reducible exact ⟨(bR13.alloc _).cell, (bM13.alloc _).cell⟩ | (refine ⟨fun j => ?_, fun j => ?_⟩ <;> simp only [hfR11, hfM11, hfR12, hfM12, s13.1, s13.2]) | exact s11 | exact ⟨(HBR.out.alloc _).cell, (HBM.out.alloc _).cell⟩ | exact s12 | exact ⟨(bR12.alloc _).cell, (bM12.alloc _).cell⟩ | exact s13 | exact ⟨(bR13.alloc _).cell, (bM13.alloc _).cell⟩)
          (first
            | (go_at_call 48; refine (easellaw04_ref.calls s e i d l b t li tl s e i d l b t li tl _ rfl).mono ?_; (rintro e_ w12 ⟨rfl, hB12⟩); have hC12 : Below w11.drew.heap.size w11.drew w12 := (by first | exact hB12 | exact below_next (below_alloc1 _ _) hB12); have bR12 := HBR.out.kp (kp_of_below hC12) trivial; have bM12 := HBM.out.kp (kp_of_below hC12) trivial; have s12 := And.intro bR12.cell bM12.cell; have hfR12 := far_cells w12.heap.size w2.heap.size (Nat.ne_of_gt bR12.lt); have hfM12 := far_cells w12.heap.size (w.heap.size + 1) (Nat.ne_of_gt bM12.lt); (try (have hz12 : Blk w12 w11.heap.size 100 #[.bool false, .int .u8 0, .int .u16 0, .int .u32 0, .int .u32 0, .slice none 0 0, .bool false, .int .u16 0, .slice none 0 0, .slice none 0 0, .int .u8 0] := (by with_reducible exact (Blk.new w11 100 #[.bool false, .int .u8 0, .int .u16 0, .int .u32 0, .int .u32 0, .slice none 0 0, .bool false, .int .u16 0, .slice none 0 0, .slice none 0 0, .int .u8 0]).drew.kp (kp_of_below hB12) trivial))))
            | (go_at_call 60; refine (r4With.calls2 k m ty sq ti ss _ _ _ hx pr _ _ l5 l8 l9 _ _ _ pd id s e i d l b t li tl y1 y2 y3 y4 _ (Kd.C_below HR3.out.c8 (by first | exact below_next hD hC12 | exact below_next (below_next hD hC12) (below_alloc1 _ _))) hd8 HW'.out).mono ?_; (rintro e_ w13 ⟨E8, s8, rfl, hs8, hE8, hB13, hE13⟩); have hC13 : Below w11.heap.size w11 w13 := (by first | exact below_next (below_next hD hC12) hB13 | exact below_next (below_next (below_next hD hC12) (below_alloc1 _ _)) hB13); have bR13 := (HBR0.out.kp (kp_of_below hC13) trivial); have bM13 := (HBM0.out.kp (kp_of_below hC13) trivial); have s13 := And.intro bR13.cell bM13.cell; (first | (have hz13 : Blk w13 w11.heap.size 100 #[.bool false, .int .u8 0, .int .u16 0, .int .u32 0, .int .u32 0, .slice none 0 0, .bool false, .int .u16 0, .slice none 0 0, .slice none 0 0, .int .u8 0] := (by with_reducible exact hz12.kp (kp_of_below hB13) trivial)) | (have hz13 : Blk w13 w12.heap.size 100 #[.bool false, .int .u8 0, .int .u16 0, .int .u32 0, .int .u32 0, .slice none 0 0, .bool false, .int .u16 0, .slice none 0 0, .slice none 0 0, .int .u8 0] := (by with_reducible exact (Blk.new w12 100 #[.bool false, .int .u8 0, .int .u16 0, .int .u32 0, .int .u32 0, .slice none 0 0, .bool false, .int .u16 0, .slice none 0 0, .slice none 0 0, .int .u8 0]).kp (kp_of_below hB13) trivial)) | (have hz13 := Blk.new w13 100 #[.bool false, .int .u8 0, .int .u16 0, .int .u32 0, .int .u32 0, .slice none 0 0, .bool false, .int .u16 0, .slice none 0 0, .slice none 0 0, .int .u8 0])); have fz13 := hz13.frozen; have cz13 := hz13.cell))
        · go_wp2_with fail
          go_meet
          case rel => exact ⟨_, _, _, rfl, rfl, below_next hC13 (below_alloc1 _ _), Blk.new w13 _ _, hs8, C_alloc _ hE8⟩
        · go_wp2_with fail
          go_meet
          case rel =>
            have hz2 : w11.heap.size ≤ w12.heap.size := hC12.size
            have hF := below_kp hC13 (st11_kp w13 w12.heap.size (.bool m) (.int .u8 ty) (.int .u16 sq) (.int .u32 ti) (.int .u32 ss) (.slice B5 l5.length d5) (.bool y1) (.int .u16 y2) (.slice E8 y3.length s8) (.slice B9 l9.length d9) (.int .u8 pd)) (fun k hk => by omega)
            exact ⟨_, _, _, rfl, rfl, hF, st11_blk hz13 _ _ _ _ _ _ _ _ _ _ _, hs8, C_st hE13 HR3.out.c8 hF (st11_kp _ _ _ _ _ _ _ _ _ _ _ _ _) (by simp)⟩
        · go_wp2_with fail
          go_meet
          case rel =>
            have hF := below_kp hC13 (st11_kp w13 w11.heap.size (.bool m) (.int .u8 ty) (.int .u16 sq) (.int .u32 ti) (.int .u32 ss) (.slice B5 l5.length d5) (.bool y1) (.int .u16 y2) (.slice E8 y3.length s8) (.slice B9 l9.length d9) (.int .u8 pd)) (fun k hk => by omega)
            exact ⟨_, _, _, rfl, rfl, hF, st11_blk hz13 _ _ _ _ _ _ _ _ _ _ _, hs8, C_st hE13 HR3.out.c8 hF (st11_kp _ _ _ _ _ _ _ _ _ _ _ _ _) hz12.lt⟩
      case rest =>
        obtain ⟨g, E8, s8, rfl, rfl, hB13, bS, hs8, hE8⟩ := hcut
        replace HR3 := hd (HR3.out.below hB13)
        replace HP3 := hd (HP3.out.below hB13)
        replace bP := bP.kp (kp_of_below hB13) trivial
        replace bM := bM.kp (kp_of_below hB13) trivial
        replace bR := bR.kp (kp_of_below hB13) trivial
        replace bQ := bQ.kp (kp_of_below hB13) trivial
        replace HQS := hd (And.intro (Kd.R_below HQS.out.1 hB13) (And.intro (Kd.R_below HQS.out.2.1 hB13) (Kd.R_below HQS.out.2.2 hB13)))
        replace HBr := hd (below_next HBr.out hB13)
        have HQC := hd (And.intro (C_of_R HQS.out.1) (And.intro (C_of_R HQS.out.2.1) (C_of_R HQS.out.2.2)))
        have HE8 := hd hE8
        have hD : Below wc.heap.size wc wc.drew := pw_below_drewN (Below.refl _ _) 1
        have s13 := And.intro bQ.drew.cell bS.drew.cell
        clear hB13 HS11 HBR0 HBM0 HBR HBM hE8
        go_wp2_with fail
        go_region_held3 (fun W => (∀ j, W.cell? ⟨w10.heap.size, j, none⟩ = #[.bool m, .int .u8 ty, .int .u16 sq, .int .u32 ti, .int .u32 ss, .slice D5 l5.length q5, .bool y1, .int .u16 y2, .slice D8 y3.length q8, .slice D9 l9.length q9, .int .u8 pd][j]?) ∧ (∀ j, W.cell? ⟨g, j, none⟩ = #[.bool m, .int .u8 ty, .int .u16 sq, .int .u32 ti, .int .u32 ss, .slice B5 l5.length d5, .bool y1, .int .u16 y2, .slice E8 y3.length s8, .slice B9 l9.length d9, .int .u8 pd][j]?))
          (first | with_reducible exact s13 | with_reducible exact s14 | with_reducible exact s15)
          (first
            | (go_at_call 56; refine (easeldocs_Packet.calls m ty sq ti ss _ _ l5 y1 y2 _ _ y3 _ _ l9 pd m ty sq ti ss l5 y1 y2 y3 l9 pd _ (Kd.C_drew HQC.out.1) hq5 (Kd.C_drew HQC.out.2.1) hq8 (Kd.C_drew HQC.out.2.2) hq9 HQ.out).mono ?_; (rintro e_ w14 ⟨v5, v8, v9, rfl, hF5, hF8, hF9, hB14⟩); obtain ⟨F5, f5, rfl, hf5, hG5⟩ := Kd.R_reads hF5; obtain ⟨F8, f8, rfl, hf8, hG8⟩ := Kd.R_reads hF8; obtain ⟨F9, f9, rfl, hf9, hG9⟩ := Kd.R_reads hF9; have hC14 : Below wc.heap.size wc w14 := below_next hD hB14; have s14 := And.intro (bQ.drew.kp (kp_of_below hB14) trivial).cell (bS.drew.kp (kp_of_below hB14) trivial).cell)
            | (go_at_call 61; refine (r2Same_true k m ty sq ti ss y1 y2 pd F5 B5 F8 E8 F9 B9 f5 d5 f8 s8 f9 d9 l5 y3 l9 _ hG5 (Kd.C_below HR3.out.c5 hC14) hf5 hd5 n5 hG8 (Kd.C_below HE8.out hC14) hf8 hs8 HY.out hG9 (Kd.C_below HR3.out.c9 hC14) hf9 hd9 H9.out).mono ?_; (rintro e_ w15 ⟨rfl, hK15⟩); have hC15 : Below wc.heap.size wc w15 := below_next hC14 hK15.below; have s15 := And.intro (bQ.kp (kp_of_below hC15) trivial).cell (bS.kp (kp_of_below hC15) trivial).cell))
        replace bQ := bQ.kp (kp_of_below hC15) trivial
        replace HQS := hd (And.intro (Kd.R_below HQS.out.1 hC15) (And.intro (Kd.R_below HQS.out.2.1 hC15) (Kd.R_below HQS.out.2.2 hC15)))
        replace HBr := hd (below_next HBr.out hC15)
        clear hF5 hF8 hF9 hB14 hG5 hG8 hG9 hC14 s14 hK15 hC15 s15 s13 HQC HE8 hD bS HP3 bP bM HR3 bR
        have cQ := bQ.cell
        go_wp2_with fail
        refine (easeldocs_SpoilPacket.calls k m ty sq ti ss (fun k_ => (Value.slice D5 l5.length q5).ownBlock = some k_) _ l5 y1 y2 (fun k_ => (Value.slice D8 y3.length q8).ownBlock = some k_) _ y3 (fun k_ => (Value.slice D9 l9.length q9).ownBlock = some k_) _ l9 pd z1 z2 z3 wr w15 HBr.out (R_self HQS.out.1) (R_self HQS.out.2.1) (fun k_ h8 h9 => HQS.out.2.1.1 k_ h8 h9.symm) (R_self HQS.out.2.2) (fun k_ h9 h8 => HQS.out.2.2.1 k_ h9 h8.symm) HZ.out).mono ?_
        rintro e_ w16 ⟨rfl, _, _, _, hB16, _⟩
        have HP3 := hd (HPr.out.below hB16)
        have HR3 := hd (HRr.out.below hB16)
        have bP := HbP.out.kp (kp_of_below hB16) trivial
        have bR := HbR.out.kp (kp_of_below hB16) trivial
        have HBs := hd hB16
        have s16 := And.intro bP.drew.cell bR.drew.cell
        have hD : Below w16.heap.size w16 w16.drew := pw_below_drewN (Below.refl _ _) 1
        clear HBr hB16 cQ bQ HQS
        go_wp2_with fail
        go_region_held3 (fun W => (∀ j, W.cell? ⟨w.heap.size, j, none⟩ = #[.bool m, .int .u8 ty, .int .u16 sq, .int .u32 ti, .int .u32 ss, .slice A5 l5.length c5, .bool hx, .int .u16 pr, .slice A8 l8.length c8, .slice A9 l9.length c9, .int .u8 pd][j]?) ∧ (∀ j, W.cell? ⟨w2.heap.size, j, none⟩ = #[.bool m, .int .u8 ty, .int .u16 sq, .int .u32 ti, .int .u32 ss, .slice B5 l5.length d5, .bool hx, .int .u16 pr, .slice B8 l8.length d8, .slice B9 l9.length d9, .int .u8 pd][j]?))
          (first | with_reducible exact s16 | with_reducible exact s17 | with_reducible exact s18)
          (first
            | (go_at_call 56; refine (easeldocs_Packet.calls m ty sq ti ss _ _ l5 hx pr _ _ l8 _ _ l9 pd m ty sq ti ss l5 hx pr l8 l9 pd _ (Kd.C_drew HP3.out.c5) hc5 (Kd.C_drew HP3.out.c8) hc8 (Kd.C_drew HP3.out.c9) hc9 HPk.out).mono ?_; (rintro e_ w17 ⟨v5, v8, v9, rfl, hF5, hF8, hF9, hB17⟩); obtain ⟨F5, f5, rfl, hf5, hG5⟩ := Kd.R_reads hF5; obtain ⟨F8, f8, rfl, hf8, hG8⟩ := Kd.R_reads hF8; obtain ⟨F9, f9, rfl, hf9, hG9⟩ := Kd.R_reads hF9; have hC17 : Below w16.heap.size w16 w17 := below_next hD hB17; have s17 := And.intro (bP.drew.kp (kp_of_below hB17) trivial).cell (bR.drew.kp (kp_of_below hB17) trivial).cell)
            | (go_at_call 61; refine (r2Same_true k m ty sq ti ss hx pr pd F5 B5 F8 B8 F9 B9 f5 d5 f8 d8 f9 d9 l5 l8 l9 _ hG5 (Kd.C_below HR3.out.c5 hC17) hf5 hd5 n5 hG8 (Kd.C_below HR3.out.c8 hC17) hf8 hd8 H8.out hG9 (Kd.C_below HR3.out.c9 hC17) hf9 hd9 H9.out).mono ?_; (rintro e_ w18 ⟨rfl, hK18⟩); have hC18 : Below w16.heap.size w16 w18 := below_next hC17 hK18.below; have s18 := And.intro (bP.kp (kp_of_below hC18) trivial).cell (bR.kp (kp_of_below hC18) trivial).cell))
        replace HBs := hd (below_next HBs.out hC18)
        clear hF5 hF8 hF9 hB17 hG5 hG8 hG9 hC17 s17 hK18 hC18 s18 s16 hD HP3 bP HR3 bR
        go_wp2
        go_roundw
        case rel => exact ⟨j + 1, by omega, by go_num, below_next hBr HBs.out⟩
        case measure => simp [intOf]; omega
    · go_wp2_with fail
      refine (l4_works.calls true _ rfl).mono ?_
      rintro e_ w19 ⟨rfl, hB19⟩
      go_wp2
      go_ret
      exact ⟨rfl, below_next (below_next HB.out hBr) hB19⟩
end Go.Proofs.Ytjcejgolcdgipaa.K4
