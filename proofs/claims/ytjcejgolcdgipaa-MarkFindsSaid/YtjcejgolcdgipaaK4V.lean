/- Chapter 04: easelref04.With, which reads its packet; over the printed contracts. -/
import Derived.Test.YtjcejgolcdgipaaK4F
import Derived.Test.YtjcejgolcdgipaaK4x9
import Derived.Test.YtjcejgolcdgipaaK4x10
namespace Go.Proofs.Ytjcejgolcdgipaa.K4
open Go.RowKit Go.Proofs.YtjcejgolcdgipaaW.PrintWords Go.Proofs.YtjcejgolcdgipaaW.PrintLast Go.Proofs.YtjcejgolcdgipaaW.PrintMore
set_option linter.unusedVariables false
set_option linter.unusedSimpArgs false

/-- A row of one element, which lies in a block of its own. -/
theorem C_row1 {w : World} {g : Nat} {t : TypeId} {id : Int} {l : List Int} {A : Option Addr} {c : Nat} (hB : Blk w g t #[.int .u8 id, .slice A l.length c]) (hc : l.length ≤ c) (hC : Kd.C (Kd.int .u8) w A l.length l) :
    Kd.C k164 w (some ⟨g, 0, none⟩) [(⟨id, l⟩ : S164)].length [(⟨id, l⟩ : S164)] := by
  refine ⟨rfl, by simp, fun _ => ⟨_, rfl, fun j p hj => ?_⟩⟩
  have hj0 : j = 0 := by
    have := (List.getElem?_eq_some_iff.1 hj).1
    simp at this
    exact this
  subst hj0
  have hp : p = ⟨id, l⟩ := by simpa using hj.symm
  subst hp
  refine ⟨[.int .u8 id, .slice A l.length c], rfl, k164_mk _ ⟨id, l⟩ hc hC, fun i u hu => ?_⟩
  have hz : 0 * k164.sz = 0 := Nat.zero_mul _
  rw [Addr.add_lit, hz, hB.cell]
  simpa using hu

def r4With.f (k : Nat) (a0_0 : Bool) (a0_1 : Int) (a0_2 : Int) (a0_3 : Int) (a0_4 : Int) (l0_5 : List Int) (a0_6 : Bool) (a0_7 : Int) (l0_8 : List Int) (l0_9 : List Int) (a0_10 : Int) (a1 : Int) (a2_0 : Bool) (a2_1 : Bool) (a2_2 : Bool) (a2_3 : Bool) (a2_4 : Bool) (a2_5 : Bool) (a2_6 : Int) (a2_7 : Int) (a2_8 : Int) : Option (Bool × Int × List Int × Int) :=
  (r4_Put.f a2_0 a2_1 a2_2 a2_3 a2_4 a2_5 a2_6 a2_7 a2_8).bind fun b =>
  if b.2 = 0 then (easelref03_Form.f k [⟨a1, b.1⟩]).bind fun p =>
    if p.2 = true then (easelref03_Put.f k p.1 [⟨a1, b.1⟩]).bind fun x => some (true, p.1, x.1, 0)
    else some (a0_6, a0_7, l0_8, 40)
  else some (a0_6, a0_7, l0_8, b.2)
set_option maxHeartbeats 2000000 in
set_option maxRecDepth 100000 in
theorem r4With.calls2 (k : Nat) (a0_0 : Bool) (a0_1 : Int) (a0_2 : Int) (a0_3 : Int) (a0_4 : Int) (A0_5 : Option Addr) (n5 c0_5 : Nat) (a0_6 : Bool) (a0_7 : Int) (A0_8 : Option Addr) (c0_8 : Nat) (l0_5 l0_8 l0_9 : List Int) (A0_9 : Option Addr) (n9 c0_9 : Nat) (a0_10 : Int) (a1 : Int) (a2_0 : Bool) (a2_1 : Bool) (a2_2 : Bool) (a2_3 : Bool) (a2_4 : Bool) (a2_5 : Bool) (a2_6 : Int) (a2_7 : Int) (a2_8 : Int) (r7 : Bool) (r8 : Int) (r9 : List Int) (r12 : Int) (w : World) (hr0_8 : Kd.C (Kd.int .u8) w A0_8 l0_8.length l0_8) (hc0_8 : l0_8.length ≤ c0_8) (h : r4With.f k a0_0 a0_1 a0_2 a0_3 a0_4 l0_5 a0_6 a0_7 l0_8 l0_9 a0_10 a1 a2_0 a2_1 a2_2 a2_3 a2_4 a2_5 a2_6 a2_7 a2_8 = some (r7, r8, r9, r12)) :
    Calls Try.prog 60 #[.agg #[.bool a0_0, .int .u8 a0_1, .int .u16 a0_2, .int .u32 a0_3, .int .u32 a0_4, .slice A0_5 n5 c0_5, .bool a0_6, .int .u16 a0_7, .slice A0_8 l0_8.length c0_8, .slice A0_9 n9 c0_9, .int .u8 a0_10], .int .u8 a1, .agg #[.bool a2_0, .bool a2_1, .bool a2_2, .bool a2_3, .bool a2_4, .bool a2_5, .int .u8 a2_6, .int .u8 a2_7, .int .u8 a2_8]] w fun e w' => ∃ A8 c8, e = .returned (.tuple #[.agg #[.bool a0_0, .int .u8 a0_1, .int .u16 a0_2, .int .u32 a0_3, .int .u32 a0_4, .slice A0_5 n5 c0_5, .bool r7, .int .u16 r8, .slice A8 r9.length c8, .slice A0_9 n9 c0_9, .int .u8 a0_10], .int .i64 r12]) ∧ r9.length ≤ c8 ∧ Kd.C (Kd.int .u8) w' A8 r9.length r9 ∧ Below w.heap.size w w' ∧ ((A8 = A0_8 ∧ r9 = l0_8) ∨ ∃ e, Kd.R (Kd.int .u8) e w' w.heap.size (fun _ => True) (.slice A8 r9.length c8) r9) := by
  have HR8 := hd hr0_8
  have H := hd h
  clear h hr0_8
  unfold r4With.f at H
  obtain ⟨b, hb, h2⟩ := Option.bind_eq_some_iff.1 H.out
  clear H
  obtain ⟨b1, b2⟩ := b
  have HB := hd hb
  have H2 := hd h2
  clear hb h2
  go_enter Try.func60, Try.ntmps60
  go_wp2_with fail
  obtain ⟨w0, hw0⟩ : ∃ w0, w0 = (((w.alloc (.cells #[.bool a0_0, .int .u8 a0_1, .int .u16 a0_2, .int .u32 a0_3, .int .u32 a0_4, .slice A0_5 n5 c0_5, .bool a0_6, .int .u16 a0_7, .slice A0_8 l0_8.length c0_8, .slice A0_9 n9 c0_9, .int .u8 a0_10] 100)).alloc (.cells #[.bool a2_0, .bool a2_1, .bool a2_2, .bool a2_3, .bool a2_4, .bool a2_5, .int .u8 a2_6, .int .u8 a2_7, .int .u8 a2_8] 87)).alloc (.cells #[.bool false, .int .u8 0, .int .u16 0, .int .u32 0, .int .u32 0, .slice none 0 0, .bool false, .int .u16 0, .slice none 0 0, .slice none 0 0, .int .u8 0] 100)) := ⟨_, rfl⟩
  have hB0 : Below w.heap.size w w0 := hw0 ▸ (((Below.refl _ _).alloc (Nat.le_refl _) _).alloc (by simp) _).alloc (by simp; omega) _
  have hQ0 : Blk w0 w.heap.size 100 #[.bool a0_0, .int .u8 a0_1, .int .u16 a0_2, .int .u32 a0_3, .int .u32 a0_4, .slice A0_5 n5 c0_5, .bool a0_6, .int .u16 a0_7, .slice A0_8 l0_8.length c0_8, .slice A0_9 n9 c0_9, .int .u8 a0_10] := hw0 ▸ ((Blk.new w _ _).alloc _).alloc _
  have hZ0 : Blk w0 (w.heap.size + 1 + 1) 100 #[.bool false, .int .u8 0, .int .u16 0, .int .u32 0, .int .u32 0, .slice none 0 0, .bool false, .int .u16 0, .slice none 0 0, .slice none 0 0, .int .u8 0] := by
    rw [hw0]
    have := (Blk.new ((w.alloc (.cells #[.bool a0_0, .int .u8 a0_1, .int .u16 a0_2, .int .u32 a0_3, .int .u32 a0_4, .slice A0_5 n5 c0_5, .bool a0_6, .int .u16 a0_7, .slice A0_8 l0_8.length c0_8, .slice A0_9 n9 c0_9, .int .u8 a0_10] 100)).alloc (.cells #[.bool a2_0, .bool a2_1, .bool a2_2, .bool a2_3, .bool a2_4, .bool a2_5, .int .u8 a2_6, .int .u8 a2_7, .int .u8 a2_8] 87)) 100 #[.bool false, .int .u8 0, .int .u16 0, .int .u32 0, .int .u32 0, .slice none 0 0, .bool false, .int .u16 0, .slice none 0 0, .slice none 0 0, .int .u8 0])
    simp only [World.size_alloc] at this
    exact this
  have hs0 : w0.heap.size = w.heap.size + 1 + 1 + 1 := by rw [hw0]; simp
  rw [← hw0]
  clear hw0
  refine (r4_Put.calls a2_0 a2_1 a2_2 a2_3 a2_4 a2_5 a2_6 a2_7 a2_8 b1 b2 _ HB.out).mono ?_
  rintro e w2 ⟨vb, rfl, hRb, hBb⟩
  obtain ⟨Ab, cb, rfl, hlb, hCb⟩ := Kd.R_reads hRb
  have hKb := kp_of_below hBb
  have hQ2 := hQ0.kp hKb trivial
  have hZ2 := hZ0.kp hKb trivial
  have hB2 : Below w.heap.size w w2 := hB0.trans (hBb.mono hB0.size)
  have HRb := hd (R_lt hRb)
  have hs2 : w0.heap.size ≤ w2.heap.size := hBb.size
  clear hRb hBb hKb hB0 hQ0 hZ0
  by_cases hb2 : b2 = 0
  · have H3 := H2.out
    rw [if_pos hb2] at H3
    obtain ⟨p, hp, h4⟩ := Option.bind_eq_some_iff.1 H3
    obtain ⟨p1, p2⟩ := p
    subst hb2
    clear H3 H2
    have HP := hd hp
    have H4 := hd h4
    clear hp h4
    go_wp2_with fail
    have hC3 := C_row1 (Blk.new w2 164 #[.int .u8 a1, .slice Ab b1.length cb]) hlb (C_alloc _ hCb)
    refine (easelref03_Form.calls k _ _ [⟨a1, b1⟩] p1 p2 _ hC3 (Nat.le_refl _) HP.out).mono ?_
    rintro e w4 ⟨rfl, hB4⟩
    have hB24 : Below w2.heap.size w2 w4 := ((Below.refl _ _).alloc (Nat.le_refl _) _).trans (hB4.mono (by simp))
    have hE4 := (Blk.new w2 164 #[.int .u8 a1, .slice Ab b1.length cb]).kp (kp_of_below hB4) trivial
    replace hQ2 := hQ2.kp (kp_of_below hB24) trivial
    replace hZ2 := hZ2.kp (kp_of_below hB24) trivial
    replace hB2 := hB2.trans (hB24.mono hB2.size)
    replace HRb := hd (Kd.R_below HRb.out hB24)
    have hs4 : w2.heap.size ≤ w4.heap.size := hB24.size
    clear hB4 hB24 hC3 hCb
    cases p2
    · have H5 := H4.out
      simp only [Bool.false_eq_true, if_false, Option.some.injEq, Prod.mk.injEq] at H5
      obtain ⟨rfl, rfl, rfl, rfl⟩ := H5
      clear H4
      have fZ := hZ2.frozen
      have cZ := hZ2.cell
      have cQ := hQ2.cell
      have hBF := below_kp hB2 (st11_kp w4 (w.heap.size + 1 + 1) (.bool a0_0) (.int .u8 a0_1) (.int .u16 a0_2) (.int .u32 a0_3) (.int .u32 a0_4) (.slice A0_5 n5 c0_5) (.bool a0_6) (.int .u16 a0_7) (.slice A0_8 l0_8.length c0_8) (.slice A0_9 n9 c0_9) (.int .u8 a0_10)) (fun k hk => by omega)
      go_wp2
      exact bodyPost_ret (results_ct rfl _ _ (w.heap.size + 1 + 1) 100 _ (0, 0) _ rfl (st11_blk hZ2 _ _ _ _ _ _ _ _ _ _ _) Try.underlying100 rfl (by kernel_rfl)) rfl
        ⟨_, _, rfl, hc0_8, Kd.C_below HR8.out hBF, hBF, .inl (by simp)⟩
    · obtain ⟨x, hx, h6⟩ := Option.bind_eq_some_iff.1 (by simpa using H4.out)
      obtain ⟨x1, x2⟩ := x
      simp only [Option.some.injEq, Prod.mk.injEq] at h6
      obtain ⟨rfl, rfl, rfl, rfl⟩ := h6
      have HX := hd hx
      clear H4 hx
      have fQ0 := hQ2.frozen
      have cQ0 := hQ2.cell
      have hQ5 := (hQ2.set 6 (.bool true)).set 7 (.int .u16 p1)
      simp only [List.setIfInBounds_toArray, List.set_cons_zero, List.set_cons_succ] at hQ5
      have HKs := hd hQ5
      clear hQ5
      go_upto_region 10 with (fail)
      obtain ⟨w5, hw5⟩ : ∃ w5, w5 = (w4.setCell ⟨w.heap.size, 6, none⟩ (.bool true)).setCell ⟨w.heap.size, 7, none⟩ (.int .u16 p1) := ⟨_, rfl⟩
      have hKs : Kp (· ≠ w.heap.size) w4 w5 := hw5 ▸ (Kp.refl _ _).set_.set_
      have hE5 := hE4.kp hKs (by omega)
      have hQ5 : Blk w5 w.heap.size 100 #[.bool a0_0, .int .u8 a0_1, .int .u16 a0_2, .int .u32 a0_3, .int .u32 a0_4, .slice A0_5 n5 c0_5, .bool true, .int .u16 p1, .slice A0_8 l0_8.length c0_8, .slice A0_9 n9 c0_9, .int .u8 a0_10] := hw5 ▸ HKs.out
      clear fQ0 cQ0
      have cQ := hQ5.cell
      have fQ := hQ5.frozen
      rw [← hw5]
      clear hw5
      replace hZ2 := hZ2.kp hKs (by omega)
      have hC5 : Kd.C (Kd.int .u8) w5 Ab b1.length b1 := C_of_R (R_kp (ok' := fun _ => True) HRb.out (Nat.le_refl _) hKs (fun k _ hk => by omega) (fun _ _ => trivial))
      go_wp2_with fail
      refine (easelref03_Put.calls k p1 _ _ [⟨a1, b1⟩] x1 x2 _ (C_row1 hE5 hlb hC5) (Nat.le_refl _) HX.out).mono ?_
      rintro e w6 ⟨vx, rfl, hRx, hB6⟩
      obtain ⟨Ax, cx, rfl, hlx, _⟩ := Kd.R_reads hRx
      have hK6 := kp_of_below hB6
      have hQ6 := hQ5.kp hK6 trivial
      have hZ6 := hZ2.kp hK6 trivial
      have hs6 : w5.heap.size ≤ w6.heap.size := hB6.size
      have hs45 : w4.heap.size ≤ w5.heap.size := hKs.size
      have HK6 := hd hK6
      clear cQ fQ hK6 hB6
      have cQ := hQ6.cell
      have fQ := hQ6.frozen
      go_upto_region 11 with (fail)
      obtain ⟨w7, hw7⟩ : ∃ w7, w7 = w6.setCell ⟨w.heap.size, 8, none⟩ (.slice Ax x1.length cx) := ⟨_, rfl⟩
      have hK7 : Kp (· ≠ w.heap.size) w6 w7 := hw7 ▸ (Kp.refl _ _).set_
      have hQ7 : Blk w7 w.heap.size 100 #[.bool a0_0, .int .u8 a0_1, .int .u16 a0_2, .int .u32 a0_3, .int .u32 a0_4, .slice A0_5 n5 c0_5, .bool true, .int .u16 p1, .slice Ax x1.length cx, .slice A0_9 n9 c0_9, .int .u8 a0_10] := by
        have := hQ6.set 8 (.slice Ax x1.length cx)
        simp only [List.setIfInBounds_toArray, List.set_cons_zero, List.set_cons_succ] at this
        rw [hw7]
        exact this
      have hZ7 := hZ6.kp hK7 (by omega)
      rw [← hw7]
      clear hw7 cQ fQ
      have fZ := hZ7.frozen
      have cZ := hZ7.cell
      have cQ := hQ7.cell
      have hKF : Kp (· ≠ w.heap.size) w5 w7 := (HK6.out.mono (fun _ _ _ => trivial)).trans hK7
      go_wp2
      have hx8 := R_kp (ok' := fun _ => True) hRx (Nat.le_refl _) hK7 (fun k _ hk => by omega) (fun _ _ => trivial)
      have hB7 : Below w.heap.size w w7 := below_kp (below_kp hB2 hKs (fun k hk => by omega)) hKF (fun k hk => by omega)
      exact bodyPost_ret (results_ct rfl _ _ (w.heap.size + 1 + 1) 100 _ (0, 0) _ rfl (st11_blk hZ7 _ _ _ _ _ _ _ _ _ _ _) Try.underlying100 rfl (by kernel_rfl)) rfl
        ⟨_, _, rfl, hlx, C_of_R (R_kp (ok' := fun _ => True) hx8 (Nat.le_refl _) (st11_kp _ _ _ _ _ _ _ _ _ _ _ _ _) (fun k _ hk => by omega) (fun _ _ => trivial)), below_kp hB7 (st11_kp _ _ _ _ _ _ _ _ _ _ _ _ _) (fun k hk => by omega), .inr ⟨_, R_kp (ok' := fun _ => True) hx8 (by omega) (st11_kp _ _ _ _ _ _ _ _ _ _ _ _ _) (fun k _ hk => by omega) (fun _ _ => trivial)⟩⟩
  · have H3 := H2.out
    rw [if_neg hb2] at H3
    simp only [Option.some.injEq, Prod.mk.injEq] at H3
    obtain ⟨rfl, rfl, rfl, rfl⟩ := H3
    clear H2
    have g0 : ((b2 : Int) != 0) = true := by rw [bne_iff_ne]; exact hb2
    have fZ := hZ2.frozen
    have cZ := hZ2.cell
    have cQ := hQ2.cell
    have hBF := below_kp hB2 (st11_kp w2 (w.heap.size + 1 + 1) (.bool a0_0) (.int .u8 a0_1) (.int .u16 a0_2) (.int .u32 a0_3) (.int .u32 a0_4) (.slice A0_5 n5 c0_5) (.bool a0_6) (.int .u16 a0_7) (.slice A0_8 l0_8.length c0_8) (.slice A0_9 n9 c0_9) (.int .u8 a0_10)) (fun k hk => by omega)
    go_wp2
    exact bodyPost_ret (results_ct rfl _ _ (w.heap.size + 1 + 1) 100 _ (0, 0) _ rfl (st11_blk hZ2 _ _ _ _ _ _ _ _ _ _ _) Try.underlying100 rfl (by kernel_rfl)) rfl
      ⟨_, _, rfl, hc0_8, Kd.C_below HR8.out hBF, hBF, .inl (by simp)⟩
theorem r4With.calls (k : Nat) (a0_0 : Bool) (a0_1 : Int) (a0_2 : Int) (a0_3 : Int) (a0_4 : Int) (A0_5 : Option Addr) (n5 c0_5 : Nat) (a0_6 : Bool) (a0_7 : Int) (A0_8 : Option Addr) (c0_8 : Nat) (l0_5 l0_8 l0_9 : List Int) (A0_9 : Option Addr) (n9 c0_9 : Nat) (a0_10 : Int) (a1 : Int) (a2_0 : Bool) (a2_1 : Bool) (a2_2 : Bool) (a2_3 : Bool) (a2_4 : Bool) (a2_5 : Bool) (a2_6 : Int) (a2_7 : Int) (a2_8 : Int) (r7 : Bool) (r8 : Int) (r9 : List Int) (r12 : Int) (w : World) (hr0_8 : Kd.C (Kd.int .u8) w A0_8 l0_8.length l0_8) (hc0_8 : l0_8.length ≤ c0_8) (h : r4With.f k a0_0 a0_1 a0_2 a0_3 a0_4 l0_5 a0_6 a0_7 l0_8 l0_9 a0_10 a1 a2_0 a2_1 a2_2 a2_3 a2_4 a2_5 a2_6 a2_7 a2_8 = some (r7, r8, r9, r12)) :
    Calls Try.prog 60 #[.agg #[.bool a0_0, .int .u8 a0_1, .int .u16 a0_2, .int .u32 a0_3, .int .u32 a0_4, .slice A0_5 n5 c0_5, .bool a0_6, .int .u16 a0_7, .slice A0_8 l0_8.length c0_8, .slice A0_9 n9 c0_9, .int .u8 a0_10], .int .u8 a1, .agg #[.bool a2_0, .bool a2_1, .bool a2_2, .bool a2_3, .bool a2_4, .bool a2_5, .int .u8 a2_6, .int .u8 a2_7, .int .u8 a2_8]] w fun e w' => ∃ A8 c8, e = .returned (.tuple #[.agg #[.bool a0_0, .int .u8 a0_1, .int .u16 a0_2, .int .u32 a0_3, .int .u32 a0_4, .slice A0_5 n5 c0_5, .bool r7, .int .u16 r8, .slice A8 r9.length c8, .slice A0_9 n9 c0_9, .int .u8 a0_10], .int .i64 r12]) ∧ r9.length ≤ c8 ∧ Kd.C (Kd.int .u8) w' A8 r9.length r9 ∧ Below w.heap.size w w' :=
  (r4With.calls2 k a0_0 a0_1 a0_2 a0_3 a0_4 A0_5 n5 c0_5 a0_6 a0_7 A0_8 c0_8 l0_5 l0_8 l0_9 A0_9 n9 c0_9 a0_10 a1 a2_0 a2_1 a2_2 a2_3 a2_4 a2_5 a2_6 a2_7 a2_8 r7 r8 r9 r12 w hr0_8 hc0_8 h).mono fun _ _ ⟨A8, c8, h1, h2, h3, h4, _⟩ => ⟨A8, c8, h1, h2, h3, h4⟩
end Go.Proofs.Ytjcejgolcdgipaa.K4
