/- Texts of this session, one behind the other, what the row does not use left out: walks and laws over plain data. -/
import Derived.Test.YtjcejgolcdgipaaPFP8

namespace Go.Proofs.Ytjcejgolcdgipaa.K7
open Go.RowKit Go.Proofs.YtjcejgolcdgipaaW.PrintWords Go.Proofs.YtjcejgolcdgipaaW.PrintLast Go.Proofs.YtjcejgolcdgipaaW.PrintMore
set_option linter.unusedVariables false
instance : DecidableEq S115 := fun a b => decidable_of_iff (a.f0 = b.f0 ∧ a.f1 = b.f1) ⟨fun h => by cases a; cases b; simp_all, fun h => by subst h; exact ⟨rfl, rfl⟩⟩
instance : DecidableEq S119 := fun a b => decidable_of_iff (a.f0 = b.f0 ∧ a.f1 = b.f1) ⟨fun h => by cases a; cases b; simp_all, fun h => by subst h; exact ⟨rfl, rfl⟩⟩
/-- Are two of the reference's messages the same? -/
def rEq (a0 a1 a2 : Int) (a3 : List S115) (a4 : List S119) (a5 a6 : Int) (a7 : List Int) (b0 b1 b2 : Int) (b3 : List S115) (b4 : List S119) (b5 b6 : Int) (b7 : List Int) : Bool := decide (a0 = b0 ∧ a1 = b1 ∧ a2 = b2 ∧ a3 = b3 ∧ a4 = b4 ∧ a5 = b5 ∧ a6 = b6 ∧ a7 = b7)
/-- A step of an equality over two rows of one length. -/
theorem take_ext {α : Type} {a b : List α} {i : Nat} (hi : i < a.length) (hj : i < b.length) (h : a.take i = b.take i) (he : a[i] = b[i]) : a.take (i + 1) = b.take (i + 1) := by
  rw [List.take_succ_eq_append_getElem hi, List.take_succ_eq_append_getElem hj, h, he]
theorem ne_of_at {α : Type} {a b : List α} {i : Nat} (hi : i < a.length) (hj : i < b.length) (he : a[i] ≠ b[i]) : a ≠ b := by
  rintro rfl
  exact he rfl
theorem kp_of_below {w w' : World} (h : Below w.heap.size w w') : Kp (fun _ => True) w w' := Kp.of_below h (fun _ _ hl => hl)
theorem eqRPair (d : Nat) (w : World) (x0 y0 : Int) (x1 y1 : Int) :
    (Op.equalIn (d + 2) 115 (.agg #[.int .u16 x0, .int .u16 x1]) (.agg #[.int .u16 y0, .int .u16 y1])).run Try.prog w = .ok (x0 == y0 && (x1 == y1)) w := by
  refine eqA_of Try.underlying115 (by kernel_rfl) ?_
  refine eqf_cons (by rfl) (by go_simp; rfl) (by go_simp; rfl) (by go_simp) ?_
  exact eqf_last (by rfl) (by go_simp; rfl) (by go_simp; rfl) (by go_simp)
theorem eqROrder (d : Nat) (w : World) (x0 y0 : Int) (x1 y1 : Int) :
    (Op.equalIn (d + 2) 119 (.agg #[.int .u32 x0, .int .u8 x1]) (.agg #[.int .u32 y0, .int .u8 y1])).run Try.prog w = .ok (x0 == y0 && (x1 == y1)) w := by
  refine eqA_of Try.underlying119 (by kernel_rfl) ?_
  refine eqf_cons (by rfl) (by go_simp; rfl) (by go_simp; rfl) (by go_simp) ?_
  exact eqf_last (by rfl) (by go_simp; rfl) (by go_simp; rfl) (by go_simp)
attribute [local go_sem high] eqRPair eqROrder
theorem pair_ne {a b c d : Int} (h : ¬ (a = c ∧ b = d)) : (a == c && (b == d)) = false := by
  rw [Bool.and_eq_false_iff, beq_eq_false_iff_ne, beq_eq_false_iff_ne]
  by_cases e : a = c
  · exact .inr (fun z => h ⟨e, z⟩)
  · exact .inl e
section
variable {w : World} (a0 a1 a2 : Int) {A3 A4 A7 : Option Addr} {c3 c4 c7 : Nat} (a3 : List S115) (a4 : List S119) (a5 a6 : Int) (a7 : List Int) (b0 b1 b2 : Int) {B3 B4 B7 : Option Addr} {d3 d4 d7 : Nat} (b3 : List S115) (b4 : List S119) (b5 b6 : Int) (b7 : List Int)
set_option maxHeartbeats 8000000 in
set_option maxRecDepth 100000 in
theorem r7Same_any (h3 : Kd.C k115 w A3 a3.length a3) (h4 : Kd.C k119 w A4 a4.length a4) (h7 : Kd.C (Kd.int .u32) w A7 a7.length a7) (g3 : Kd.C k115 w B3 b3.length b3) (g4 : Kd.C k119 w B4 b4.length b4) (g7 : Kd.C (Kd.int .u32) w B7 b7.length b7)
    (l3 : a3.length ≤ 1000000) (l4 : a4.length ≤ 1000000) (l7 : a7.length ≤ 1000000) :
    Calls Try.prog 26 #[.agg #[.int .u8 a0, .int .u32 a1, .int .u32 a2, .slice A3 a3.length c3, .slice A4 a4.length c4, .int .u8 a5, .int .u32 a6, .slice A7 a7.length c7], .agg #[.int .u8 b0, .int .u32 b1, .int .u32 b2, .slice B3 b3.length d3, .slice B4 b4.length d4, .int .u8 b5, .int .u32 b6, .slice B7 b7.length d7]] w fun e w' => e = .returned (.bool (rEq a0 a1 a2 a3 a4 a5 a6 a7 b0 b1 b2 b3 b4 b5 b6 b7)) ∧ Below w.heap.size w w' := by
  obtain ⟨w0, hw0⟩ : ∃ w0, w0 = (w.alloc (.cells #[.int .u8 a0, .int .u32 a1, .int .u32 a2, .slice A3 a3.length c3, .slice A4 a4.length c4, .int .u8 a5, .int .u32 a6, .slice A7 a7.length c7] 46)).alloc (.cells #[.int .u8 b0, .int .u32 b1, .int .u32 b2, .slice B3 b3.length d3, .slice B4 b4.length d4, .int .u8 b5, .int .u32 b6, .slice B7 b7.length d7] 46) := ⟨_, rfl⟩
  have hB0 : Below w.heap.size w w0 := hw0 ▸ ((Below.refl _ _).alloc (Nat.le_refl _) _).alloc (by simp) _
  have bA : Blk w0 w.heap.size 46 #[.int .u8 a0, .int .u32 a1, .int .u32 a2, .slice A3 a3.length c3, .slice A4 a4.length c4, .int .u8 a5, .int .u32 a6, .slice A7 a7.length c7] := hw0 ▸ (Blk.new w _ _).alloc _
  have bB : Blk w0 (w.heap.size + 1) 46 #[.int .u8 b0, .int .u32 b1, .int .u32 b2, .slice B3 b3.length d3, .slice B4 b4.length d4, .int .u8 b5, .int .u32 b6, .slice B7 b7.length d7] := by
    have := Blk.new (w.alloc (.cells #[.int .u8 a0, .int .u32 a1, .int .u32 a2, .slice A3 a3.length c3, .slice A4 a4.length c4, .int .u8 a5, .int .u32 a6, .slice A7 a7.length c7] 46)) 46 #[.int .u8 b0, .int .u32 b1, .int .u32 b2, .slice B3 b3.length d3, .slice B4 b4.length d4, .int .u8 b5, .int .u32 b6, .slice B7 b7.length d7]
    rw [World.size_alloc, ← hw0] at this
    exact this
  have H3 := hd (Kd.C_below h3 hB0)
  have H4 := hd (Kd.C_below h4 hB0)
  have H7 := hd (Kd.C_below h7 hB0)
  have G3 := hd (Kd.C_below g3 hB0)
  have G4 := hd (Kd.C_below g4 hB0)
  have G7 := hd (Kd.C_below g7 hB0)
  have HW0 := hd hw0
  have HB := hd hB0
  clear h3 h4 h7 g3 g4 g7 hw0 hB0
  have cA := bA.cell
  have cB := bB.cell
  go_enter Try.func26, Try.ntmps26
  go_upto_region 1 with (fail)
  rw [← HW0.out]
  clear HW0
  obtain ⟨hh, hhd⟩ : ∃ hh, hh = decide (a0 = b0 ∧ a1 = b1 ∧ a2 = b2 ∧ a5 = b5 ∧ a6 = b6 ∧ (a3.length : Int) = b3.length ∧ (a4.length : Int) = b4.length ∧ (a7.length : Int) = b7.length) := ⟨_, rfl⟩
  have HH := hd hhd
  clear hhd
  go_cut [67] (fun v67 wc => v67 = .bool (!hh) ∧ wc = w0)
  case first =>
    by_cases e0 : a0 = b0
    rotate_left
    · have f0 : (a0 != b0) = true := by rw [bne_iff_ne]; exact e0
      have e : hh = false := by rw [HH.out]; exact decide_eq_false (fun z => e0 z.1)
      clear e0
      go_wp2_with fail
      go_meet
      case rel => exact ⟨by rw [e]; rfl, rfl⟩
    have f0 : (a0 != b0) = false := by rw [bne_eq_false_iff_eq]; exact e0
    replace e0 := hd e0
    by_cases e1 : a1 = b1
    rotate_left
    · have f1 : (a1 != b1) = true := by rw [bne_iff_ne]; exact e1
      have e : hh = false := by rw [HH.out]; exact decide_eq_false (fun z => e1 z.2.1)
      clear e1
      go_wp2_with fail
      go_meet
      case rel => exact ⟨by rw [e]; rfl, rfl⟩
    have f1 : (a1 != b1) = false := by rw [bne_eq_false_iff_eq]; exact e1
    replace e1 := hd e1
    by_cases e2 : a2 = b2
    rotate_left
    · have f2 : (a2 != b2) = true := by rw [bne_iff_ne]; exact e2
      have e : hh = false := by rw [HH.out]; exact decide_eq_false (fun z => e2 z.2.2.1)
      clear e2
      go_wp2_with fail
      go_meet
      case rel => exact ⟨by rw [e]; rfl, rfl⟩
    have f2 : (a2 != b2) = false := by rw [bne_eq_false_iff_eq]; exact e2
    replace e2 := hd e2
    by_cases e3 : a5 = b5
    rotate_left
    · have f3 : (a5 != b5) = true := by rw [bne_iff_ne]; exact e3
      have e : hh = false := by rw [HH.out]; exact decide_eq_false (fun z => e3 z.2.2.2.1)
      clear e3
      go_wp2_with fail
      go_meet
      case rel => exact ⟨by rw [e]; rfl, rfl⟩
    have f3 : (a5 != b5) = false := by rw [bne_eq_false_iff_eq]; exact e3
    replace e3 := hd e3
    by_cases e4 : a6 = b6
    rotate_left
    · have f4 : (a6 != b6) = true := by rw [bne_iff_ne]; exact e4
      have e : hh = false := by rw [HH.out]; exact decide_eq_false (fun z => e4 z.2.2.2.2.1)
      clear e4
      go_wp2_with fail
      go_meet
      case rel => exact ⟨by rw [e]; rfl, rfl⟩
    have f4 : (a6 != b6) = false := by rw [bne_eq_false_iff_eq]; exact e4
    replace e4 := hd e4
    by_cases e5 : (a3.length : Int) = (b3.length : Int)
    rotate_left
    · have f5 : ((a3.length : Int) != (b3.length : Int)) = true := by rw [bne_iff_ne]; exact e5
      have e : hh = false := by rw [HH.out]; exact decide_eq_false (fun z => e5 z.2.2.2.2.2.1)
      clear e5
      go_wp2_with fail
      go_meet
      case rel => exact ⟨by rw [e]; rfl, rfl⟩
    have f5 : ((a3.length : Int) != (b3.length : Int)) = false := by rw [bne_eq_false_iff_eq]; exact e5
    replace e5 := hd e5
    by_cases e6 : (a4.length : Int) = (b4.length : Int)
    rotate_left
    · have f6 : ((a4.length : Int) != (b4.length : Int)) = true := by rw [bne_iff_ne]; exact e6
      have e : hh = false := by rw [HH.out]; exact decide_eq_false (fun z => e6 z.2.2.2.2.2.2.1)
      clear e6
      go_wp2_with fail
      go_meet
      case rel => exact ⟨by rw [e]; rfl, rfl⟩
    have f6 : ((a4.length : Int) != (b4.length : Int)) = false := by rw [bne_eq_false_iff_eq]; exact e6
    replace e6 := hd e6
    by_cases e7 : (a7.length : Int) = (b7.length : Int)
    rotate_left
    · have f7 : ((a7.length : Int) != (b7.length : Int)) = true := by rw [bne_iff_ne]; exact e7
      have e : hh = false := by rw [HH.out]; exact decide_eq_false (fun z => e7 z.2.2.2.2.2.2.2)
      clear e7
      go_wp2_with fail
      go_meet
      case rel => exact ⟨by rw [e]; rfl, rfl⟩
    have f7 : ((a7.length : Int) != (b7.length : Int)) = false := by rw [bne_eq_false_iff_eq]; exact e7
    replace e7 := hd e7
    have e : hh = true := by rw [HH.out]; exact decide_eq_true ⟨e0.out, e1.out, e2.out, e3.out, e4.out, e5.out, e6.out, e7.out⟩
    go_wp2_with fail
    go_meet
    case rel => exact ⟨by rw [e]; rfl, rfl⟩
  case rest =>
    obtain ⟨rfl, hwc⟩ := hcut
    obtain rfl : w0 = wc := hwc.symm
    clear hwc
    cases hh
    · have HR : Hd (rEq a0 a1 a2 a3 a4 a5 a6 a7 b0 b1 b2 b3 b4 b5 b6 b7 = false) := hd (decide_eq_false (fun z => by
        obtain ⟨z0, z1, z2, z3, z4, z5, z6, z7⟩ := z
        have := of_decide_eq_false HH.out.symm
        exact this ⟨z0, z1, z2, z5, z6, by rw [z3], by rw [z4], by rw [z7]⟩))
      clear cA cB
      go_wp2
      go_ret
      exact ⟨by rw [HR.out]; rfl, HB.out⟩
    · obtain ⟨e0, e1, e2, e5, e6, e3, e4, e7⟩ := of_decide_eq_true HH.out.symm
      have k3 : a3.length = b3.length := by omega
      have k4 : a4.length = b4.length := by omega
      have k7 : a7.length = b7.length := by omega
      have E0 := hd (And.intro e0 (And.intro e1 (And.intro e2 (And.intro e5 e6))))
      clear e0 e1 e2 e5 e6 e3 e4 e7 HH
      go_wp2
      go_loopw [5] (fun iv wr => ∃ i : Nat, i ≤ a3.length ∧ iv = .int .i64 i ∧ a3.take i = b3.take i ∧ Below w0.heap.size w0 wr) (fun iv _ => a3.length - (intOf iv).toNat)
      case atStart => exact ⟨0, Nat.zero_le _, rfl, rfl, Below.refl _ _⟩
      case round =>
        obtain ⟨i, hi, rfl, ht, hBr⟩ := hrel
        obtain ⟨wr0, hwr⟩ : ∃ z, z = wr := ⟨_, rfl⟩
        rw [← hwr] at hBr ⊢
        clear hwr wr
        replace H3 := hd (Kd.C_below H3.out hBr)
        replace H4 := hd (Kd.C_below H4.out hBr)
        replace H7 := hd (Kd.C_below H7.out hBr)
        replace G3 := hd (Kd.C_below G3.out hBr)
        replace G4 := hd (Kd.C_below G4.out hBr)
        replace G7 := hd (Kd.C_below G7.out hBr)
        replace bA := bA.kp (kp_of_below hBr) trivial
        replace bB := bB.kp (kp_of_below hBr) trivial
        replace HB : Hd (Below w.heap.size w wr0) := hd (HB.out.trans (hBr.mono HB.out.size))
        have cA := bA.cell
        have cB := bB.cell
        by_cases hlt : i < a3.length
        · have hlt2 : i < b3.length := by omega
          have hx := List.getElem?_eq_getElem hlt
          have hy := List.getElem?_eq_getElem hlt2
          have hn := ne_of_at (a := a3) (b := b3) hlt hlt2
          have hs := take_ext (a := a3) (b := b3) hlt hlt2 ht
          obtain ⟨bx, ox, rfl, _, cx0, cx1⟩ := C2_at rfl _ _ (fun h => k115_open h) H3.out i _ hx hlt
          obtain ⟨by_, oy, rfl, _, cy0, cy1⟩ := C2_at rfl _ _ (fun h => k115_open h) G3.out i _ hy hlt2
          generalize a3[i] = x at *
          generalize b3[i] = y at *
          obtain ⟨x0, x1⟩ := x
          obtain ⟨y0, y1⟩ := y
          simp only at cx0 cx1 cy0 cy1
          by_cases he : x0 = y0 ∧ x1 = y1
          · have hs' := hd (hs (by rw [he.1, he.2]))
            have hb : (x0 == y0 && (x1 == y1)) = true := by rw [he.1, he.2]; simp
            clear he hn hs hx hy ht
            go_wp2_with fail
            go_quiet (fail)
            go_wp2
            go_roundw
            case rel => exact ⟨i + 1, by omega, by go_num, hs'.out, hBr.trans ((pw_below_drewN (Below.refl _ _) _).mono hBr.size)⟩
            case measure => simp [intOf]; omega
          · have hb : (x0 == y0 && (x1 == y1)) = false := pair_ne he
            have HR : Hd (rEq a0 a1 a2 a3 a4 a5 a6 a7 b0 b1 b2 b3 b4 b5 b6 b7 = false) := hd (decide_eq_false (fun z => (hn (fun z => by injection z with z0 z1; exact he ⟨z0, z1⟩)) z.2.2.2.1))
            clear he hn hs hx hy ht
            go_wp2_with fail
            go_quiet (fail)
            go_wp2
            go_ret
            exact ⟨by rw [HR.out]; rfl, HB.out.trans ((by first | exact pw_below_drewN (Below.refl _ _) _ | exact Below.refl _ _ : Below wr0.heap.size wr0 _).mono HB.out.size)⟩
        · obtain rfl : i = a3.length := by omega
          have E3 := hd (show a3 = b3 by rw [List.take_of_length_le (Nat.le_refl _), List.take_of_length_le (by omega)] at ht; exact ht)
          clear ht hi hlt hBr
          go_wp2
          go_loopw [6] (fun iv wr => ∃ i : Nat, i ≤ a4.length ∧ iv = .int .i64 i ∧ a4.take i = b4.take i ∧ Below wr0.heap.size wr0 wr) (fun iv _ => a4.length - (intOf iv).toNat)
          case atStart => exact ⟨0, Nat.zero_le _, rfl, rfl, Below.refl _ _⟩
          case round =>
            obtain ⟨i, hi, rfl, ht, hBr⟩ := hrel
            obtain ⟨wr1, hwr⟩ : ∃ z, z = wr := ⟨_, rfl⟩
            rw [← hwr] at hBr ⊢
            clear hwr wr
            replace H3 := hd (Kd.C_below H3.out hBr)
            replace H4 := hd (Kd.C_below H4.out hBr)
            replace H7 := hd (Kd.C_below H7.out hBr)
            replace G3 := hd (Kd.C_below G3.out hBr)
            replace G4 := hd (Kd.C_below G4.out hBr)
            replace G7 := hd (Kd.C_below G7.out hBr)
            replace bA := bA.kp (kp_of_below hBr) trivial
            replace bB := bB.kp (kp_of_below hBr) trivial
            replace HB : Hd (Below w.heap.size w wr1) := hd (HB.out.trans (hBr.mono HB.out.size))
            have cA := bA.cell
            have cB := bB.cell
            by_cases hlt : i < a4.length
            · have hlt2 : i < b4.length := by omega
              have hx := List.getElem?_eq_getElem hlt
              have hy := List.getElem?_eq_getElem hlt2
              have hn := ne_of_at (a := a4) (b := b4) hlt hlt2
              have hs := take_ext (a := a4) (b := b4) hlt hlt2 ht
              obtain ⟨bx, ox, rfl, _, cx0, cx1⟩ := C2_at rfl _ _ (fun h => k119_open h) H4.out i _ hx hlt
              obtain ⟨by_, oy, rfl, _, cy0, cy1⟩ := C2_at rfl _ _ (fun h => k119_open h) G4.out i _ hy hlt2
              generalize a4[i] = x at *
              generalize b4[i] = y at *
              obtain ⟨x0, x1⟩ := x
              obtain ⟨y0, y1⟩ := y
              simp only at cx0 cx1 cy0 cy1
              by_cases he : x0 = y0 ∧ x1 = y1
              · have hs' := hd (hs (by rw [he.1, he.2]))
                have hb : (x0 == y0 && (x1 == y1)) = true := by rw [he.1, he.2]; simp
                clear he hn hs hx hy ht
                go_wp2_with fail
                go_quiet (fail)
                go_wp2
                go_roundw
                case rel => exact ⟨i + 1, by omega, by go_num, hs'.out, hBr.trans ((pw_below_drewN (Below.refl _ _) _).mono hBr.size)⟩
                case measure => simp [intOf]; omega
              · have hb : (x0 == y0 && (x1 == y1)) = false := pair_ne he
                have HR : Hd (rEq a0 a1 a2 a3 a4 a5 a6 a7 b0 b1 b2 b3 b4 b5 b6 b7 = false) := hd (decide_eq_false (fun z => (hn (fun z => by injection z with z0 z1; exact he ⟨z0, z1⟩)) z.2.2.2.2.1))
                clear he hn hs hx hy ht
                go_wp2_with fail
                go_quiet (fail)
                go_wp2
                go_ret
                exact ⟨by rw [HR.out]; rfl, HB.out.trans ((by first | exact pw_below_drewN (Below.refl _ _) _ | exact Below.refl _ _ : Below wr1.heap.size wr1 _).mono HB.out.size)⟩
            · obtain rfl : i = a4.length := by omega
              have E4 := hd (show a4 = b4 by rw [List.take_of_length_le (Nat.le_refl _), List.take_of_length_le (by omega)] at ht; exact ht)
              clear ht hi hlt hBr
              go_wp2
              go_loopw [7] (fun iv wr => ∃ i : Nat, i ≤ a7.length ∧ iv = .int .i64 i ∧ a7.take i = b7.take i ∧ Below wr1.heap.size wr1 wr) (fun iv _ => a7.length - (intOf iv).toNat)
              case atStart => exact ⟨0, Nat.zero_le _, rfl, rfl, Below.refl _ _⟩
              case round =>
                obtain ⟨i, hi, rfl, ht, hBr⟩ := hrel
                obtain ⟨wr2, hwr⟩ : ∃ z, z = wr := ⟨_, rfl⟩
                rw [← hwr] at hBr ⊢
                clear hwr wr
                replace H3 := hd (Kd.C_below H3.out hBr)
                replace H4 := hd (Kd.C_below H4.out hBr)
                replace H7 := hd (Kd.C_below H7.out hBr)
                replace G3 := hd (Kd.C_below G3.out hBr)
                replace G4 := hd (Kd.C_below G4.out hBr)
                replace G7 := hd (Kd.C_below G7.out hBr)
                replace bA := bA.kp (kp_of_below hBr) trivial
                replace bB := bB.kp (kp_of_below hBr) trivial
                replace HB : Hd (Below w.heap.size w wr2) := hd (HB.out.trans (hBr.mono HB.out.size))
                have cA := bA.cell
                have cB := bB.cell
                by_cases hlt : i < a7.length
                · have hlt2 : i < b7.length := by omega
                  have hx := List.getElem?_eq_getElem hlt
                  have hy := List.getElem?_eq_getElem hlt2
                  have hn := ne_of_at (a := a7) (b := b7) hlt hlt2
                  have hs := take_ext (a := a7) (b := b7) hlt hlt2 ht
                  obtain ⟨bx, ox, rfl, _, cx0⟩ := C1_at H7.out i _ hx hlt
                  obtain ⟨by_, oy, rfl, _, cy0⟩ := C1_at G7.out i _ hy hlt2
                  generalize a7[i] = x at *
                  generalize b7[i] = y at *
                  by_cases he : x = y
                  · have hs' := hd (hs he)
                    have hb : (x != y) = false := by rw [bne_eq_false_iff_eq]; exact he
                    clear he hn hs hx hy ht
                    go_wp2_with fail
                    go_quiet (fail)
                    go_wp2
                    go_roundw
                    case rel => exact ⟨i + 1, by omega, by go_num, hs'.out, hBr.trans ((pw_below_drewN (Below.refl _ _) _).mono hBr.size)⟩
                    case measure => simp [intOf]; omega
                  · have hb : (x != y) = true := by rw [bne_iff_ne]; exact he
                    have HR : Hd (rEq a0 a1 a2 a3 a4 a5 a6 a7 b0 b1 b2 b3 b4 b5 b6 b7 = false) := hd (decide_eq_false (fun z => (hn he) z.2.2.2.2.2.2.2))
                    clear he hn hs hx hy ht
                    go_wp2_with fail
                    go_quiet (fail)
                    go_wp2
                    go_ret
                    exact ⟨by rw [HR.out]; rfl, HB.out.trans ((by first | exact pw_below_drewN (Below.refl _ _) _ | exact Below.refl _ _ : Below wr2.heap.size wr2 _).mono HB.out.size)⟩
                · obtain rfl : i = a7.length := by omega
                  have E7 := hd (show a7 = b7 by rw [List.take_of_length_le (Nat.le_refl _), List.take_of_length_le (by omega)] at ht; exact ht)
                  clear ht hi hlt hBr
                  have HR : Hd (rEq a0 a1 a2 a3 a4 a5 a6 a7 b0 b1 b2 b3 b4 b5 b6 b7 = true) := hd (decide_eq_true ⟨E0.out.1, E0.out.2.1, E0.out.2.2.1, E3.out, E4.out, E0.out.2.2.2.1, E0.out.2.2.2.2, E7.out⟩)
                  go_wp2
                  go_ret
                  exact ⟨by rw [HR.out]; rfl, HB.out⟩
end
def r7_Same.f (a0 a1 a2 : Int) (a3 : List S115) (a4 : List S119) (a5 a6 : Int) (a7 : List Int) (b0 b1 b2 : Int) (b3 : List S115) (b4 : List S119) (b5 b6 : Int) (b7 : List Int) : Option Bool :=
  if a3.length ≤ 1000000 ∧ a4.length ≤ 1000000 ∧ a7.length ≤ 1000000 then some (rEq a0 a1 a2 a3 a4 a5 a6 a7 b0 b1 b2 b3 b4 b5 b6 b7) else none
theorem r7_Same.calls (a0_0 : Int) (a0_1 : Int) (a0_2 : Int) (A0_3 : Option Addr) (c0_3 : Nat) (l0_3 : List (S115)) (A0_4 : Option Addr) (c0_4 : Nat) (l0_4 : List (S119)) (a0_5 : Int) (a0_6 : Int) (A0_7 : Option Addr) (c0_7 : Nat) (l0_7 : List Int) (a1_0 : Int) (a1_1 : Int) (a1_2 : Int) (A1_3 : Option Addr) (c1_3 : Nat) (l1_3 : List (S115)) (A1_4 : Option Addr) (c1_4 : Nat) (l1_4 : List (S119)) (a1_5 : Int) (a1_6 : Int) (A1_7 : Option Addr) (c1_7 : Nat) (l1_7 : List Int) (r : Bool) (w : World) (hr0_3 : Kd.C k115 w A0_3 l0_3.length l0_3) (hc0_3 : l0_3.length ≤ c0_3) (hr0_4 : Kd.C k119 w A0_4 l0_4.length l0_4) (hc0_4 : l0_4.length ≤ c0_4) (hr0_7 : Kd.C (Kd.int .u32) w A0_7 l0_7.length l0_7) (hc0_7 : l0_7.length ≤ c0_7) (hr1_3 : Kd.C k115 w A1_3 l1_3.length l1_3) (hc1_3 : l1_3.length ≤ c1_3) (hr1_4 : Kd.C k119 w A1_4 l1_4.length l1_4) (hc1_4 : l1_4.length ≤ c1_4) (hr1_7 : Kd.C (Kd.int .u32) w A1_7 l1_7.length l1_7) (hc1_7 : l1_7.length ≤ c1_7) (h : r7_Same.f a0_0 a0_1 a0_2 l0_3 l0_4 a0_5 a0_6 l0_7 a1_0 a1_1 a1_2 l1_3 l1_4 a1_5 a1_6 l1_7 = some r) :
    Calls Try.prog 26 #[.agg #[.int .u8 a0_0, .int .u32 a0_1, .int .u32 a0_2, .slice A0_3 l0_3.length c0_3, .slice A0_4 l0_4.length c0_4, .int .u8 a0_5, .int .u32 a0_6, .slice A0_7 l0_7.length c0_7], .agg #[.int .u8 a1_0, .int .u32 a1_1, .int .u32 a1_2, .slice A1_3 l1_3.length c1_3, .slice A1_4 l1_4.length c1_4, .int .u8 a1_5, .int .u32 a1_6, .slice A1_7 l1_7.length c1_7]] w fun e w' => e = .returned (.bool r) ∧ Below w.heap.size w w' := by
  unfold r7_Same.f at h
  split at h
  · rename_i ho
    injection h with h
    subst h
    exact r7Same_any a0_0 a0_1 a0_2 l0_3 l0_4 a0_5 a0_6 l0_7 a1_0 a1_1 a1_2 l1_3 l1_4 a1_5 a1_6 l1_7 hr0_3 hr0_4 hr0_7 hr1_3 hr1_4 hr1_7 ho.1 ho.2.1 ho.2.2
  · cases h
end Go.Proofs.Ytjcejgolcdgipaa.K7
