/- Chapter 04: the walk of MarkBack over contracts. -/
import Derived.Test.YtjcejgolcdgipaaK4F
import Derived.Test.YtjcejgolcdgipaaK4Z
import Derived.Test.YtjcejgolcdgipaaK4x11
import Derived.Test.YtjcejgolcdgipaaK4x3
import Derived.Test.YtjcejgolcdgipaaK4x1
namespace Go.Proofs.Ytjcejgolcdgipaa.K4
open Go.RowKit Go.Proofs.YtjcejgolcdgipaaW.PrintWords Go.Proofs.YtjcejgolcdgipaaW.PrintLast Go.Proofs.YtjcejgolcdgipaaW.PrintMore
set_option linter.unusedVariables false
set_option linter.unusedSimpArgs false
attribute [local go_sem high] eqA84

/-- The three rows of a packet. -/
structure Pk3 (w : World) (A5 A8 A9 : Option Addr) (l5 l8 l9 : List Int) : Prop where
  c5 : Kd.C (Kd.int .u32) w A5 l5.length l5
  c8 : Kd.C (Kd.int .u8) w A8 l8.length l8
  c9 : Kd.C (Kd.int .u8) w A9 l9.length l9
theorem Pk3.below {w w' : World} {A5 A8 A9 : Option Addr} {l5 l8 l9 : List Int} (h : Pk3 w A5 A8 A9 l5 l8 l9) (hb : Below w.heap.size w w') : Pk3 w' A5 A8 A9 l5 l8 l9 := ⟨Kd.C_below h.c5 hb, Kd.C_below h.c8 hb, Kd.C_below h.c9 hb⟩
theorem below_alloc1 (w : World) (o : Obj) : Below w.heap.size w (w.alloc o) := (Below.refl _ _).alloc (Nat.le_refl _) _
theorem below_next {w w1 w2 : World} (h : Below w.heap.size w w1) (k : Below w1.heap.size w1 w2) : Below w.heap.size w w2 := h.trans (k.mono h.size)
set_option maxHeartbeats 8000000 in
set_option maxRecDepth 100000 in
theorem MarkBack_walk (k : Nat) (m : Bool) (ty sq ti ss : Int) (A5 : Option Addr) (c5 : Nat) (l5 : List Int) (hx : Bool) (pr : Int) (A8 : Option Addr) (c8 : Nat) (l8 : List Int) (A9 : Option Addr) (c9 : Nat) (l9 : List Int) (pd id : Int) (s e i d l b : Bool) (t li tl : Nat) (AB : Option Addr) (cb : Nat) (lb : List Int) (w : World)
    (hp : Pk3 w A5 A8 A9 l5 l8 l9) (hc5 : l5.length ≤ c5) (hc8 : l8.length ≤ c8) (hc9 : l9.length ≤ c9) (n5 : l5.length ≤ 1000000) (hC : Kd.C (Kd.int .u8) w AB lb.length lb) (hcb : lb.length ≤ cb) (n20 : lb.length ≤ 20)
    (hF : easeldocs_FewPacket.f m ty sq ti ss l5 hx pr l8 l9 pd = some true)
    (c : List Int) (ec : Int) (hPut : mark_Put.f s e i d l b (t : Int) (li : Int) (tl : Int) = some (c, ec)) (hec : (ec == 0) = rightB l b t li tl)
    (hPar : rightB l b t li tl = true → mark_Parse.f c = some (s, e, i, d, l, b, (t : Int), (li : Int), (tl : Int), 0))
    (y1 y2 y3 y4 y5 y6 : Bool) (y7 y8 y9 fy : Int) (hy : mark_Parse.f lb = some (y1, y2, y3, y4, y5, y6, y7, y8, y9, fy)) (hyd : fy = 0 → mark_Put.f y1 y2 y3 y4 y5 y6 y7 y8 y9 = some (lb, 0))
    (hSB : easelkit_SameBytes.f k lb lb = some true)
    (u1 : Bool) (u2 : Int) (u3 : List Int) (u4 : Int) (hW : mark_With.f m ty sq ti ss l5 hx pr l8 l9 pd id s e i d l b (t : Int) (li : Int) (tl : Int) = some (m, ty, sq, ti, ss, l5, u1, u2, u3, l9, pd, u4))
    (hbad : u4 ≠ 0 → u1 = hx ∧ u2 = pr ∧ u3 = l8 ∧ u4 = 40 ∧ (id = 0 ∨ rightB l b t li tl = false))
    (hgood : u4 = 0 → u1 = true ∧ mark_Of.f m ty sq ti ss l5 u1 u2 u3 l9 pd id = some (s, e, i, d, l, b, (t : Int), (li : Int), (tl : Int), true)) :
    Calls Try.prog 11 #[.agg #[.bool s, .bool e, .bool i, .bool d, .bool l, .bool b, .int .u8 (t : Int), .int .u8 (li : Int), .int .u8 (tl : Int)], .slice AB lb.length cb, .agg #[.bool m, .int .u8 ty, .int .u16 sq, .int .u32 ti, .int .u32 ss, .slice A5 l5.length c5, .bool hx, .int .u16 pr, .slice A8 l8.length c8, .slice A9 l9.length c9, .int .u8 pd], .int .u8 id] w fun e w' => e = .returned (.bool true) ∧ Below w.heap.size w w' := by
  obtain ⟨w0, hw0⟩ : ∃ w0, w0 = (w.alloc (.cells #[.bool s, .bool e, .bool i, .bool d, .bool l, .bool b, .int .u8 (t : Int), .int .u8 (li : Int), .int .u8 (tl : Int)] 84)).alloc (.cells #[.bool m, .int .u8 ty, .int .u16 sq, .int .u32 ti, .int .u32 ss, .slice A5 l5.length c5, .bool hx, .int .u16 pr, .slice A8 l8.length c8, .slice A9 l9.length c9, .int .u8 pd] 98) := ⟨_, rfl⟩
  have hB0 : Below w.heap.size w w0 := hw0 ▸ ((Below.refl _ _).alloc (Nat.le_refl _) _).alloc (by simp) _
  have bM : Blk w0 w.heap.size 84 #[.bool s, .bool e, .bool i, .bool d, .bool l, .bool b, .int .u8 (t : Int), .int .u8 (li : Int), .int .u8 (tl : Int)] := hw0 ▸ (Blk.new w _ _).alloc _
  have bP : Blk w0 (w.heap.size + 1) 98 #[.bool m, .int .u8 ty, .int .u16 sq, .int .u32 ti, .int .u32 ss, .slice A5 l5.length c5, .bool hx, .int .u16 pr, .slice A8 l8.length c8, .slice A9 l9.length c9, .int .u8 pd] := by
    rw [hw0]
    have := Blk.new (w.alloc (.cells #[.bool s, .bool e, .bool i, .bool d, .bool l, .bool b, .int .u8 (t : Int), .int .u8 (li : Int), .int .u8 (tl : Int)] 84)) 98 #[.bool m, .int .u8 ty, .int .u16 sq, .int .u32 ti, .int .u32 ss, .slice A5 l5.length c5, .bool hx, .int .u16 pr, .slice A8 l8.length c8, .slice A9 l9.length c9, .int .u8 pd]
    simp only [World.size_alloc] at this
    exact this
  have HP00 := hd hp
  have HP3 := hd (hp.below hB0)
  have HC := hd (Kd.C_below hC hB0)
  have HF := hd hF
  have HPut := hd hPut
  have HEC := hd hec
  have HPar := hd hPar
  have HYY := hd hy
  have HYD := hd hyd
  have HSB := hd hSB
  have HW := hd hW
  have HBad := hd hbad
  have HGood := hd hgood
  have HW0 := hd hw0
  have HB := hd hB0
  clear hp hC hF hPut hec hPar hy hyd hSB hW hbad hgood hw0 hB0
  have g20 : decide (20 < lb.length) = false := decide_eq_false (by omega)
  have g20' : decide (20 < (lb.length : Int)) = false := decide_eq_false (by omega)
  have cP := bP.cell
  go_enter Try.func11, Try.ntmps11
  go_upto_region 1 with (fail)
  rw [← HW0.out]
  clear HW0
  go_wp2_with fail
  refine (easeldocs_FewPacket.calls m ty sq ti ss _ _ l5 hx pr _ _ l8 _ _ l9 pd true _ HP3.out.c5 hc5 HP3.out.c8 hc8 HP3.out.c9 hc9 HF.out).mono ?_
  rintro e_ w1 ⟨rfl, hB1⟩
  replace HP3 := hd (HP3.out.below hB1)
  replace HC := hd (Kd.C_below HC.out hB1)
  replace bP := bP.kp (kp_of_below hB1) trivial
  replace bM := bM.kp (kp_of_below hB1) trivial
  replace HB := hd (below_next HB.out hB1)
  clear cP hB1
  have cM := bM.cell
  go_wp2_with fail
  refine (mark_Put.calls s e i d l b t li tl c ec _ HPut.out).mono ?_
  rintro e_ w2 ⟨vc, rfl, hRc, hB2⟩
  obtain ⟨Ac, cc, rfl, hlc, hCc⟩ := Kd.R_reads hRc
  replace HP3 := hd (HP3.out.below hB2)
  replace HC := hd (Kd.C_below HC.out hB2)
  replace bP := bP.kp (kp_of_below hB2) trivial
  replace bM := bM.kp (kp_of_below hB2) trivial
  replace HB := hd (below_next HB.out hB2)
  have HCc := hd hCc
  clear cM hB2 hRc hCc
  have cM := bM.cell
  go_wp2_with fail
  refine (markRight_any _ s e i d l b t li tl).mono ?_
  rintro e_ w3 ⟨rfl, hK3⟩
  have hB3 := hK3.below
  replace HP3 := hd (HP3.out.below hB3)
  replace HC := hd (Kd.C_below HC.out hB3)
  replace bP := bP.kp (kp_of_below hB3) trivial
  replace bM := bM.kp (kp_of_below hB3) trivial
  replace HB := hd (below_next HB.out hB3)
  replace HCc := hd (Kd.C_below HCc.out hB3)
  clear cM hK3 hB3
  obtain ⟨rt, hrt⟩ : ∃ rt, rightB l b t li tl = rt := ⟨_, rfl⟩
  rw [hrt]
  have hec : (ec == 0) = rt := HEC.out.trans hrt
  have hne : ((ec == 0) != rt) = false := by rw [hec]; simp
  have hne' : ((ec == 0) == rt) = true := by rw [hec]; simp
  have HRT := hd hrt
  have HEC2 := hd hec
  clear hrt hec
  have HBrest := hd (Below.refl w3.heap.size w3)
  go_upto_if 41 with (fail)
  clear hne hne'
  have cM := bM.cell
  go_cut [8] (fun v8 wc => v8 = .bool false ∧ Below w3.heap.size w3 wc)
  case first =>
    cases rt
    · have g0 : ((ec : Int) == 0) = false := HEC2.out
      go_wp2_with fail
      go_meet
      case rel => exact ⟨rfl, Below.refl _ _⟩
    · have g0 : ec = 0 := by have := HEC2.out; simpa using this
      subst g0
      go_wp2_with fail
      refine (mark_Parse.calls _ _ c s e i d l b t li tl 0 _ HCc.out hlc (HPar.out HRT.out)).mono ?_
      rintro e_ w4 ⟨rfl, hB4⟩
      have cM4 : ∀ o j, (w4.alloc o).cell? ⟨w.heap.size, j, none⟩ = #[.bool s, .bool e, .bool i, .bool d, .bool l, .bool b, .int .u8 (t : Int), .int .u8 (li : Int), .int .u8 (tl : Int)][j]? := fun o => ((bM.kp (kp_of_below hB4) trivial).alloc o).cell
      clear cM
      go_wp2_with fail
      go_meet
      case rel => exact ⟨rfl, below_next hB4 (below_alloc1 _ _)⟩
  case rest =>
    obtain ⟨rfl, hBc⟩ := hcut
    clear cM HCc HPut HEC HEC2 HPar hlc
    replace HP3 := hd (HP3.out.below hBc)
    replace HC := hd (Kd.C_below HC.out hBc)
    replace bP := bP.kp (kp_of_below hBc) trivial
    replace bM := bM.kp (kp_of_below hBc) trivial
    replace HB := hd (below_next HB.out hBc)
    clear hBc HBrest
    go_wp2_with fail
    refine (mark_Parse.calls _ _ lb y1 y2 y3 y4 y5 y6 y7 y8 y9 fy _ HC.out hcb HYY.out).mono ?_
    rintro e_ w5 ⟨rfl, hB5⟩
    replace HP3 := hd (HP3.out.below hB5)
    replace HC := hd (Kd.C_below HC.out hB5)
    replace bP := bP.kp (kp_of_below hB5) trivial
    replace bM := bM.kp (kp_of_below hB5) trivial
    replace HB := hd (below_next HB.out hB5)
    clear hB5
    go_upto_region 11 with (fail)
    obtain ⟨w6, hw6⟩ : ∃ w6, w6 = w5.alloc (.cells #[.bool y1, .bool y2, .bool y3, .bool y4, .bool y5, .bool y6, .int .u8 y7, .int .u8 y8, .int .u8 y9] 84) := ⟨_, rfl⟩
    have hB6 : Below w5.heap.size w5 w6 := hw6 ▸ below_alloc1 w5 _
    have bY : Blk w6 w5.heap.size 84 #[.bool y1, .bool y2, .bool y3, .bool y4, .bool y5, .bool y6, .int .u8 y7, .int .u8 y8, .int .u8 y9] := hw6 ▸ Blk.new w5 _ _
    rw [← hw6]
    clear hw6
    replace HP3 := hd (HP3.out.below hB6)
    replace HC := hd (Kd.C_below HC.out hB6)
    replace bP := bP.kp (kp_of_below hB6) trivial
    replace bM := bM.kp (kp_of_below hB6) trivial
    replace HB := hd (below_next HB.out hB6)
    clear hB6
    go_upto_if 60 with (fail)
    go_cut [8] (fun v8 wc => v8 = .bool false ∧ Below w6.heap.size w6 wc)
    case first =>
      by_cases hf0 : fy = 0
      · subst hf0
        have cY := bY.cell
        go_wp2_with fail
        refine (mark_Put.calls y1 y2 y3 y4 y5 y6 y7 y8 y9 lb 0 _ (HYD.out (by trivial))).mono ?_
        rintro e_ w7 ⟨vd, rfl, hRd, hB7⟩
        obtain ⟨Ad, cd, rfl, hld, hCd⟩ := Kd.R_reads hRd
        clear cY
        have HC7 := hd (Kd.C_below HC.out hB7)
        have HCd := hd hCd
        have HB7 := hd hB7
        clear hRd hCd hB7
        go_wp2_with fail
        refine (easelkit_SameBytes.calls k _ _ lb _ _ lb true _ HCd.out hld HC7.out hcb HSB.out).mono ?_
        rintro e_ w8 ⟨rfl, ⟨q, rfl⟩⟩
        go_wp2_with fail
        go_meet
        case rel => exact ⟨rfl, HB7.out.trans ((pw_below_drewN (Below.refl _ _) _).mono HB7.out.size)⟩
      · have g0 : ((fy : Int) == 0) = false := by rw [beq_eq_false_iff_ne]; exact hf0
        go_wp2_with fail
        go_meet
        case rel => exact ⟨rfl, Below.refl _ _⟩
    case rest =>
      obtain ⟨rfl, hBc⟩ := hcut
      replace HP3 := hd (HP3.out.below hBc)
      replace HC := hd (Kd.C_below HC.out hBc)
      replace bP := bP.kp (kp_of_below hBc) trivial
      replace bM := bM.kp (kp_of_below hBc) trivial
      replace HB := hd (below_next HB.out hBc)
      clear hBc bY HYY HYD HSB
      have cP := bP.cell
      have cM := bM.cell
      go_wp2_with fail
      refine (mark_With.calls m ty sq ti ss _ _ l5 hx pr _ _ l8 _ _ l9 pd id s e i d l b t li tl m ty sq ti ss l5 u1 u2 u3 l9 pd u4 _ HP3.out.c5 hc5 HP3.out.c8 hc8 HP3.out.c9 hc9 HW.out).mono ?_
      rintro e_ w9 ⟨v5, v8, v9, rfl, hQ5, hQ8, hQ9, hB9⟩
      obtain ⟨D5, q5, rfl, hq5, hD5⟩ := Kd.R_reads hQ5
      obtain ⟨D8, q8, rfl, hq8, hD8⟩ := Kd.R_reads hQ8
      obtain ⟨D9, q9, rfl, hq9, hD9⟩ := Kd.R_reads hQ9
      have HQ3 := hd (Pk3.mk hD5 hD8 hD9)
      have HRQ := hd (And.intro (R_lt hQ5) (R_lt hQ9))
      replace HP3 := hd (HP3.out.below hB9)
      replace HC := hd (Kd.C_below HC.out hB9)
      replace bP := bP.kp (kp_of_below hB9) trivial
      replace bM := bM.kp (kp_of_below hB9) trivial
      replace HB := hd (below_next HB.out hB9)
      clear cP cM hB9 hQ5 hQ8 hQ9 hD5 hD8 hD9
      go_upto_region 16 with (fail)
      obtain ⟨w10, hw10⟩ : ∃ w10, w10 = w9.alloc (.cells #[.bool m, .int .u8 ty, .int .u16 sq, .int .u32 ti, .int .u32 ss, .slice D5 l5.length q5, .bool u1, .int .u16 u2, .slice D8 u3.length q8, .slice D9 l9.length q9, .int .u8 pd] 98) := ⟨_, rfl⟩
      have hB10 : Below w9.heap.size w9 w10 := hw10 ▸ below_alloc1 w9 _
      have hlt9 : w.heap.size + 1 < w9.heap.size := bP.lt
      have hne9 : w9.heap.size ≠ w.heap.size + 1 := by omega
      have bQ : Blk w10 w9.heap.size 98 #[.bool m, .int .u8 ty, .int .u16 sq, .int .u32 ti, .int .u32 ss, .slice D5 l5.length q5, .bool u1, .int .u16 u2, .slice D8 u3.length q8, .slice D9 l9.length q9, .int .u8 pd] := hw10 ▸ Blk.new w9 _ _
      rw [← hw10]
      clear hw10
      replace HP3 := hd (HP3.out.below hB10)
      replace HC := hd (Kd.C_below HC.out hB10)
      replace bP := bP.kp (kp_of_below hB10) trivial
      replace bM := bM.kp (kp_of_below hB10) trivial
      replace HB := hd (below_next HB.out hB10)
      replace HQ3 := hd (HQ3.out.below hB10)
      replace HRQ := hd (And.intro (Kd.R_below HRQ.out.1 hB10) (Kd.R_below HRQ.out.2 hB10))
      clear hB10
      by_cases hu : u4 = 0
      · obtain ⟨hu1, hof⟩ := HGood.out hu
        subst hu hu1
        have HOF := hd hof
        clear hof HGood HBad HW
        have cQ := bQ.cell
        go_wp2_with fail
        refine (mark_Of.calls m ty sq ti ss _ _ l5 true u2 _ _ u3 _ _ l9 pd id s e i d l b t li tl true _ HQ3.out.c8 hq8 HOF.out).mono ?_
        rintro e_ w11 ⟨rfl, hB11⟩
        replace HP3 := hd (HP3.out.below hB11)
        replace HC := hd (Kd.C_below HC.out hB11)
        replace bP := bP.kp (kp_of_below hB11) trivial
        replace bM := bM.kp (kp_of_below hB11) trivial
        replace HB := hd (below_next HB.out hB11)
        replace HQ3 := hd (HQ3.out.below hB11)
        replace HRQ := hd (And.intro (Kd.R_below HRQ.out.1 hB11) (Kd.R_below HRQ.out.2 hB11))
        replace bQ := bQ.kp (kp_of_below hB11) trivial
        clear cQ hB11
        go_upto_region 19 with (fail)
        obtain ⟨w12, hw12⟩ : ∃ w12, w12 = w11.alloc (.cells #[.bool s, .bool e, .bool i, .bool d, .bool l, .bool b, .int .u8 (t : Int), .int .u8 (li : Int), .int .u8 (tl : Int)] 84) := ⟨_, rfl⟩
        have hB12 : Below w11.heap.size w11 w12 := hw12 ▸ below_alloc1 w11 _
        have bZ : Blk w12 w11.heap.size 84 #[.bool s, .bool e, .bool i, .bool d, .bool l, .bool b, .int .u8 (t : Int), .int .u8 (li : Int), .int .u8 (tl : Int)] := hw12 ▸ Blk.new w11 _ _
        rw [← hw12]
        clear hw12
        replace HP3 := hd (HP3.out.below hB12)
        replace HC := hd (Kd.C_below HC.out hB12)
        replace bP := bP.kp (kp_of_below hB12) trivial
        replace bM := bM.kp (kp_of_below hB12) trivial
        replace HB := hd (below_next HB.out hB12)
        replace HQ3 := hd (HQ3.out.below hB12)
        replace HRQ := hd (And.intro (Kd.R_below HRQ.out.1 hB12) (Kd.R_below HRQ.out.2 hB12))
        replace bQ := bQ.kp (kp_of_below hB12) trivial
        clear hB12
        have cM := bM.cell
        have cZ := bZ.cell
        have cQ := bQ.cell
        go_upto_region 21 with (fail)
        clear cM cZ bZ
        have fQ := bQ.frozen
        have cP := bP.cell
        have hqb : w9.heap.size ≠ w.heap.size + 1 := hne9
        have hfar : ∀ (W : World) (i j : Nat) (u : Value), (W.setCell ⟨w9.heap.size, i, none⟩ u).cell? ⟨w.heap.size + 1, j, none⟩ = W.cell? ⟨w.heap.size + 1, j, none⟩ := fun W i j u => World.cell?_setCell_other W _ _ u (fun e => hqb (by injection e))
        go_upto_region 24 with (fail)
        obtain ⟨w13, hw13⟩ : ∃ w13, w13 = ((w12.setCell ⟨w9.heap.size, 6, none⟩ (.bool hx)).setCell ⟨w9.heap.size, 7, none⟩ (.int .u16 pr)).setCell ⟨w9.heap.size, 8, none⟩ (.slice A8 l8.length c8) := ⟨_, rfl⟩
        have hK13 : Kp (· ≠ w9.heap.size) w12 w13 := hw13 ▸ (Kp.refl _ _).set_.set_.set_
        have bQ13 : Blk w13 w9.heap.size 98 #[.bool m, .int .u8 ty, .int .u16 sq, .int .u32 ti, .int .u32 ss, .slice D5 l5.length q5, .bool hx, .int .u16 pr, .slice A8 l8.length c8, .slice D9 l9.length q9, .int .u8 pd] := by
          have := ((bQ.set 6 (.bool hx)).set 7 (.int .u16 pr)).set 8 (.slice A8 l8.length c8)
          simp only [List.setIfInBounds_toArray, List.set_cons_zero, List.set_cons_succ] at this
          rw [hw13]
          exact this
        have bP13 := bP.kp hK13 hqb.symm
        rw [← hw13]
        clear hw13 cQ fQ cP hfar
        have HB13 := hd (below_kp HB.out hK13 (fun k hk => by omega))
        have hQ5 := C_of_R (R_kp (ok' := fun _ => True) HRQ.out.1 (Nat.le_refl _) hK13 (fun k h _ => Nat.ne_of_lt h.2) (fun _ _ => trivial))
        have hQ9 := C_of_R (R_kp (ok' := fun _ => True) HRQ.out.2 (Nat.le_refl _) hK13 (fun k h _ => Nat.ne_of_lt h.2) (fun _ _ => trivial))
        have HP13 := hd (HP00.out.below HB13.out)
        have HQC := hd (And.intro hQ5 hQ9)
        clear hQ5 hQ9 HP3 HB HQ3 HRQ hK13
        have cP := bP13.cell
        have cQ := bQ13.cell
        go_wp2_with fail
        refine (rtpSame_true m ty sq ti ss hx pr pd _ _ _ _ _ _ _ _ _ _ _ _ l5 l8 l9 _ HP13.out.c5 HQC.out.1 hc5 hq5 n5 HP13.out.c8 HP13.out.c8 hc8 hc8 HP13.out.c9 HQC.out.2 hc9 hq9).mono ?_
        rintro e_ w14 ⟨rfl, hB14⟩
        replace HB13 := hd (below_next HB13.out hB14)
        clear hB14 cP cQ
        go_wp2_with fail
        refine (l4_works.calls true _ rfl).mono ?_
        rintro e_ w15 ⟨rfl, hB15⟩
        go_wp2
        go_ret
        exact ⟨rfl, below_next HB13.out hB15⟩
      · obtain ⟨rfl, rfl, rfl, rfl, hor⟩ := HBad.out hu
        have cP := bP.cell
        have cQ := bQ.cell
        have cM := bM.cell
        by_cases hid : id = 0
        · subst hid
          go_wp2_with fail
          refine (rtpSame_true m ty sq ti ss u1 u2 pd _ _ _ _ _ _ _ _ _ _ _ _ l5 u3 l9 _ HP3.out.c5 HQ3.out.c5 hc5 hq5 n5 HP3.out.c8 HQ3.out.c8 hc8 hq8 HP3.out.c9 HQ3.out.c9 hc9 hq9).mono ?_
          rintro e_ w14 ⟨rfl, hB14⟩
          replace HB := hd (below_next HB.out hB14)
          clear hB14 cP cQ cM
          go_wp2_with fail
          refine (l4_works.calls true _ rfl).mono ?_
          rintro e_ w15 ⟨rfl, hB15⟩
          go_wp2
          go_ret
          exact ⟨rfl, below_next HB.out hB15⟩
        · have g0 : ((id : Int) == 0) = false := by rw [beq_eq_false_iff_ne]; exact hid
          have hrf : rightB l b t li tl = false := hor.resolve_left hid
          have HRF := hd hrf
          clear hrf hor
          go_wp2_with fail
          refine (markRight_any _ s e i d l b t li tl).mono ?_
          rw [HRF.out]
          rintro e_ w11 ⟨rfl, hK11⟩
          have hB11 := hK11.below
          replace HP3 := hd (HP3.out.below hB11)
          replace HC := hd (Kd.C_below HC.out hB11)
          replace bP := bP.kp (kp_of_below hB11) trivial
          replace bM := bM.kp (kp_of_below hB11) trivial
          replace HB := hd (below_next HB.out hB11)
          replace HQ3 := hd (HQ3.out.below hB11)
          replace bQ := bQ.kp (kp_of_below hB11) trivial
          clear cP cQ cM hK11 hB11
          have cP := bP.cell
          have cQ := bQ.cell
          go_wp2_with fail
          refine (rtpSame_true m ty sq ti ss u1 u2 pd _ _ _ _ _ _ _ _ _ _ _ _ l5 u3 l9 _ HP3.out.c5 HQ3.out.c5 hc5 hq5 n5 HP3.out.c8 HQ3.out.c8 hc8 hq8 HP3.out.c9 HQ3.out.c9 hc9 hq9).mono ?_
          rintro e_ w14 ⟨rfl, hB14⟩
          replace HB := hd (below_next HB.out hB14)
          clear hB14 cP cQ
          go_wp2_with fail
          refine (l4_works.calls true _ rfl).mono ?_
          rintro e_ w15 ⟨rfl, hB15⟩
          go_wp2
          go_ret
          exact ⟨rfl, below_next HB.out hB15⟩
end Go.Proofs.Ytjcejgolcdgipaa.K4
