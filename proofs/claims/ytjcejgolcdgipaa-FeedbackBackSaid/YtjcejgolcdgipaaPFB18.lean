/- Texts of this session, one behind the other, what the row does not use left out: walks and laws over plain data. -/
import Derived.Test.YtjcejgolcdgipaaPFB13
import Derived.Test.YtjcejgolcdgipaaPFB14
import Derived.Test.YtjcejgolcdgipaaPFB15
import Derived.Test.YtjcejgolcdgipaaPFB16
import Derived.Test.YtjcejgolcdgipaaPFB17
import Derived.Test.YtjcejgolcdgipaaPFB12
import Derived.Test.YtjcejgolcdgipaaPFB11
import Derived.Test.YtjcejgolcdgipaaPFB7

namespace Go.Proofs.Ytjcejgolcdgipaa.K7
open Go.RowKit Go.Proofs.YtjcejgolcdgipaaW.PrintWords Go.Proofs.YtjcejgolcdgipaaW.PrintLast Go.Proofs.YtjcejgolcdgipaaW.PrintMore
set_option linter.unusedVariables false

theorem flat2_get {α : Type} (f g : α → Value) (xs : List α) (j : Nat) (x : α) (h : xs[j]? = some x) (i : Nat) (u : Value) (hu : [f x, g x][i]? = some u) : (xs.flatMap fun x => [f x, g x])[j * 2 + i]? = some u := by
  induction xs generalizing j with
  | nil => simp at h
  | cons y l ih =>
    rw [List.flatMap_cons]
    rcases j with _ | j
    · simp at h
      subst h
      rw [Nat.zero_mul, Nat.zero_add, List.getElem?_append_left]
      · exact hu
      · have := (List.getElem?_eq_some_iff.1 hu).1
        exact this
    · rw [List.getElem?_cons_succ] at h
      rw [List.getElem?_append_right (by simp; omega)]
      have := ih j h
      rw [← this]
      congr 1
      simp
      omega
theorem C_new2 {α : Type} {d : Kd α} (f g : α → Value) (hz : d.sz = 2) (hK : ∀ w x, d.K w x [f x, g x]) (w : World) (t : TypeId) (xs : List α) (cells : Array Value) (hc : cells = (xs.flatMap fun x => [f x, g x]).toArray) (hl : xs.length ≤ 1000000) :
    Kd.C d (w.alloc (.cells cells t)) (some ⟨w.heap.size, 0, none⟩) xs.length xs := by
  refine ⟨rfl, by omega, fun _ => ⟨_, rfl, fun j p hj => ⟨[f p, g p], by rw [hz]; rfl, hK _ _, fun i u hu => ?_⟩⟩⟩
  rw [Addr.add_lit, cell_of_row _ _ _ _ _ _ (heap_alloc_new w _), Nat.zero_add, hz, hc]
  simpa using flat2_get f g xs j p hj i u hu
theorem C_new1 {α : Type} {enc : α → Value} {h1 : ∀ x, (enc x).oneCell' = true} (w : World) (t : TypeId) (xs : List α) (cells : Array Value) (hc : cells = (xs.map enc).toArray) (hl : xs.length ≤ 1000000) :
    Kd.C (Kd.scalar enc h1) (w.alloc (.cells cells t)) (some ⟨w.heap.size, 0, none⟩) xs.length xs := by
  refine ⟨rfl, by omega, fun _ => ⟨_, rfl, fun j p hj => ⟨[enc p], rfl, rfl, fun i u hu => ?_⟩⟩⟩
  have hi : i = 0 := by
    have := (List.getElem?_eq_some_iff.1 hu).1
    simpa using this
  subst hi
  have hu' : enc p = u := by simpa using hu
  rw [Addr.add_lit, cell_of_row _ _ _ _ _ _ (heap_alloc_new w _), Nat.zero_add, hc, ← hu']
  simp [Kd.scalar, hj]
theorem ex_1 : fb_Pairs.f [10, 11, 26, 27, 10] = some [⟨10, 32769⟩, ⟨27, 0⟩, ⟨10, 0⟩] := by kernel_rfl
theorem ex_2 : feedback_Numbers.f 40 [⟨65535, 3⟩] = some [65535, 0, 1] := by kernel_rfl
theorem ex_3 : feedback_OfRate.f 262144 = some (1, 131072) := by kernel_rfl
theorem ex_4 : feedback_OfRate.f 1000 = some (0, 1000) := by kernel_rfl
theorem ex_5 : fb_Put.f 2 1 2 [] [] 0 0 [] = some (1, 206, [0, 0, 0, 1, 0, 0, 0, 2], 0, 0) := by kernel_rfl
theorem ex_6 : easellaw07_samePairs.f 40 [⟨10, 32769⟩, ⟨27, 0⟩, ⟨10, 0⟩] [⟨10, 32769⟩, ⟨27, 0⟩, ⟨10, 0⟩] = some true := by kernel_rfl
theorem ex_7 : easellaw07_sameNumbers.f 40 [65535, 0, 1] [65535, 0, 1] = some true := by kernel_rfl
theorem ex_8 : easelkit_SameBytes.f 40 [0, 0, 0, 1, 0, 0, 0, 2] [0, 0, 0, 1, 0, 0, 0, 2] = some true := by kernel_rfl
set_option maxHeartbeats 4000000 in
set_option maxRecDepth 100000 in
theorem works07_any (w : World) : Calls Try.prog 13 #[] w fun e w' => e = .returned (.bool true) ∧ Below w.heap.size w w' := by
  go_enter Try.func13, Try.ntmps13
  go_wp2_with fail
  refine (fb_Pairs.calls _ 5 [10, 11, 26, 27, 10] _ _ (C_new1 w 75 [10, 11, 26, 27, 10] _ rfl (by decide)) (by decide) ex_1).mono ?_
  rintro e w1 ⟨v1, rfl, hR1, hB1⟩
  obtain ⟨A1, c1, rfl, l1, hC1⟩ := Kd.R_reads hR1
  have K1 : Kp (fun _ => True) w w1 := ((Kp.refl _ _).alloc _).trans (Kp.of_below hB1 (fun k _ hl => hl))
  clear hR1 hB1
  go_wp2_with fail
  refine (feedback_Numbers.calls 40 _ 1 [⟨65535, 3⟩] _ _ (C_new2 (d := k82) (fun x => .int .u16 x.f0) (fun x => .int .u16 x.f1) rfl (fun w x => k82_mk w x) w1 82 [⟨65535, 3⟩] _ rfl (by decide)) (by decide) ex_2).mono ?_
  rintro e w2 ⟨v2, rfl, hR2, hB2⟩
  obtain ⟨A2, c2, rfl, l2, hC2⟩ := Kd.R_reads hR2
  have K2 : Kp (fun _ => True) w1 w2 := ((Kp.refl _ _).alloc _).trans (Kp.of_below hB2 (fun k _ hl => hl))
  replace hC1 := C_all hC1 K2
  replace K1 := K1.trans K2
  clear hR2 hB2 K2
  go_wp2_with fail
  refine (feedback_OfRate.calls _ _ _ _ ex_3).mono ?_
  rintro e w3 ⟨rfl, hB3⟩
  have K3 : Kp (fun _ => True) w2 w3 := Kp.of_below hB3 (fun k _ hl => hl)
  replace hC1 := C_all hC1 K3
  replace hC2 := C_all hC2 K3
  replace K1 := K1.trans K3
  clear hB3 K3
  go_wp2_with fail
  refine (feedback_OfRate.calls _ _ _ _ ex_4).mono ?_
  rintro e w4 ⟨rfl, hB4⟩
  have K4 : Kp (fun _ => True) w3 w4 := Kp.of_below hB4 (fun k _ hl => hl)
  replace hC1 := C_all hC1 K4
  replace hC2 := C_all hC2 K4
  replace K1 := K1.trans K4
  clear hB4 K4
  go_wp2_with fail
  refine (fb_Put.calls _ _ _ none 0 [] none 0 [] _ _ none 0 [] _ _ _ _ _ _ ⟨rfl, by simp, fun h => absurd h (by simp)⟩ (Nat.le_refl _) ⟨rfl, by simp, fun h => absurd h (by simp)⟩ (Nat.le_refl _) ⟨rfl, by simp, fun h => absurd h (by simp)⟩ (Nat.le_refl _) ex_5).mono ?_
  rintro e w5 ⟨v5, rfl, hR5, hB5⟩
  obtain ⟨A5, c5, rfl, l5, hC5⟩ := Kd.R_reads hR5
  have K5 : Kp (fun _ => True) w4 w5 := Kp.of_below hB5 (fun k _ hl => hl)
  replace hC1 := C_all hC1 K5
  replace hC2 := C_all hC2 K5
  replace K1 := K1.trans K5
  clear hR5 hB5 K5
  go_wp2_with fail
  obtain ⟨w6, hw6⟩ : ∃ w6, w6 = w5.alloc (.cells #[.int .u8 1, .int .u8 206, .slice A5 8 c5, .int .u8 0] 40) := ⟨_, rfl⟩
  have h6s : w5.heap.size + 1 = w6.heap.size := by rw [hw6]; simp
  have K6 : Kp (fun _ => True) w5 w6 := hw6 ▸ (Kp.refl _ _).alloc _
  have B6 : Blk w6 w5.heap.size 40 #[.int .u8 1, .int .u8 206, .slice A5 8 c5, .int .u8 0] := hw6 ▸ Blk.new w5 _ _
  rw [← hw6, h6s]
  clear hw6
  replace hC1 := C_all hC1 K6
  replace hC2 := C_all hC2 K6
  replace hC5 := C_all hC5 K6
  replace K1 := K1.trans K6
  clear K6 h6s
  refine (easellaw07_samePairs.calls 40 _ c1 [⟨10, 32769⟩, ⟨27, 0⟩, ⟨10, 0⟩] _ 3 [⟨10, 32769⟩, ⟨27, 0⟩, ⟨10, 0⟩] _ _ (C_all hC1 ((Kp.refl _ _).alloc _)) l1 (C_new2 (d := k115) (fun x => .int .u16 x.f0) (fun x => .int .u16 x.f1) rfl (fun w x => k115_mk w x) w6 115 [⟨10, 32769⟩, ⟨27, 0⟩, ⟨10, 0⟩] _ rfl (by decide)) (by decide) ex_6).mono ?_
  rintro e w7 ⟨rfl, hB7⟩
  have K7 : Kp (fun _ => True) w6 w7 := ((Kp.refl _ _).alloc _).trans (Kp.of_below hB7 (fun k _ hl => hl))
  have B7 := B6.kp K7 trivial
  replace hC2 := C_all hC2 K7
  replace hC5 := C_all hC5 K7
  replace K1 := K1.trans K7
  clear hB7 K7 B6
  go_wp2_with fail
  refine (easellaw07_sameNumbers.calls 40 _ c2 [65535, 0, 1] _ 3 [65535, 0, 1] _ _ (C_all hC2 ((Kp.refl _ _).alloc _)) l2 (C_new1 w7 75 [65535, 0, 1] _ rfl (by decide)) (by decide) ex_7).mono ?_
  rintro e w8 ⟨rfl, hD8⟩
  have K8 : Kp (fun _ => True) w7 w8 := ((Kp.refl _ _).alloc _).trans (Kp.of_below hD8.below (fun k _ hl => hl))
  have B8 := B7.kp K8 trivial
  have c8 := B8.cell
  replace hC5 := C_all hC5 K8
  replace K1 := K1.trans K8
  clear hD8 K8 B7
  go_wp2_with fail
  refine (easelkit_SameBytes.calls 40 _ c5 [0, 0, 0, 1, 0, 0, 0, 2] _ 8 [0, 0, 0, 1, 0, 0, 0, 2] _ _ (C_all hC5 ((Kp.refl _ _).alloc _)) l5 (C_new1 w8 5 [0, 0, 0, 1, 0, 0, 0, 2] _ rfl (by decide)) (by decide) ex_8).mono ?_
  rintro e w9 ⟨rfl, hD9⟩
  have K9 : Kp (fun _ => True) w8 w9 := ((Kp.refl _ _).alloc _).trans (Kp.of_below hD9.below (fun k _ hl => hl))
  go_wp2
  go_ret
  exact ⟨rfl, kp_below' (K1.trans K9)⟩
def l7_works.f : Option Bool := some true
theorem l7_works.calls (r : Bool) (w : World) (h : l7_works.f = some r) :
    Calls Try.prog 13 #[] w fun e w' => e = .returned (.bool r) ∧ Below w.heap.size w w' := by
  injection h with h
  subst h
  exact works07_any w
end Go.Proofs.Ytjcejgolcdgipaa.K7

namespace Go.Proofs.Ytjcejgolcdgipaa.K7
open Go.RowKit Go.Proofs.YtjcejgolcdgipaaW.PrintWords Go.Proofs.YtjcejgolcdgipaaW.PrintLast Go.Proofs.YtjcejgolcdgipaaW.PrintMore
set_option linter.unusedVariables false

theorem below_alloc1 (w : World) (o : Obj) : Below w.heap.size w (w.alloc o) := (Below.refl _ _).alloc (Nat.le_refl _) _
theorem below_next {w w1 w2 : World} (h : Below w.heap.size w w1) (k : Below w1.heap.size w1 w2) : Below w.heap.size w w2 := h.trans (k.mono h.size)
theorem C_drew {α : Type} {d : Kd α} {w : World} {A : Option Addr} {n : Nat} {xs : List α} (h : d.C w A n xs) : d.C w.drew A n xs := Kd.C_below h (pw_below_drewN (Below.refl _ _) 1)
theorem C_alloc {α : Type} {d : Kd α} {w : World} {A : Option Addr} {n : Nat} {xs : List α} (o : Obj) (h : d.C w A n xs) : d.C (w.alloc o) A n xs := Kd.C_below h (below_alloc1 _ _)
theorem blk2 (w : World) (o : Obj) (t : TypeId) (cs : Array Value) : Blk ((w.alloc o).alloc (.cells cs t)) (w.heap.size + 1) t cs := by
  have := Blk.new (w.alloc o) t cs
  rw [World.size_alloc] at this
  exact this
/-- A message's three rows read. -/
structure Ms (w : World) (A3 A4 A7 : Option Addr) (l3 : List S82) (l4 : List S134) (l7 : List Int) (c3 c4 c7 : Nat) : Prop where
  r3 : Kd.C k82 w A3 l3.length l3
  k3 : l3.length ≤ c3
  r4 : Kd.C k134 w A4 l4.length l4
  k4 : l4.length ≤ c4
  r7 : Kd.C (Kd.int .u32) w A7 l7.length l7
  k7 : l7.length ≤ c7
theorem Ms.below {w w' : World} {A3 A4 A7 : Option Addr} {l3 : List S82} {l4 : List S134} {l7 : List Int} {c3 c4 c7 : Nat} (h : Ms w A3 A4 A7 l3 l4 l7 c3 c4 c7) (hb : Below w.heap.size w w') : Ms w' A3 A4 A7 l3 l4 l7 c3 c4 c7 := ⟨Kd.C_below h.r3 hb, h.k3, Kd.C_below h.r4 hb, h.k4, Kd.C_below h.r7 hb, h.k7⟩
end Go.Proofs.Ytjcejgolcdgipaa.K7

namespace Go.Proofs.Ytjcejgolcdgipaa.K7
open Go.RowKit Go.Proofs.YtjcejgolcdgipaaW.PrintWords Go.Proofs.YtjcejgolcdgipaaW.PrintLast Go.Proofs.YtjcejgolcdgipaaW.PrintMore
set_option linter.unusedVariables false

section
variable (k1 k2 k3 k4 k5 : Nat) (m0 m1 m2 : Int) {A3 A4 A7 : Option Addr} {c3 c4 c7 : Nat} (l3 : List S82) (l4 : List S134) (m5 m6 : Int) (l7 : List Int) (ct kd pd : Int) {B2 : Option Addr} {d2 : Nat} (b : List Int) {C2 : Option Addr} {f2 : Nat} (n : List Int) (rate : Int) (w : World)
set_option maxHeartbeats 8000000 in
set_option maxRecDepth 100000 in
theorem FeedbackBack_walk (hM : Ms w A3 A4 A7 l3 l4 l7 c3 c4 c7) (hB : Kd.C (Kd.int .u8) w B2 b.length b) (hd2 : b.length ≤ d2) (hN : Kd.C (Kd.int .u16) w C2 n.length n) (hf2 : n.length ≤ f2)
    (hF1 : easellaw07_few.f m0 m1 m2 l3 l4 m5 m6 l7 = some true) (h12 : b.length ≤ 1200) (h100 : n.length ≤ 100)
    (x1 x2 : Int) (x3 : List Int) (x4 ec : Int) (hP : fb_Put.f m0 m1 m2 l3 l4 m5 m6 l7 = some (x1, x2, x3, x4, ec))
    (hP2 : ec = 0 → fb_Parse.f x1 x2 x3 x4 = some (m0, m1, m2, l3, l4, m5, m6, l7, 0) ∧ feedback_Same.f k1 m0 m1 m2 l3 l4 m5 m6 l7 m0 m1 m2 l3 l4 m5 m6 l7 = some true ∧ rtcp_Right.f x1 x2 x3 x4 = some true ∧ fb_Is.f x1 x2 x3 x4 = some true)
    (y0 y1 y2 : Int) (e3 : List S82) (e4 : List S134) (y5 y6 : Int) (e7 : List Int) (fy : Int) (hY : fb_Parse.f ct kd b pd = some (y0, y1, y2, e3, e4, y5, y6, e7, fy))
    (z1 z2 : Int) (z3 : List Int) (z4 : Int)
    (hY2 : fy = 0 → fb_Put.f y0 y1 y2 e3 e4 y5 y6 e7 = some (z1, z2, z3, z4, 0) ∧ fb_Parse.f z1 z2 z3 z4 = some (y0, y1, y2, e3, e4, y5, y6, e7, 0) ∧ fb_Right.f y0 y1 y2 e3 e4 y5 y6 e7 = some true ∧ feedback_Same.f k2 y0 y1 y2 e3 e4 y5 y6 e7 y0 y1 y2 e3 e4 y5 y6 e7 = some true ∧ z2 = kd ∧ z1 = ct ∧ z3.length = b.length ∧ (y0 ≠ 3 → easelkit_SameBytes.f k3 z3 b = some true))
    (lp : List S82) (hL : fb_Pairs.f n = some lp) (al : List Int) (hA : feedback_Numbers.f k4 lp = some al) (hle : lp.length ≤ n.length) (hal : al.length ≤ 1000000)
    (hh1 : ∀ i (h : i < n.length), easellaw07_has.f k5 al n[i] = some true) (hh2 : ∀ i (h : i < al.length), easellaw07_has.f k5 n al[i] = some true)
    (ex mn : Int) (hO : feedback_OfRate.f rate = some (ex, mn)) (bk : Int) (hR : feedback_Message_Rate.f 4 0 0 [] [] ex mn [] = some bk) (hT : fb_Right.f 4 0 0 [] [] ex mn [] = some true) (hb1 : decide (bk ≤ rate) = true) (hb2 : decide (IntKind.u64.wrap (rate - bk) ≤ rate / 131072) = true) :
    Calls Try.prog 6 #[.agg #[.int .u8 m0, .int .u32 m1, .int .u32 m2, .slice A3 l3.length c3, .slice A4 l4.length c4, .int .u8 m5, .int .u32 m6, .slice A7 l7.length c7], .agg #[.int .u8 ct, .int .u8 kd, .slice B2 b.length d2, .int .u8 pd], .slice C2 n.length f2, .int .u64 rate] w fun e w' => e = .returned (.bool true) ∧ Below w.heap.size w w' := by
  obtain ⟨w0, hw0⟩ : ∃ w0, w0 = (w.alloc (.cells #[.int .u8 m0, .int .u32 m1, .int .u32 m2, .slice A3 l3.length c3, .slice A4 l4.length c4, .int .u8 m5, .int .u32 m6, .slice A7 l7.length c7] 52)).alloc (.cells #[.int .u8 ct, .int .u8 kd, .slice B2 b.length d2, .int .u8 pd] 40) := ⟨_, rfl⟩
  have hB0 : Below w.heap.size w w0 := hw0 ▸ ((Below.refl _ _).alloc (Nat.le_refl _) _).alloc (by simp) _
  have bM : Blk w0 w.heap.size 52 #[.int .u8 m0, .int .u32 m1, .int .u32 m2, .slice A3 l3.length c3, .slice A4 l4.length c4, .int .u8 m5, .int .u32 m6, .slice A7 l7.length c7] := hw0 ▸ (Blk.new w _ _).alloc _
  have bP : Blk w0 (w.heap.size + 1) 40 #[.int .u8 ct, .int .u8 kd, .slice B2 b.length d2, .int .u8 pd] := hw0 ▸ blk2 w _ _ _
  have HM3 := hd (Kd.C_below hM.r3 hB0)
  have HM4 := hd (Kd.C_below hM.r4 hB0)
  have HM7 := hd (Kd.C_below hM.r7 hB0)
  have HBb := hd (Kd.C_below hB hB0)
  have HNn := hd (Kd.C_below hN hB0)
  have hc3 := hM.k3
  have hc4 := hM.k4
  have hc7 := hM.k7
  have HF1 := hd hF1
  have HP := hd hP
  have HP2 := hd hP2
  have HY := hd hY
  have HY2 := hd hY2
  have HL := hd hL
  have HA := hd hA
  have HH1 := hd hh1
  have HH2 := hd hh2
  have HO := hd hO
  have HR := hd hR
  have HT := hd hT
  have HB1 := hd hb1
  have HB2 := hd hb2
  have HW0 := hd hw0
  have HB := hd hB0
  clear hM hB hN hF1 hP hP2 hY hY2 hL hA hh1 hh2 hO hR hT hb1 hb2 hw0 hB0
  have g12 : decide (1200 < b.length) = false := decide_eq_false (by omega)
  have g12' : decide ((1200 : Int) < (b.length : Int)) = false := decide_eq_false (by omega)
  have g10 : decide (100 < n.length) = false := decide_eq_false (by omega)
  have g10' : decide ((100 : Int) < (n.length : Int)) = false := decide_eq_false (by omega)
  have cM := bM.cell
  go_enter Try.func6, Try.ntmps6
  go_upto_region 1 with (fail)
  rw [← HW0.out]
  clear HW0 cM
  have c_bP := bP.cell
  have c_bM := bM.cell
  go_wp2_with fail
  refine (easellaw07_few.calls m0 m1 m2 _ _ l3 _ _ l4 m5 m6 _ _ l7 true _ HM3.out hc3 HM4.out hc4 HM7.out hc7 HF1.out).mono ?_
  rintro e_ w1 ⟨rfl, hB1⟩
  replace HM3 := hd (Kd.C_below HM3.out hB1)
  replace HM4 := hd (Kd.C_below HM4.out hB1)
  replace HM7 := hd (Kd.C_below HM7.out hB1)
  replace HBb := hd (Kd.C_below HBb.out hB1)
  replace HNn := hd (Kd.C_below HNn.out hB1)
  replace bM := bM.kp (kp_of_below hB1) trivial
  replace bP := bP.kp (kp_of_below hB1) trivial
  replace HB := hd (below_next HB.out hB1)
  clear hB1 c_bM
  clear c_bP
  have c_bP := bP.cell
  have c_bM := bM.cell
  go_wp2_with fail
  refine (fb_Put.calls m0 m1 m2 _ _ l3 _ _ l4 m5 m6 _ _ l7 x1 x2 x3 x4 ec _ HM3.out hc3 HM4.out hc4 HM7.out hc7 HP.out).mono ?_
  rintro e_ w2 ⟨vx, rfl, hX, hB2⟩
  replace HM3 := hd (Kd.C_below HM3.out hB2)
  replace HM4 := hd (Kd.C_below HM4.out hB2)
  replace HM7 := hd (Kd.C_below HM7.out hB2)
  replace HBb := hd (Kd.C_below HBb.out hB2)
  replace HNn := hd (Kd.C_below HNn.out hB2)
  replace bM := bM.kp (kp_of_below hB2) trivial
  replace bP := bP.kp (kp_of_below hB2) trivial
  replace HB := hd (below_next HB.out hB2)
  clear hB2
  clear c_bP c_bM
  obtain ⟨G, g, rfl, hg, HG_⟩ := Kd.R_reads hX
  have HG := hd HG_
  clear HG_ hX
  go_upto_region 4 with (fail)
  obtain ⟨w3, hw_⟩ : ∃ w3, w3 = w2.alloc (.cells #[.int .u8 x1, .int .u8 x2, .slice G x3.length g, .int .u8 x4] 40) := ⟨_, rfl⟩
  rw [← hw_]
  have hA_w3 : Below w2.heap.size w2 w3 := hw_ ▸ below_alloc1 w2 _
  have nbX : Blk w3 w2.heap.size 40 #[.int .u8 x1, .int .u8 x2, .slice G x3.length g, .int .u8 x4] := hw_ ▸ Blk.new w2 _ _
  clear hw_
  replace HM3 := hd (Kd.C_below HM3.out hA_w3)
  replace HM4 := hd (Kd.C_below HM4.out hA_w3)
  replace HM7 := hd (Kd.C_below HM7.out hA_w3)
  replace HBb := hd (Kd.C_below HBb.out hA_w3)
  replace HNn := hd (Kd.C_below HNn.out hA_w3)
  replace bM := bM.kp (kp_of_below hA_w3) trivial
  replace bP := bP.kp (kp_of_below hA_w3) trivial
  replace HB := hd (below_next HB.out hA_w3)
  replace HG := hd (Kd.C_below HG.out hA_w3)
  clear hA_w3
  have bX := nbX
  clear nbX
  clear g12 g12' g10 g10'
  go_upto_if 48 with (fail)
  go_cut [8] (fun v8 wc => v8 = .bool false ∧ Below w3.heap.size w3 wc)
  case first =>
    have HBf := hd (Below.refl w3.heap.size w3)
    by_cases he : ec = 0
    · subst he
      obtain ⟨q1, q2, q3, q4⟩ := HP2.out (by trivial)
      have Q1 := hd q1
      have Q2 := hd q2
      have Q3 := hd q3
      have Q4 := hd q4
      clear q1 q2 q3 q4
      have c_bX := bX.cell
      go_wp2_with fail
      refine (fb_Parse.calls x1 x2 _ _ x3 x4 m0 m1 m2 l3 l4 m5 m6 l7 0 _ HG.out hg Q1.out).mono ?_
      rintro e_ w4 ⟨u3, u4, u7, rfl, hU3, hU4, hU7, hB4⟩
      replace HM3 := hd (Kd.C_below HM3.out hB4)
      replace HM4 := hd (Kd.C_below HM4.out hB4)
      replace HM7 := hd (Kd.C_below HM7.out hB4)
      replace HBb := hd (Kd.C_below HBb.out hB4)
      replace HNn := hd (Kd.C_below HNn.out hB4)
      replace bM := bM.kp (kp_of_below hB4) trivial
      replace bP := bP.kp (kp_of_below hB4) trivial
      replace HG := hd (Kd.C_below HG.out hB4)
      replace bX := bX.kp (kp_of_below hB4) trivial
      replace HBf := hd (below_next HBf.out hB4)
      clear hB4 c_bX
      obtain ⟨X3, i3, rfl, hi3, HX3_⟩ := Kd.R_reads hU3
      have HX3 := hd HX3_
      clear HX3_ hU3
      obtain ⟨X4, i4, rfl, hi4, HX4_⟩ := Kd.R_reads hU4
      have HX4 := hd HX4_
      clear HX4_ hU4
      obtain ⟨X7, i7, rfl, hi7, HX7_⟩ := Kd.R_reads hU7
      have HX7 := hd HX7_
      clear HX7_ hU7
      go_upto_region 6 with (fail)
      obtain ⟨w5, hw_⟩ : ∃ w5, w5 = w4.alloc (.cells #[.int .u8 m0, .int .u32 m1, .int .u32 m2, .slice X3 l3.length i3, .slice X4 l4.length i4, .int .u8 m5, .int .u32 m6, .slice X7 l7.length i7] 52) := ⟨_, rfl⟩
      rw [← hw_]
      have hA_w5 : Below w4.heap.size w4 w5 := hw_ ▸ below_alloc1 w4 _
      have nbU : Blk w5 w4.heap.size 52 #[.int .u8 m0, .int .u32 m1, .int .u32 m2, .slice X3 l3.length i3, .slice X4 l4.length i4, .int .u8 m5, .int .u32 m6, .slice X7 l7.length i7] := hw_ ▸ Blk.new w4 _ _
      clear hw_
      replace HM3 := hd (Kd.C_below HM3.out hA_w5)
      replace HM4 := hd (Kd.C_below HM4.out hA_w5)
      replace HM7 := hd (Kd.C_below HM7.out hA_w5)
      replace HBb := hd (Kd.C_below HBb.out hA_w5)
      replace HNn := hd (Kd.C_below HNn.out hA_w5)
      replace bM := bM.kp (kp_of_below hA_w5) trivial
      replace bP := bP.kp (kp_of_below hA_w5) trivial
      replace HG := hd (Kd.C_below HG.out hA_w5)
      replace bX := bX.kp (kp_of_below hA_w5) trivial
      replace HBf := hd (below_next HBf.out hA_w5)
      replace HX3 := hd (Kd.C_below HX3.out hA_w5)
      replace HX4 := hd (Kd.C_below HX4.out hA_w5)
      replace HX7 := hd (Kd.C_below HX7.out hA_w5)
      clear hA_w5
      have bU := nbU
      clear nbU
      have c_bU := bU.cell
      have c_bM := bM.cell
      go_wp2_with fail
      refine (feedback_Same.calls k1 m0 m1 m2 _ _ l3 _ _ l4 m5 m6 _ _ l7 m0 m1 m2 _ _ l3 _ _ l4 m5 m6 _ _ l7 true _ HX3.out hi3 HX4.out hi4 HX7.out hi7 HM3.out hc3 HM4.out hc4 HM7.out hc7 Q2.out).mono ?_
      rintro e_ w6 ⟨rfl, hB6⟩
      replace HM3 := hd (Kd.C_below HM3.out hB6)
      replace HM4 := hd (Kd.C_below HM4.out hB6)
      replace HM7 := hd (Kd.C_below HM7.out hB6)
      replace HBb := hd (Kd.C_below HBb.out hB6)
      replace HNn := hd (Kd.C_below HNn.out hB6)
      replace bM := bM.kp (kp_of_below hB6) trivial
      replace bP := bP.kp (kp_of_below hB6) trivial
      replace HG := hd (Kd.C_below HG.out hB6)
      replace bX := bX.kp (kp_of_below hB6) trivial
      replace HBf := hd (below_next HBf.out hB6)
      replace HX3 := hd (Kd.C_below HX3.out hB6)
      replace HX4 := hd (Kd.C_below HX4.out hB6)
      replace HX7 := hd (Kd.C_below HX7.out hB6)
      replace bU := bU.kp (kp_of_below hB6) trivial
      clear hB6 c_bU c_bM
      have c_bX := bX.cell
      go_wp2_with fail
      refine (rtcp_Right.calls x1 x2 _ _ x3 x4 true _ HG.out hg Q3.out).mono ?_
      rintro e_ w7 ⟨rfl, hB7⟩
      replace HM3 := hd (Kd.C_below HM3.out hB7)
      replace HM4 := hd (Kd.C_below HM4.out hB7)
      replace HM7 := hd (Kd.C_below HM7.out hB7)
      replace HBb := hd (Kd.C_below HBb.out hB7)
      replace HNn := hd (Kd.C_below HNn.out hB7)
      replace bM := bM.kp (kp_of_below hB7) trivial
      replace bP := bP.kp (kp_of_below hB7) trivial
      replace HG := hd (Kd.C_below HG.out hB7)
      replace bX := bX.kp (kp_of_below hB7) trivial
      replace HBf := hd (below_next HBf.out hB7)
      replace HX3 := hd (Kd.C_below HX3.out hB7)
      replace HX4 := hd (Kd.C_below HX4.out hB7)
      replace HX7 := hd (Kd.C_below HX7.out hB7)
      replace bU := bU.kp (kp_of_below hB7) trivial
      clear hB7 c_bX
      have c_bX := bX.cell
      go_wp2_with fail
      refine (fb_Is.calls x1 x2 _ _ x3 x4 true _ HG.out hg Q4.out).mono ?_
      rintro e_ w8 ⟨rfl, hB8⟩
      replace HM3 := hd (Kd.C_below HM3.out hB8)
      replace HM4 := hd (Kd.C_below HM4.out hB8)
      replace HM7 := hd (Kd.C_below HM7.out hB8)
      replace HBb := hd (Kd.C_below HBb.out hB8)
      replace HNn := hd (Kd.C_below HNn.out hB8)
      replace bM := bM.kp (kp_of_below hB8) trivial
      replace bP := bP.kp (kp_of_below hB8) trivial
      replace HG := hd (Kd.C_below HG.out hB8)
      replace bX := bX.kp (kp_of_below hB8) trivial
      replace HBf := hd (below_next HBf.out hB8)
      replace HX3 := hd (Kd.C_below HX3.out hB8)
      replace HX4 := hd (Kd.C_below HX4.out hB8)
      replace HX7 := hd (Kd.C_below HX7.out hB8)
      replace bU := bU.kp (kp_of_below hB8) trivial
      clear hB8 c_bX
      go_wp2_with fail
      go_meet
      case rel => exact ⟨rfl, HBf.out⟩
    · have g0 : ((ec : Int) == 0) = false := by rw [beq_eq_false_iff_ne]; exact he
      go_wp2_with fail
      go_meet
      case rel => exact ⟨rfl, HBf.out⟩
  case rest =>
    obtain ⟨rfl, hBc⟩ := hcut
    replace HM3 := hd (Kd.C_below HM3.out hBc)
    replace HM4 := hd (Kd.C_below HM4.out hBc)
    replace HM7 := hd (Kd.C_below HM7.out hBc)
    replace HBb := hd (Kd.C_below HBb.out hBc)
    replace HNn := hd (Kd.C_below HNn.out hBc)
    replace bM := bM.kp (kp_of_below hBc) trivial
    replace bP := bP.kp (kp_of_below hBc) trivial
    replace HB := hd (below_next HB.out hBc)
    replace HG := hd (Kd.C_below HG.out hBc)
    replace bX := bX.kp (kp_of_below hBc) trivial
    clear hBc
    clear HP HP2 HG hg HM3 HM4 HM7 bM bX
    have c_bP := bP.cell
    go_wp2_with fail
    refine (fb_Parse.calls ct kd _ _ b pd y0 y1 y2 e3 e4 y5 y6 e7 fy _ HBb.out hd2 HY.out).mono ?_
    rintro e_ w9 ⟨t3, t4, t7, rfl, hT3, hT4, hT7, hB9⟩
    replace HBb := hd (Kd.C_below HBb.out hB9)
    replace HNn := hd (Kd.C_below HNn.out hB9)
    replace bP := bP.kp (kp_of_below hB9) trivial
    replace HB := hd (below_next HB.out hB9)
    clear hB9 c_bP
    obtain ⟨Y3, j3, rfl, hj3, HY3_⟩ := Kd.R_reads hT3
    have HY3 := hd HY3_
    clear HY3_ hT3
    obtain ⟨Y4, j4, rfl, hj4, HY4_⟩ := Kd.R_reads hT4
    have HY4 := hd HY4_
    clear HY4_ hT4
    obtain ⟨Y7, j7, rfl, hj7, HY7_⟩ := Kd.R_reads hT7
    have HY7 := hd HY7_
    clear HY7_ hT7
    go_upto_region 9 with (fail)
    obtain ⟨w10, hw_⟩ : ∃ w10, w10 = w9.alloc (.cells #[.int .u8 y0, .int .u32 y1, .int .u32 y2, .slice Y3 e3.length j3, .slice Y4 e4.length j4, .int .u8 y5, .int .u32 y6, .slice Y7 e7.length j7] 52) := ⟨_, rfl⟩
    rw [← hw_]
    have hA_w10 : Below w9.heap.size w9 w10 := hw_ ▸ below_alloc1 w9 _
    have nbY : Blk w10 w9.heap.size 52 #[.int .u8 y0, .int .u32 y1, .int .u32 y2, .slice Y3 e3.length j3, .slice Y4 e4.length j4, .int .u8 y5, .int .u32 y6, .slice Y7 e7.length j7] := hw_ ▸ Blk.new w9 _ _
    clear hw_
    replace HBb := hd (Kd.C_below HBb.out hA_w10)
    replace HNn := hd (Kd.C_below HNn.out hA_w10)
    replace bP := bP.kp (kp_of_below hA_w10) trivial
    replace HB := hd (below_next HB.out hA_w10)
    replace HY3 := hd (Kd.C_below HY3.out hA_w10)
    replace HY4 := hd (Kd.C_below HY4.out hA_w10)
    replace HY7 := hd (Kd.C_below HY7.out hA_w10)
    clear hA_w10
    have bY := nbY
    clear nbY
    go_upto_if 78 with (fail)
    go_cut [8] (fun v8 wc => v8 = .bool false ∧ Below w10.heap.size w10 wc)
    case first =>
      have HBf := hd (Below.refl w10.heap.size w10)
      by_cases he : fy = 0
      · subst he
        obtain ⟨q1, q2, q3, q4, hz2, hz1, hlen, q5⟩ := HY2.out (by trivial)
        subst hz2 hz1
        have Q1 := hd q1
        have Q2 := hd q2
        have Q3 := hd q3
        have Q4 := hd q4
        have Q5 := hd q5
        have HLEN := hd hlen
        clear q1 q2 q3 q4 q5 hlen
        have c_bY := bY.cell
        go_wp2_with fail
        refine (fb_Put.calls y0 y1 y2 _ _ e3 _ _ e4 y5 y6 _ _ e7 z1 z2 z3 z4 0 _ HY3.out hj3 HY4.out hj4 HY7.out hj7 Q1.out).mono ?_
        rintro e_ w11 ⟨vz, rfl, hZ, hB11⟩
        replace HBb := hd (Kd.C_below HBb.out hB11)
        replace HNn := hd (Kd.C_below HNn.out hB11)
        replace bP := bP.kp (kp_of_below hB11) trivial
        replace HY3 := hd (Kd.C_below HY3.out hB11)
        replace HY4 := hd (Kd.C_below HY4.out hB11)
        replace HY7 := hd (Kd.C_below HY7.out hB11)
        replace bY := bY.kp (kp_of_below hB11) trivial
        replace HBf := hd (below_next HBf.out hB11)
        clear hB11 c_bY
        obtain ⟨H, h, rfl, hh, HZ_⟩ := Kd.R_reads hZ
        have HZ := hd HZ_
        clear HZ_ hZ
        go_upto_region 11 with (fail)
        obtain ⟨w12, hw_⟩ : ∃ w12, w12 = w11.alloc (.cells #[.int .u8 z1, .int .u8 z2, .slice H z3.length h, .int .u8 z4] 40) := ⟨_, rfl⟩
        rw [← hw_]
        have hA_w12 : Below w11.heap.size w11 w12 := hw_ ▸ below_alloc1 w11 _
        have nbZ : Blk w12 w11.heap.size 40 #[.int .u8 z1, .int .u8 z2, .slice H z3.length h, .int .u8 z4] := hw_ ▸ Blk.new w11 _ _
        clear hw_
        replace HBb := hd (Kd.C_below HBb.out hA_w12)
        replace HNn := hd (Kd.C_below HNn.out hA_w12)
        replace bP := bP.kp (kp_of_below hA_w12) trivial
        replace HY3 := hd (Kd.C_below HY3.out hA_w12)
        replace HY4 := hd (Kd.C_below HY4.out hA_w12)
        replace HY7 := hd (Kd.C_below HY7.out hA_w12)
        replace bY := bY.kp (kp_of_below hA_w12) trivial
        replace HBf := hd (below_next HBf.out hA_w12)
        replace HZ := hd (Kd.C_below HZ.out hA_w12)
        clear hA_w12
        have bZ := nbZ
        clear nbZ
        have c_bZ := bZ.cell
        go_wp2_with fail
        refine (fb_Parse.calls z1 z2 _ _ z3 z4 y0 y1 y2 e3 e4 y5 y6 e7 0 _ HZ.out hh Q2.out).mono ?_
        rintro e_ w13 ⟨s3, s4, s7, rfl, hS3, hS4, hS7, hB13⟩
        replace HBb := hd (Kd.C_below HBb.out hB13)
        replace HNn := hd (Kd.C_below HNn.out hB13)
        replace bP := bP.kp (kp_of_below hB13) trivial
        replace HY3 := hd (Kd.C_below HY3.out hB13)
        replace HY4 := hd (Kd.C_below HY4.out hB13)
        replace HY7 := hd (Kd.C_below HY7.out hB13)
        replace bY := bY.kp (kp_of_below hB13) trivial
        replace HBf := hd (below_next HBf.out hB13)
        replace HZ := hd (Kd.C_below HZ.out hB13)
        replace bZ := bZ.kp (kp_of_below hB13) trivial
        clear hB13 c_bZ
        obtain ⟨V3, v3, rfl, hv3, HV3_⟩ := Kd.R_reads hS3
        have HV3 := hd HV3_
        clear HV3_ hS3
        obtain ⟨V4, v4, rfl, hv4, HV4_⟩ := Kd.R_reads hS4
        have HV4 := hd HV4_
        clear HV4_ hS4
        obtain ⟨V7, v7, rfl, hv7, HV7_⟩ := Kd.R_reads hS7
        have HV7 := hd HV7_
        clear HV7_ hS7
        go_upto_region 12 with (fail)
        obtain ⟨w14, hw_⟩ : ∃ w14, w14 = w13.alloc (.cells #[.int .u8 y0, .int .u32 y1, .int .u32 y2, .slice V3 e3.length v3, .slice V4 e4.length v4, .int .u8 y5, .int .u32 y6, .slice V7 e7.length v7] 52) := ⟨_, rfl⟩
        rw [← hw_]
        have hA_w14 : Below w13.heap.size w13 w14 := hw_ ▸ below_alloc1 w13 _
        have nbV : Blk w14 w13.heap.size 52 #[.int .u8 y0, .int .u32 y1, .int .u32 y2, .slice V3 e3.length v3, .slice V4 e4.length v4, .int .u8 y5, .int .u32 y6, .slice V7 e7.length v7] := hw_ ▸ Blk.new w13 _ _
        clear hw_
        replace HBb := hd (Kd.C_below HBb.out hA_w14)
        replace HNn := hd (Kd.C_below HNn.out hA_w14)
        replace bP := bP.kp (kp_of_below hA_w14) trivial
        replace HY3 := hd (Kd.C_below HY3.out hA_w14)
        replace HY4 := hd (Kd.C_below HY4.out hA_w14)
        replace HY7 := hd (Kd.C_below HY7.out hA_w14)
        replace bY := bY.kp (kp_of_below hA_w14) trivial
        replace HBf := hd (below_next HBf.out hA_w14)
        replace HZ := hd (Kd.C_below HZ.out hA_w14)
        replace bZ := bZ.kp (kp_of_below hA_w14) trivial
        replace HV3 := hd (Kd.C_below HV3.out hA_w14)
        replace HV4 := hd (Kd.C_below HV4.out hA_w14)
        replace HV7 := hd (Kd.C_below HV7.out hA_w14)
        clear hA_w14
        have bV := nbV
        clear nbV
        have gk : ((z2 : Int) != z2) = false := by simp
        have gc : ((z1 : Int) != z1) = false := by simp
        have gl : ((z3.length : Int) != (b.length : Int)) = false := by rw [bne_eq_false_iff_eq]; have := HLEN.out; omega
        have c_bY := bY.cell
        go_wp2_with fail
        refine (fb_Right.calls y0 y1 y2 _ _ e3 _ _ e4 y5 y6 _ _ e7 true _ HY3.out hj3 HY4.out hj4 HY7.out hj7 Q3.out).mono ?_
        rintro e_ w15 ⟨rfl, hB15⟩
        replace HBb := hd (Kd.C_below HBb.out hB15)
        replace HNn := hd (Kd.C_below HNn.out hB15)
        replace bP := bP.kp (kp_of_below hB15) trivial
        replace HY3 := hd (Kd.C_below HY3.out hB15)
        replace HY4 := hd (Kd.C_below HY4.out hB15)
        replace HY7 := hd (Kd.C_below HY7.out hB15)
        replace bY := bY.kp (kp_of_below hB15) trivial
        replace HBf := hd (below_next HBf.out hB15)
        replace HZ := hd (Kd.C_below HZ.out hB15)
        replace bZ := bZ.kp (kp_of_below hB15) trivial
        replace HV3 := hd (Kd.C_below HV3.out hB15)
        replace HV4 := hd (Kd.C_below HV4.out hB15)
        replace HV7 := hd (Kd.C_below HV7.out hB15)
        replace bV := bV.kp (kp_of_below hB15) trivial
        clear hB15 c_bY
        have c_bZ := bZ.cell
        have c_bP := bP.cell
        have c_bV := bV.cell
        have c_bY := bY.cell
        go_wp2_with fail
        refine (feedback_Same.calls k2 y0 y1 y2 _ _ e3 _ _ e4 y5 y6 _ _ e7 y0 y1 y2 _ _ e3 _ _ e4 y5 y6 _ _ e7 true _ HV3.out hv3 HV4.out hv4 HV7.out hv7 HY3.out hj3 HY4.out hj4 HY7.out hj7 Q4.out).mono ?_
        rintro e_ w16 ⟨rfl, hB16⟩
        replace HBb := hd (Kd.C_below HBb.out hB16)
        replace HNn := hd (Kd.C_below HNn.out hB16)
        replace bP := bP.kp (kp_of_below hB16) trivial
        replace HY3 := hd (Kd.C_below HY3.out hB16)
        replace HY4 := hd (Kd.C_below HY4.out hB16)
        replace HY7 := hd (Kd.C_below HY7.out hB16)
        replace bY := bY.kp (kp_of_below hB16) trivial
        replace HBf := hd (below_next HBf.out hB16)
        replace HZ := hd (Kd.C_below HZ.out hB16)
        replace bZ := bZ.kp (kp_of_below hB16) trivial
        replace HV3 := hd (Kd.C_below HV3.out hB16)
        replace HV4 := hd (Kd.C_below HV4.out hB16)
        replace HV7 := hd (Kd.C_below HV7.out hB16)
        replace bV := bV.kp (kp_of_below hB16) trivial
        clear hB16 c_bV c_bY
        clear c_bZ c_bP
        have c_bZ := bZ.cell
        have c_bP := bP.cell
        have c_bY := bY.cell
        by_cases h3 : y0 = 3
        · have g3 : ((y0 : Int) != 3) = false := by rw [bne_eq_false_iff_eq]; exact h3
          go_wp2_with fail
          go_meet
          case rel => exact ⟨rfl, HBf.out⟩
        · have g3 : ((y0 : Int) != 3) = true := by rw [bne_iff_ne]; exact h3
          have Q6 := hd (Q5.out h3)
          go_wp2_with fail
          refine (easelkit_SameBytes.calls k3 _ _ z3 _ _ b true _ HZ.out hh HBb.out hd2 Q6.out).mono ?_
          rintro e_ w17 ⟨rfl, ⟨nq, rfl⟩⟩
          go_wp2_with fail
          go_meet
          case rel => exact ⟨rfl, below_next HBf.out (pw_below_drewN (Below.refl _ _) _)⟩
      · have g0 : ((fy : Int) == 0) = false := by rw [beq_eq_false_iff_ne]; exact he
        go_wp2_with fail
        go_meet
        case rel => exact ⟨rfl, HBf.out⟩
    case rest =>
      obtain ⟨rfl, hBc⟩ := hcut
      replace HBb := hd (Kd.C_below HBb.out hBc)
      replace HNn := hd (Kd.C_below HNn.out hBc)
      replace bP := bP.kp (kp_of_below hBc) trivial
      replace HB := hd (below_next HB.out hBc)
      replace HY3 := hd (Kd.C_below HY3.out hBc)
      replace HY4 := hd (Kd.C_below HY4.out hBc)
      replace HY7 := hd (Kd.C_below HY7.out hBc)
      replace bY := bY.kp (kp_of_below hBc) trivial
      clear hBc
      clear HY HY2 HBb hd2 bP bY HY3 HY4 HY7
      go_wp2_with fail
      refine (fb_Pairs.calls _ _ n lp _ HNn.out hf2 HL.out).mono ?_
      rintro e_ w18 ⟨vl_, rfl, hLp, hB18⟩
      replace HNn := hd (Kd.C_below HNn.out hB18)
      replace HB := hd (below_next HB.out hB18)
      clear hB18
      obtain ⟨L, lc, rfl, hlc, HLp_⟩ := Kd.R_reads hLp
      have HLp := hd HLp_
      clear HLp_ hLp
      go_wp2_with fail
      refine (feedback_Numbers.calls k4 _ _ lp al _ HLp.out hlc HA.out).mono ?_
      rintro e_ w19 ⟨va_, rfl, hAl, hB19⟩
      replace HNn := hd (Kd.C_below HNn.out hB19)
      replace HB := hd (below_next HB.out hB19)
      replace HLp := hd (Kd.C_below HLp.out hB19)
      clear hB19
      obtain ⟨N, nc, rfl, hnc, HAl_⟩ := Kd.R_reads hAl
      have HAl := hd HAl_
      clear HAl_ hAl
      have gle : decide ((n.length : Int) < (lp.length : Int)) = false := decide_eq_false (by omega)
      have gle' : decide (n.length < lp.length) = false := decide_eq_false (by omega)
      go_wp2
      go_loopw [21] (fun iv wr => ∃ j : Nat, j ≤ n.length ∧ iv = .int .i64 j ∧ Below w19.heap.size w19 wr) (fun iv _ => n.length - (intOf iv).toNat)
      case atStart => exact ⟨0, Nat.zero_le _, rfl, Below.refl _ _⟩
      case round =>
        obtain ⟨j, hj, rfl, hBr⟩ := hrel
        obtain ⟨wr21, hwr⟩ : ∃ z, z = wr := ⟨_, rfl⟩
        rw [← hwr] at hBr ⊢
        clear hwr wr
        replace HNn := hd (Kd.C_below HNn.out hBr)
        replace HB := hd (below_next HB.out hBr)
        replace HLp := hd (Kd.C_below HLp.out hBr)
        replace HAl := hd (Kd.C_below HAl.out hBr)
        by_cases hlt : j < n.length
        · obtain ⟨bx, ox, he, _, cx⟩ := C1_at HNn.out j _ (List.getElem?_eq_getElem hlt) hlt
          subst he
          have hx := hd (HH1.out j hlt)
          generalize n[j] = x at *
          go_wp2_with fail
          refine (easellaw07_has.calls k5 _ _ al x true _ HAl.out hnc hx.out).mono ?_
          rintro e_ w20 ⟨rfl, ⟨nq, rfl⟩⟩
          go_wp2
          go_roundw
          case rel => exact ⟨j + 1, by omega, by go_num, below_next hBr (pw_below_drewN (Below.refl _ _) _)⟩
          case measure => simp [intOf]; omega
        · obtain rfl : j = n.length := by omega
          clear hBr hlt hj
          go_wp2
          go_loopw [22] (fun iv wr => ∃ j : Nat, j ≤ al.length ∧ iv = .int .i64 j ∧ Below wr21.heap.size wr21 wr) (fun iv _ => al.length - (intOf iv).toNat)
          case atStart => exact ⟨0, Nat.zero_le _, rfl, Below.refl _ _⟩
          case round =>
            obtain ⟨j, hj, rfl, hBr⟩ := hrel
            obtain ⟨wr22, hwr⟩ : ∃ z, z = wr := ⟨_, rfl⟩
            rw [← hwr] at hBr ⊢
            clear hwr wr
            replace HNn := hd (Kd.C_below HNn.out hBr)
            replace HB := hd (below_next HB.out hBr)
            replace HLp := hd (Kd.C_below HLp.out hBr)
            replace HAl := hd (Kd.C_below HAl.out hBr)
            by_cases hlt : j < al.length
            · obtain ⟨bx, ox, he, _, cx⟩ := C1_at HAl.out j _ (List.getElem?_eq_getElem hlt) hlt
              subst he
              have hx := hd (HH2.out j hlt)
              generalize al[j] = x at *
              go_wp2_with fail
              refine (easellaw07_has.calls k5 _ _ n x true _ HNn.out hf2 hx.out).mono ?_
              rintro e_ w20 ⟨rfl, ⟨nq, rfl⟩⟩
              go_wp2
              go_roundw
              case rel => exact ⟨j + 1, by omega, by go_num, below_next hBr (pw_below_drewN (Below.refl _ _) _)⟩
              case measure => simp [intOf]; omega
            · obtain rfl : j = al.length := by omega
              clear hBr hlt hj
              go_wp2_with fail
              refine (feedback_OfRate.calls rate ex mn _ HO.out).mono ?_
              rintro e_ w21 ⟨rfl, hB21⟩
              replace HNn := hd (Kd.C_below HNn.out hB21)
              replace HB := hd (below_next HB.out hB21)
              replace HLp := hd (Kd.C_below HLp.out hB21)
              replace HAl := hd (Kd.C_below HAl.out hB21)
              clear hB21
              go_upto_region 30 with (fail)
              obtain ⟨w22, hw_⟩ : ∃ w22, w22 = w21.alloc (.cells #[.int .u8 4, .int .u32 0, .int .u32 0, .slice none 0 0, .slice none 0 0, .int .u8 ex, .int .u32 mn, .slice none 0 0] 52) := ⟨_, rfl⟩
              rw [← hw_]
              have hA_w22 : Below w21.heap.size w21 w22 := hw_ ▸ below_alloc1 w21 _
              have nbT : Blk w22 w21.heap.size 52 #[.int .u8 4, .int .u32 0, .int .u32 0, .slice none 0 0, .slice none 0 0, .int .u8 ex, .int .u32 mn, .slice none 0 0] := hw_ ▸ Blk.new w21 _ _
              clear hw_
              replace HNn := hd (Kd.C_below HNn.out hA_w22)
              replace HB := hd (below_next HB.out hA_w22)
              replace HLp := hd (Kd.C_below HLp.out hA_w22)
              replace HAl := hd (Kd.C_below HAl.out hA_w22)
              clear hA_w22
              have bT := nbT
              clear nbT
              have c_bT := bT.cell
              go_wp2_with fail
              refine (feedback_Message_Rate.calls 4 0 0 none 0 [] none 0 [] ex mn none 0 [] bk _ (show Kd.C k82 w22 none ([] : List S82).length [] from ⟨rfl, by simp, fun h => absurd h (Nat.lt_irrefl 0)⟩) (Nat.le_refl 0) (show Kd.C k134 w22 none ([] : List S134).length [] from ⟨rfl, by simp, fun h => absurd h (Nat.lt_irrefl 0)⟩) (Nat.le_refl 0) (show Kd.C (Kd.int .u32) w22 none ([] : List Int).length [] from ⟨rfl, by simp, fun h => absurd h (Nat.lt_irrefl 0)⟩) (Nat.le_refl 0) HR.out).mono ?_
              rintro e_ w23 ⟨rfl, hB23⟩
              replace HNn := hd (Kd.C_below HNn.out hB23)
              replace HB := hd (below_next HB.out hB23)
              replace HLp := hd (Kd.C_below HLp.out hB23)
              replace HAl := hd (Kd.C_below HAl.out hB23)
              replace bT := bT.kp (kp_of_below hB23) trivial
              clear hB23 c_bT
              have c_bT := bT.cell
              go_wp2_with fail
              refine (fb_Right.calls 4 0 0 none 0 [] none 0 [] ex mn none 0 [] true _ (show Kd.C k82 w23 none ([] : List S82).length [] from ⟨rfl, by simp, fun h => absurd h (Nat.lt_irrefl 0)⟩) (Nat.le_refl 0) (show Kd.C k134 w23 none ([] : List S134).length [] from ⟨rfl, by simp, fun h => absurd h (Nat.lt_irrefl 0)⟩) (Nat.le_refl 0) (show Kd.C (Kd.int .u32) w23 none ([] : List Int).length [] from ⟨rfl, by simp, fun h => absurd h (Nat.lt_irrefl 0)⟩) (Nat.le_refl 0) HT.out).mono ?_
              rintro e_ w24 ⟨rfl, hB24⟩
              replace HNn := hd (Kd.C_below HNn.out hB24)
              replace HB := hd (below_next HB.out hB24)
              replace HLp := hd (Kd.C_below HLp.out hB24)
              replace HAl := hd (Kd.C_below HAl.out hB24)
              replace bT := bT.kp (kp_of_below hB24) trivial
              clear hB24 c_bT
              have gb1 := HB1.out
              have gb2 := HB2.out
              go_wp2_with fail
              refine (l7_works.calls true _ rfl).mono ?_
              rintro e_ w25 ⟨rfl, hB25⟩
              clear gb1 gb2
              go_wp2
              go_ret
              exact ⟨rfl, below_next HB.out hB25⟩
end
end Go.Proofs.Ytjcejgolcdgipaa.K7
