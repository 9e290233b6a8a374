/- Texts of this session, one behind the other, what the row does not use left out: walks and laws over plain data. -/
import Derived.Test.YtjcejgolcdgipaaPFR15
import Derived.Test.YtjcejgolcdgipaaPFR16
import Derived.Test.YtjcejgolcdgipaaPFR22
import Derived.Test.YtjcejgolcdgipaaPFR23
import Derived.Test.YtjcejgolcdgipaaPFR24
import Derived.Test.YtjcejgolcdgipaaPFR21

namespace Go.Proofs.Ytjcejgolcdgipaa.K7
open Go.RowKit Go.Proofs.YtjcejgolcdgipaaW.PrintWords Go.Proofs.YtjcejgolcdgipaaW.PrintLast Go.Proofs.YtjcejgolcdgipaaW.PrintMore
set_option linter.unusedVariables false

theorem flat2_get {α : Type} (f g : α → Value) (xs : List α) (j : Nat) (x : α) (h : xs[j]? = some x) (i : Nat) (u : Value) (hu : [f x, g x][i]? = some u) : (xs.flatMap fun x => [f x, g x])[j * 2 + i]? = some u := by
  induction xs generalizing j with
  | nil => simp at h
  | cons y l ih =>
    rw [List.flatMap_cons]
    rcases j with _ | j
    · simp at h
      subst h
      rw [Nat.zero_mul, Nat.zero_add, List.getElem?_append_left]
      · exact hu
      · have := (List.getElem?_eq_some_iff.1 hu).1
        exact this
    · rw [List.getElem?_cons_succ] at h
      rw [List.getElem?_append_right (by simp; omega)]
      have := ih j h
      rw [← this]
      congr 1
      simp
      omega
theorem C_new2 {α : Type} {d : Kd α} (f g : α → Value) (hz : d.sz = 2) (hK : ∀ w x, d.K w x [f x, g x]) (w : World) (t : TypeId) (xs : List α) (cells : Array Value) (hc : cells = (xs.flatMap fun x => [f x, g x]).toArray) (hl : xs.length ≤ 1000000) :
    Kd.C d (w.alloc (.cells cells t)) (some ⟨w.heap.size, 0, none⟩) xs.length xs := by
  refine ⟨rfl, by omega, fun _ => ⟨_, rfl, fun j p hj => ⟨[f p, g p], by rw [hz]; rfl, hK _ _, fun i u hu => ?_⟩⟩⟩
  rw [Addr.add_lit, cell_of_row _ _ _ _ _ _ (heap_alloc_new w _), Nat.zero_add, hz, hc]
  simpa using flat2_get f g xs j p hj i u hu
theorem C_new1 {α : Type} {enc : α → Value} {h1 : ∀ x, (enc x).oneCell' = true} (w : World) (t : TypeId) (xs : List α) (cells : Array Value) (hc : cells = (xs.map enc).toArray) (hl : xs.length ≤ 1000000) :
    Kd.C (Kd.scalar enc h1) (w.alloc (.cells cells t)) (some ⟨w.heap.size, 0, none⟩) xs.length xs := by
  refine ⟨rfl, by omega, fun _ => ⟨_, rfl, fun j p hj => ⟨[enc p], rfl, rfl, fun i u hu => ?_⟩⟩⟩
  have hi : i = 0 := by
    have := (List.getElem?_eq_some_iff.1 hu).1
    simpa using this
  subst hi
  have hu' : enc p = u := by simpa using hu
  rw [Addr.add_lit, cell_of_row _ _ _ _ _ _ (heap_alloc_new w _), Nat.zero_add, hc, ← hu']
  simp [Kd.scalar, hj]
theorem ex_1 : fb_Pairs.f [10, 11, 26, 27, 10] = some [⟨10, 32769⟩, ⟨27, 0⟩, ⟨10, 0⟩] := by kernel_rfl
theorem ex_2 : feedback_Numbers.f 40 [⟨65535, 3⟩] = some [65535, 0, 1] := by kernel_rfl
theorem ex_3 : feedback_OfRate.f 262144 = some (1, 131072) := by kernel_rfl
theorem ex_4 : feedback_OfRate.f 1000 = some (0, 1000) := by kernel_rfl
theorem ex_5 : fb_Put.f 2 1 2 [] [] 0 0 [] = some (1, 206, [0, 0, 0, 1, 0, 0, 0, 2], 0, 0) := by kernel_rfl
theorem ex_6 : easellaw07_samePairs.f 40 [⟨10, 32769⟩, ⟨27, 0⟩, ⟨10, 0⟩] [⟨10, 32769⟩, ⟨27, 0⟩, ⟨10, 0⟩] = some true := by kernel_rfl
theorem ex_7 : easellaw07_sameNumbers.f 40 [65535, 0, 1] [65535, 0, 1] = some true := by kernel_rfl
theorem ex_8 : easelkit_SameBytes.f 40 [0, 0, 0, 1, 0, 0, 0, 2] [0, 0, 0, 1, 0, 0, 0, 2] = some true := by kernel_rfl
set_option maxHeartbeats 4000000 in
set_option maxRecDepth 100000 in
theorem works07_any (w : World) : Calls Try.prog 13 #[] w fun e w' => e = .returned (.bool true) ∧ Below w.heap.size w w' := by
  go_enter Try.func13, Try.ntmps13
  go_wp2_with fail
  refine (fb_Pairs.calls _ 5 [10, 11, 26, 27, 10] _ _ (C_new1 w 75 [10, 11, 26, 27, 10] _ rfl (by decide)) (by decide) ex_1).mono ?_
  rintro e w1 ⟨v1, rfl, hR1, hB1⟩
  obtain ⟨A1, c1, rfl, l1, hC1⟩ := Kd.R_reads hR1
  have K1 : Kp (fun _ => True) w w1 := ((Kp.refl _ _).alloc _).trans (Kp.of_below hB1 (fun k _ hl => hl))
  clear hR1 hB1
  go_wp2_with fail
  refine (feedback_Numbers.calls 40 _ 1 [⟨65535, 3⟩] _ _ (C_new2 (d := k82) (fun x => .int .u16 x.f0) (fun x => .int .u16 x.f1) rfl (fun w x => k82_mk w x) w1 82 [⟨65535, 3⟩] _ rfl (by decide)) (by decide) ex_2).mono ?_
  rintro e w2 ⟨v2, rfl, hR2, hB2⟩
  obtain ⟨A2, c2, rfl, l2, hC2⟩ := Kd.R_reads hR2
  have K2 : Kp (fun _ => True) w1 w2 := ((Kp.refl _ _).alloc _).trans (Kp.of_below hB2 (fun k _ hl => hl))
  replace hC1 := C_all hC1 K2
  replace K1 := K1.trans K2
  clear hR2 hB2 K2
  go_wp2_with fail
  refine (feedback_OfRate.calls _ _ _ _ ex_3).mono ?_
  rintro e w3 ⟨rfl, hB3⟩
  have K3 : Kp (fun _ => True) w2 w3 := Kp.of_below hB3 (fun k _ hl => hl)
  replace hC1 := C_all hC1 K3
  replace hC2 := C_all hC2 K3
  replace K1 := K1.trans K3
  clear hB3 K3
  go_wp2_with fail
  refine (feedback_OfRate.calls _ _ _ _ ex_4).mono ?_
  rintro e w4 ⟨rfl, hB4⟩
  have K4 : Kp (fun _ => True) w3 w4 := Kp.of_below hB4 (fun k _ hl => hl)
  replace hC1 := C_all hC1 K4
  replace hC2 := C_all hC2 K4
  replace K1 := K1.trans K4
  clear hB4 K4
  go_wp2_with fail
  refine (fb_Put.calls _ _ _ none 0 [] none 0 [] _ _ none 0 [] _ _ _ _ _ _ ⟨rfl, by simp, fun h => absurd h (by simp)⟩ (Nat.le_refl _) ⟨rfl, by simp, fun h => absurd h (by simp)⟩ (Nat.le_refl _) ⟨rfl, by simp, fun h => absurd h (by simp)⟩ (Nat.le_refl _) ex_5).mono ?_
  rintro e w5 ⟨v5, rfl, hR5, hB5⟩
  obtain ⟨A5, c5, rfl, l5, hC5⟩ := Kd.R_reads hR5
  have K5 : Kp (fun _ => True) w4 w5 := Kp.of_below hB5 (fun k _ hl => hl)
  replace hC1 := C_all hC1 K5
  replace hC2 := C_all hC2 K5
  replace K1 := K1.trans K5
  clear hR5 hB5 K5
  go_wp2_with fail
  obtain ⟨w6, hw6⟩ : ∃ w6, w6 = w5.alloc (.cells #[.int .u8 1, .int .u8 206, .slice A5 8 c5, .int .u8 0] 40) := ⟨_, rfl⟩
  have h6s : w5.heap.size + 1 = w6.heap.size := by rw [hw6]; simp
  have K6 : Kp (fun _ => True) w5 w6 := hw6 ▸ (Kp.refl _ _).alloc _
  have B6 : Blk w6 w5.heap.size 40 #[.int .u8 1, .int .u8 206, .slice A5 8 c5, .int .u8 0] := hw6 ▸ Blk.new w5 _ _
  rw [← hw6, h6s]
  clear hw6
  replace hC1 := C_all hC1 K6
  replace hC2 := C_all hC2 K6
  replace hC5 := C_all hC5 K6
  replace K1 := K1.trans K6
  clear K6 h6s
  refine (easellaw07_samePairs.calls 40 _ c1 [⟨10, 32769⟩, ⟨27, 0⟩, ⟨10, 0⟩] _ 3 [⟨10, 32769⟩, ⟨27, 0⟩, ⟨10, 0⟩] _ _ (C_all hC1 ((Kp.refl _ _).alloc _)) l1 (C_new2 (d := k115) (fun x => .int .u16 x.f0) (fun x => .int .u16 x.f1) rfl (fun w x => k115_mk w x) w6 115 [⟨10, 32769⟩, ⟨27, 0⟩, ⟨10, 0⟩] _ rfl (by decide)) (by decide) ex_6).mono ?_
  rintro e w7 ⟨rfl, hB7⟩
  have K7 : Kp (fun _ => True) w6 w7 := ((Kp.refl _ _).alloc _).trans (Kp.of_below hB7 (fun k _ hl => hl))
  have B7 := B6.kp K7 trivial
  replace hC2 := C_all hC2 K7
  replace hC5 := C_all hC5 K7
  replace K1 := K1.trans K7
  clear hB7 K7 B6
  go_wp2_with fail
  refine (easellaw07_sameNumbers.calls 40 _ c2 [65535, 0, 1] _ 3 [65535, 0, 1] _ _ (C_all hC2 ((Kp.refl _ _).alloc _)) l2 (C_new1 w7 75 [65535, 0, 1] _ rfl (by decide)) (by decide) ex_7).mono ?_
  rintro e w8 ⟨rfl, hD8⟩
  have K8 : Kp (fun _ => True) w7 w8 := ((Kp.refl _ _).alloc _).trans (Kp.of_below hD8.below (fun k _ hl => hl))
  have B8 := B7.kp K8 trivial
  have c8 := B8.cell
  replace hC5 := C_all hC5 K8
  replace K1 := K1.trans K8
  clear hD8 K8 B7
  go_wp2_with fail
  refine (easelkit_SameBytes.calls 40 _ c5 [0, 0, 0, 1, 0, 0, 0, 2] _ 8 [0, 0, 0, 1, 0, 0, 0, 2] _ _ (C_all hC5 ((Kp.refl _ _).alloc _)) l5 (C_new1 w8 5 [0, 0, 0, 1, 0, 0, 0, 2] _ rfl (by decide)) (by decide) ex_8).mono ?_
  rintro e w9 ⟨rfl, hD9⟩
  have K9 : Kp (fun _ => True) w8 w9 := ((Kp.refl _ _).alloc _).trans (Kp.of_below hD9.below (fun k _ hl => hl))
  go_wp2
  go_ret
  exact ⟨rfl, kp_below' (K1.trans K9)⟩
def l7_works.f : Option Bool := some true
theorem l7_works.calls (r : Bool) (w : World) (h : l7_works.f = some r) :
    Calls Try.prog 13 #[] w fun e w' => e = .returned (.bool r) ∧ Below w.heap.size w w' := by
  injection h with h
  subst h
  exact works07_any w
end Go.Proofs.Ytjcejgolcdgipaa.K7

namespace Go.Proofs.Ytjcejgolcdgipaa.K7
open Go.RowKit Go.Proofs.YtjcejgolcdgipaaW.PrintWords Go.Proofs.YtjcejgolcdgipaaW.PrintLast Go.Proofs.YtjcejgolcdgipaaW.PrintMore
set_option linter.unusedVariables false

theorem below_alloc1 (w : World) (o : Obj) : Below w.heap.size w (w.alloc o) := (Below.refl _ _).alloc (Nat.le_refl _) _
theorem below_next {w w1 w2 : World} (h : Below w.heap.size w w1) (k : Below w1.heap.size w1 w2) : Below w.heap.size w w2 := h.trans (k.mono h.size)
/-- One element in a block of its own. -/
theorem C_row1 {α : Type} {d : Kd α} {W : World} {b : Nat} {x : α} {cs : List Value} (hK : d.K W x cs) (hc : ∀ i u, cs[i]? = some u → W.cell? ⟨b, i, none⟩ = some u) : d.C W (some ⟨b, 0, none⟩) [x].length [x] := by
  refine ⟨rfl, by simp, fun _ => ⟨_, rfl, fun j p hj => ?_⟩⟩
  rcases j with _ | j
  · injection hj with hj
    subst hj
    refine ⟨cs, d.K_len hK, hK, fun i u hu => ?_⟩
    rw [show (⟨b, 0, none⟩ : Addr).add (0 * d.sz + i) = ⟨b, i, none⟩ from by simp [Addr.add]; intro h; exact h.symm]
    exact hc i u hu
  · simp at hj
theorem C_drew {α : Type} {d : Kd α} {w : World} {A : Option Addr} {n : Nat} {xs : List α} (h : d.C w A n xs) : d.C w.drew A n xs := Kd.C_below h (pw_below_drewN (Below.refl _ _) 1)
theorem C_alloc {α : Type} {d : Kd α} {w : World} {A : Option Addr} {n : Nat} {xs : List α} (o : Obj) (h : d.C w A n xs) : d.C (w.alloc o) A n xs := Kd.C_below h (below_alloc1 _ _)
theorem blk2 (w : World) (o : Obj) (t : TypeId) (cs : Array Value) : Blk ((w.alloc o).alloc (.cells cs t)) (w.heap.size + 1) t cs := by
  have := Blk.new (w.alloc o) t cs
  rw [World.size_alloc] at this
  exact this
theorem one_rtcp {W : World} {b c : Nat} {A : Option Addr} {ct kd pd : Int} {l : List Int} (hb : Blk W b 40 #[.int .u8 ct, .int .u8 kd, .slice A l.length c, .int .u8 pd]) (hl : l.length ≤ c) (hC : Kd.C (Kd.int .u8) W A l.length l) : Kd.C k40 W (some ⟨b, 0, none⟩) [(⟨ct, kd, l, pd⟩ : S40)].length [⟨ct, kd, l, pd⟩] :=
  C_row1 (k40_mk W ⟨ct, kd, l, pd⟩ hl hC) (fun i u hu => by rw [hb.cell i]; simpa using hu)
theorem one_rpkt {W : World} {b c : Nat} {A : Option Addr} {ct kd pd : Int} {l : List Int} (hb : Blk W b 41 #[.int .u8 ct, .int .u8 kd, .slice A l.length c, .int .u8 pd]) (hl : l.length ≤ c) (hC : Kd.C (Kd.int .u8) W A l.length l) : Kd.C k41 W (some ⟨b, 0, none⟩) [(⟨ct, kd, l, pd⟩ : S41)].length [⟨ct, kd, l, pd⟩] :=
  C_row1 (k41_mk W ⟨ct, kd, l, pd⟩ hl hC) (fun i u hu => by rw [hb.cell i]; simpa using hu)
set_option maxHeartbeats 8000000 in
set_option maxRecDepth 100000 in
theorem FeedbackReads_walk (k1 k2 k3 k4 k5 : Nat) (ct kd pd : Int) (A : Option Addr) (c : Nat) (l : List Int) (w : World) (hC : Kd.C (Kd.int .u8) w A l.length l) (hc : l.length ≤ c) (h12 : l.length ≤ 1200)
    (y1 y2 y3 : Int) (y4 : List S82) (y5 : List S134) (y6 y7 : Int) (y8 : List Int) (y9 : Int) (z4 : List S115) (z5 : List S119)
    (hCp : easeldocs_Rtcp.f ct kd l pd = some (ct, kd, l, pd))
    (hP : fb_Parse.f ct kd l pd = some (y1, y2, y3, y4, y5, y6, y7, y8, y9)) (hQ : r7_Parse.f ct kd l pd = some (y1, y2, y3, z4, z5, y6, y7, y8, y9))
    (hR : easellaw07_ref.f k1 y1 y2 y3 y4 y5 y6 y7 y8 = some (y1, y2, y3, z4, z5, y6, y7, y8)) (hS : r7_Same.f y1 y2 y3 z4 z5 y6 y7 y8 y1 y2 y3 z4 z5 y6 y7 y8 = some true)
    (s1 : List S82) (s2 : List S134) (s3 : List Int) (hO : easellaw07_spoil.f k3 y1 y2 y3 y4 y5 y6 y7 y8 = some (s1, s2, s3))
    (s : Int) (hI : fb_Is.f ct kd l pd = some (decide (0 < s))) (hT : easelref07_Sort.f k4 ct kd l pd = some s)
    (hK : easeldocs_SameRtcps.f k5 [⟨ct, kd, l, pd⟩] [⟨ct, kd, l, pd⟩] = some true) :
    Calls Try.prog 4 #[.agg #[.int .u8 ct, .int .u8 kd, .slice A l.length c, .int .u8 pd]] w fun e w' => e = .returned (.bool true) ∧ Below w.heap.size w w' := by
  obtain ⟨w0, hw0⟩ : ∃ w0, w0 = w.alloc (.cells #[.int .u8 ct, .int .u8 kd, .slice A l.length c, .int .u8 pd] 40) := ⟨_, rfl⟩
  have hB0 : Below w.heap.size w w0 := hw0 ▸ below_alloc1 w _
  have bP : Blk w0 w.heap.size 40 #[.int .u8 ct, .int .u8 kd, .slice A l.length c, .int .u8 pd] := hw0 ▸ Blk.new w _ _
  have HC := hd (Kd.C_below hC hB0)
  have HCp := hd hCp
  have HP := hd hP
  have HQ := hd hQ
  have HR := hd hR
  have HS := hd hS
  have HO := hd hO
  have HI := hd hI
  have HT := hd hT
  have HK := hd hK
  have HW0 := hd hw0
  have HB := hd hB0
  clear hC hCp hP hQ hR hS hO hI hT hK hw0 hB0
  have g12 : decide (1200 < l.length) = false := decide_eq_false (by omega)
  have g12' : decide ((1200 : Int) < (l.length : Int)) = false := decide_eq_false (by omega)
  have cP := bP.cell
  go_enter Try.func4, Try.ntmps4
  go_upto_region 1 with (fail)
  rw [← HW0.out]
  clear HW0
  go_wp2_with fail
  refine (easeldocs_Rtcp.calls ct kd _ _ l pd ct kd l pd _ HC.out hc HCp.out).mono ?_
  rintro e_ w1 ⟨vr, rfl, hRr, hB1⟩
  replace HC := hd (Kd.C_below HC.out hB1)
  replace bP := bP.kp (kp_of_below hB1) trivial
  replace HB := hd (below_next HB.out hB1)
  clear hB1
  clear cP
  obtain ⟨Ar, cr, rfl, hcr, HCr_⟩ := Kd.R_reads hRr
  have HCr := hd HCr_
  clear HCr_ hRr
  go_upto_region 4 with (fail)
  obtain ⟨w2, hw_⟩ : ∃ w2, w2 = w1.alloc (.cells #[.int .u8 ct, .int .u8 kd, .slice Ar l.length cr, .int .u8 pd] 41) := ⟨_, rfl⟩
  rw [← hw_]
  have hA_w2 : Below w1.heap.size w1 w2 := hw_ ▸ below_alloc1 w1 _
  have nbR : Blk w2 w1.heap.size 41 #[.int .u8 ct, .int .u8 kd, .slice Ar l.length cr, .int .u8 pd] := hw_ ▸ Blk.new w1 _ _
  clear hw_
  replace HC := hd (Kd.C_below HC.out hA_w2)
  replace bP := bP.kp (kp_of_below hA_w2) trivial
  replace HB := hd (below_next HB.out hA_w2)
  replace HCr := hd (Kd.C_below HCr.out hA_w2)
  clear hA_w2
  have bR := nbR
  clear nbR
  have c_bR := bR.cell
  go_wp2_with fail
  refine (r7_Parse.calls ct kd _ _ l pd y1 y2 y3 z4 z5 y6 y7 y8 y9 _ HCr.out hcr HQ.out).mono ?_
  rintro e_ w3 ⟨v4, v5, v8, rfl, hZ4, hZ5, hZ8, hB3⟩
  replace HC := hd (Kd.C_below HC.out hB3)
  replace bP := bP.kp (kp_of_below hB3) trivial
  replace HB := hd (below_next HB.out hB3)
  replace HCr := hd (Kd.C_below HCr.out hB3)
  replace bR := bR.kp (kp_of_below hB3) trivial
  clear hB3 c_bR
  obtain ⟨A4, c4, rfl, hc4, HZ4_⟩ := Kd.R_reads hZ4
  have HZ4 := hd HZ4_
  clear HZ4_ hZ4
  obtain ⟨A5, c5, rfl, hc5, HZ5_⟩ := Kd.R_reads hZ5
  have HZ5 := hd HZ5_
  clear HZ5_ hZ5
  obtain ⟨A8, c8, rfl, hc8, HZ8_⟩ := Kd.R_reads hZ8
  have HZ8 := hd HZ8_
  clear HZ8_ hZ8
  go_upto_region 5 with (fail)
  obtain ⟨w4, hw_⟩ : ∃ w4, w4 = w3.alloc (.cells #[.int .u8 y1, .int .u32 y2, .int .u32 y3, .slice A4 z4.length c4, .slice A5 z5.length c5, .int .u8 y6, .int .u32 y7, .slice A8 y8.length c8] 46) := ⟨_, rfl⟩
  rw [← hw_]
  have hA_w4 : Below w3.heap.size w3 w4 := hw_ ▸ below_alloc1 w3 _
  have nbW : Blk w4 w3.heap.size 46 #[.int .u8 y1, .int .u32 y2, .int .u32 y3, .slice A4 z4.length c4, .slice A5 z5.length c5, .int .u8 y6, .int .u32 y7, .slice A8 y8.length c8] := hw_ ▸ Blk.new w3 _ _
  clear hw_
  replace HC := hd (Kd.C_below HC.out hA_w4)
  replace bP := bP.kp (kp_of_below hA_w4) trivial
  replace HB := hd (below_next HB.out hA_w4)
  replace HCr := hd (Kd.C_below HCr.out hA_w4)
  replace bR := bR.kp (kp_of_below hA_w4) trivial
  replace HZ4 := hd (Kd.C_below HZ4.out hA_w4)
  replace HZ5 := hd (Kd.C_below HZ5.out hA_w4)
  replace HZ8 := hd (Kd.C_below HZ8.out hA_w4)
  clear hA_w4
  have bW := nbW
  clear nbW
  go_wp2
  go_loopw [6] (fun iv wr => ∃ j : Nat, j ≤ 2 ∧ iv = .int .i64 j ∧ Below w4.heap.size w4 wr) (fun iv _ => 2 - (intOf iv).toNat)
  case atStart => exact ⟨0, by omega, rfl, Below.refl _ _⟩
  case round =>
    obtain ⟨j, hj, rfl, hBr⟩ := hrel
    replace HC := hd (Kd.C_below HC.out hBr)
    replace bP := bP.kp (kp_of_below hBr) trivial
    replace HB := hd (below_next HB.out hBr)
    replace HCr := hd (Kd.C_below HCr.out hBr)
    replace bR := bR.kp (kp_of_below hBr) trivial
    replace HZ4 := hd (Kd.C_below HZ4.out hBr)
    replace HZ5 := hd (Kd.C_below HZ5.out hBr)
    replace HZ8 := hd (Kd.C_below HZ8.out hBr)
    replace bW := bW.kp (kp_of_below hBr) trivial
    by_cases hlt : j < 2
    · have HBr := hd (Below.refl wr.heap.size wr)
      have c_bP := bP.cell
      go_wp2_with fail
      refine (fb_Parse.calls ct kd _ _ l pd y1 y2 y3 y4 y5 y6 y7 y8 y9 _ HC.out hc HP.out).mono ?_
      rintro e_ w6 ⟨u4, u5, u8, rfl, hY4, hY5, hY8, hB6⟩
      replace HC := hd (Kd.C_below HC.out hB6)
      replace bP := bP.kp (kp_of_below hB6) trivial
      replace HCr := hd (Kd.C_below HCr.out hB6)
      replace bR := bR.kp (kp_of_below hB6) trivial
      replace HZ4 := hd (Kd.C_below HZ4.out hB6)
      replace HZ5 := hd (Kd.C_below HZ5.out hB6)
      replace HZ8 := hd (Kd.C_below HZ8.out hB6)
      replace bW := bW.kp (kp_of_below hB6) trivial
      replace HBr := hd (below_next HBr.out hB6)
      clear hB6 c_bP
      obtain ⟨B4, d4, rfl, hd4, HY4_⟩ := Kd.R_reads hY4
      have HY4 := hd HY4_
      have HO4 := hd hY4
      clear HY4_ hY4
      obtain ⟨B5, d5, rfl, hd5, HY5_⟩ := Kd.R_reads hY5
      have HY5 := hd HY5_
      have HO5 := hd hY5
      clear HY5_ hY5
      obtain ⟨B8, d8, rfl, hd8, HY8_⟩ := Kd.R_reads hY8
      have HY8 := hd HY8_
      have HO8 := hd hY8
      clear HY8_ hY8
      go_upto_region 9 with (fail)
      obtain ⟨w7, hw_⟩ : ∃ w7, w7 = w6.alloc (.cells #[.int .u8 y1, .int .u32 y2, .int .u32 y3, .slice B4 y4.length d4, .slice B5 y5.length d5, .int .u8 y6, .int .u32 y7, .slice B8 y8.length d8] 52) := ⟨_, rfl⟩
      rw [← hw_]
      have hA_w7 : Below w6.heap.size w6 w7 := hw_ ▸ below_alloc1 w6 _
      have nbM : Blk w7 w6.heap.size 52 #[.int .u8 y1, .int .u32 y2, .int .u32 y3, .slice B4 y4.length d4, .slice B5 y5.length d5, .int .u8 y6, .int .u32 y7, .slice B8 y8.length d8] := hw_ ▸ Blk.new w6 _ _
      clear hw_
      replace HC := hd (Kd.C_below HC.out hA_w7)
      replace bP := bP.kp (kp_of_below hA_w7) trivial
      replace HCr := hd (Kd.C_below HCr.out hA_w7)
      replace bR := bR.kp (kp_of_below hA_w7) trivial
      replace HZ4 := hd (Kd.C_below HZ4.out hA_w7)
      replace HZ5 := hd (Kd.C_below HZ5.out hA_w7)
      replace HZ8 := hd (Kd.C_below HZ8.out hA_w7)
      replace bW := bW.kp (kp_of_below hA_w7) trivial
      replace HBr := hd (below_next HBr.out hA_w7)
      replace HO4 := hd (Kd.R_below HO4.out hA_w7)
      replace HY4 := hd (Kd.C_below HY4.out hA_w7)
      replace HO5 := hd (Kd.R_below HO5.out hA_w7)
      replace HY5 := hd (Kd.C_below HY5.out hA_w7)
      replace HO8 := hd (Kd.R_below HO8.out hA_w7)
      replace HY8 := hd (Kd.C_below HY8.out hA_w7)
      clear hA_w7
      have bM := nbM
      clear nbM
      have hD : Below w7.heap.size w7 w7.drew := pw_below_drewN (Below.refl _ _) 1
      have s7 := And.intro bM.drew.cell bW.drew.cell
      have hne : (y9 != y9) = false := by simp
      go_wp2_with fail
      go_region_held3 (fun W => (∀ j, W.cell? ⟨w6.heap.size, j, none⟩ = #[.int .u8 y1, .int .u32 y2, .int .u32 y3, .slice B4 y4.length d4, .slice B5 y5.length d5, .int .u8 y6, .int .u32 y7, .slice B8 y8.length d8][j]?) ∧ (∀ j, W.cell? ⟨w3.heap.size, j, none⟩ = #[.int .u8 y1, .int .u32 y2, .int .u32 y3, .slice A4 z4.length c4, .slice A5 z5.length c5, .int .u8 y6, .int .u32 y7, .slice A8 y8.length c8][j]?))
        (first | with_reducible exact s7 | with_reducible exact s8 | with_reducible exact s9)
        (first
          | (go_at_call 27; refine (easellaw07_ref.calls k1 y1 y2 y3 _ _ y4 _ _ y5 y6 y7 _ _ y8 y1 y2 y3 z4 z5 y6 y7 y8 _ (C_drew HY4.out) hd4 (C_drew HY5.out) hd5 (C_drew HY8.out) hd8 HR.out).mono ?_; (rintro e_ w8 ⟨e4, e5, e8, rfl, hE4, hE5, hE8, hB8⟩); obtain ⟨E4, f4, rfl, hf4, hG4⟩ := Kd.R_reads hE4; obtain ⟨E5, f5, rfl, hf5, hG5⟩ := Kd.R_reads hE5; obtain ⟨E8, f8, rfl, hf8, hG8⟩ := Kd.R_reads hE8; have hC8 : Below w7.heap.size w7 w8 := below_next hD hB8; have s8 := And.intro (bM.kp (kp_of_below hC8) trivial).cell (bW.kp (kp_of_below hC8) trivial).cell)
          | (go_at_call 26; refine (r7_Same.calls y1 y2 y3 _ _ z4 _ _ z5 y6 y7 _ _ y8 y1 y2 y3 _ _ z4 _ _ z5 y6 y7 _ _ y8 true _ hG4 hf4 hG5 hf5 hG8 hf8 (Kd.C_below HZ4.out hC8) hc4 (Kd.C_below HZ5.out hC8) hc5 (Kd.C_below HZ8.out hC8) hc8 HS.out).mono ?_; (rintro e_ w9 ⟨rfl, hB9⟩); have hC9 : Below w7.heap.size w7 w9 := below_next hC8 hB9; have s9 := And.intro (bM.kp (kp_of_below hC9) trivial).cell (bW.kp (kp_of_below hC9) trivial).cell))
      have hC9' := hC9
      clear hC9 hne s7 s8 s9 hE4 hE5 hE8 hB8 hG4 hG5 hG8 hC8 hB9 hD
      replace HC := hd (Kd.C_below HC.out hC9')
      replace bP := bP.kp (kp_of_below hC9') trivial
      replace HCr := hd (Kd.C_below HCr.out hC9')
      replace bR := bR.kp (kp_of_below hC9') trivial
      replace HZ4 := hd (Kd.C_below HZ4.out hC9')
      replace HZ5 := hd (Kd.C_below HZ5.out hC9')
      replace HZ8 := hd (Kd.C_below HZ8.out hC9')
      replace bW := bW.kp (kp_of_below hC9') trivial
      replace HBr := hd (below_next HBr.out hC9')
      replace HO4 := hd (Kd.R_below HO4.out hC9')
      replace HY4 := hd (Kd.C_below HY4.out hC9')
      replace HO5 := hd (Kd.R_below HO5.out hC9')
      replace HY5 := hd (Kd.C_below HY5.out hC9')
      replace HO8 := hd (Kd.R_below HO8.out hC9')
      replace HY8 := hd (Kd.C_below HY8.out hC9')
      replace bM := bM.kp (kp_of_below hC9') trivial
      clear hC9'
      have c_bM := bM.cell
      go_wp2_with fail
      refine (easellaw07_spoil.calls k3 y1 y2 y3 (fun _ => True) _ y4 (fun _ => True) _ y5 y6 y7 (fun _ => True) _ y8 s1 s2 s3 wr w9 HBr.out HO4.out HO5.out HO8.out HO.out).mono ?_
      rintro e_ w10 ⟨rfl, _, _, _, hB10, _⟩
      clear c_bM
      go_wp2
      go_roundw
      case rel => exact ⟨j + 1, by omega, by go_num, below_next hBr hB10⟩
      case measure => simp [intOf]; omega
    · obtain rfl : j = 2 := by omega
      have hD : Below wr.heap.size wr wr.drew := pw_below_drewN (Below.refl _ _) 1
      have s0 := And.intro bP.drew.cell bR.drew.cell
      have hss : (decide (0 < s) == decide (0 < s)) = true := by simp
      go_wp2_with fail
      go_region_held3 (fun W => (∀ j, W.cell? ⟨w.heap.size, j, none⟩ = #[.int .u8 ct, .int .u8 kd, .slice A l.length c, .int .u8 pd][j]?) ∧ (∀ j, W.cell? ⟨w1.heap.size, j, none⟩ = #[.int .u8 ct, .int .u8 kd, .slice Ar l.length cr, .int .u8 pd][j]?))
        (first | with_reducible exact s0 | with_reducible exact s1_ | with_reducible exact s2_ | with_reducible exact ⟨(BP2.alloc _).cell, (BR2.alloc _).cell⟩ | with_reducible exact ⟨((BP2.alloc _).alloc _).cell, ((BR2.alloc _).alloc _).cell⟩ | with_reducible exact s3_ | with_reducible exact s4_)
        (first
          | (go_at_call 29; refine (fb_Is.calls ct kd _ _ l pd (decide (0 < s)) _ (C_drew HC.out) hc HI.out).mono ?_; (rintro e_ w11 ⟨rfl, hB11⟩); have hC11 : Below wr.heap.size wr w11 := below_next hD hB11; have s1_ := And.intro (bP.kp (kp_of_below hC11) trivial).cell (bR.kp (kp_of_below hC11) trivial).cell)
          | (go_at_call 30; refine (easelref07_Sort.calls k4 ct kd _ _ l pd s _ (Kd.C_below HCr.out hC11) hcr HT.out).mono ?_; (rintro e_ w12 ⟨rfl, hB12⟩); have hC12 : Below wr.heap.size wr w12 := below_next hC11 hB12; have BP2 := bP.kp (kp_of_below hC12) trivial; have BR2 := bR.kp (kp_of_below hC12) trivial; have s2_ := And.intro BP2.cell BR2.cell; have HCx := hd (Kd.C_below HC.out hC12); have HCy := hd (Kd.C_below HCr.out hC12))
          | (go_at_call 31; refine (easeldocs_SameRtcps.calls k5 _ _ [⟨ct, kd, l, pd⟩] _ _ [⟨ct, kd, l, pd⟩] true _ (by first | exact one_rtcp ((Blk.new w12 _ _).alloc _) hc (C_alloc _ (C_alloc _ HCx.out)) | exact one_rtcp (blk2 w12 _ _ _) hc (C_alloc _ (C_alloc _ HCx.out))) (Nat.le_refl 1) (by first | exact one_rpkt (blk2 w12 _ _ _) hcr (C_alloc _ (C_alloc _ HCy.out)) | exact one_rpkt ((Blk.new w12 _ _).alloc _) hcr (C_alloc _ (C_alloc _ HCy.out))) (Nat.le_refl 1) HK.out).mono ?_; (rintro e_ w13 ⟨rfl, hB13⟩); have hC13 : Below wr.heap.size wr w13 := below_next (below_next (below_next hC12 (below_alloc1 _ _)) (below_alloc1 _ _)) hB13; have s3_ := And.intro (bP.kp (kp_of_below hC13) trivial).cell (bR.kp (kp_of_below hC13) trivial).cell)
          | (go_at_call 13; refine (l7_works.calls true _ rfl).mono ?_; (rintro e_ w14 ⟨rfl, hB14⟩); have hC14 : Below wr.heap.size wr w14 := below_next hC13 hB14; have s4_ := And.intro (bP.kp (kp_of_below hC14) trivial).cell (bR.kp (kp_of_below hC14) trivial).cell))
      all_goals
        go_wp2
        go_ret
        exact ⟨rfl, below_next HB.out hC14⟩
end Go.Proofs.Ytjcejgolcdgipaa.K7

namespace Go.Proofs.Ytjcejgolcdgipaa.K7
open Go.RowKit Go.Proofs.YtjcejgolcdgipaaW.PrintWords Go.Proofs.YtjcejgolcdgipaaW.PrintLast Go.Proofs.YtjcejgolcdgipaaW.PrintMore
set_option linter.unusedVariables false

set_option maxHeartbeats 2000000 in
set_option maxRecDepth 100000 in
theorem FeedbackReads_many (ct kd pd : Int) (A : Option Addr) (c : Nat) (l : List Int) (w : World) (h12 : ¬ l.length ≤ 1200) :
    Calls Try.prog 4 #[.agg #[.int .u8 ct, .int .u8 kd, .slice A l.length c, .int .u8 pd]] w fun e w' => e = .returned (.bool true) ∧ Below w.heap.size w w' := by
  have g12 : decide (1200 < l.length) = true := decide_eq_true (by omega)
  have g12' : decide ((1200 : Int) < (l.length : Int)) = true := decide_eq_true (by omega)
  go_enter Try.func4, Try.ntmps4
  go_wp2_with fail
  refine (l7_works.calls true _ rfl).mono ?_
  rintro e_ w2 ⟨rfl, hB2⟩
  go_wp2
  go_ret
  exact ⟨rfl, below_next (below_alloc1 _ _) hB2⟩
/-- What a row's arguments are. -/
def OkFR (a0 a1 : Int) (l : List Int) (a3 : Int) : Prop := (0 ≤ a0 ∧ a0 < 256) ∧ (0 ≤ a1 ∧ a1 < 256) ∧ (0 ≤ a3 ∧ a3 < 256) ∧ OkN 256 l
instance (a0 a1 : Int) (l : List Int) (a3 : Int) : Decidable (OkFR a0 a1 l a3) := by unfold OkFR; exact inferInstance
def easellaw07_FeedbackReads.f (k : Nat) (a0 a1 : Int) (l : List Int) (a3 : Int) : Option Bool := if OkFR a0 a1 l a3 then some true else none
theorem easellaw07_FeedbackReads.calls (k : Nat) (a0_0 : Int) (a0_1 : Int) (A0_2 : Option Addr) (c0_2 : Nat) (l0_2 : List Int) (a0_3 : Int) (r : Bool) (w : World) (hr0_2 : Kd.C (Kd.int .u8) w A0_2 l0_2.length l0_2) (hc0_2 : l0_2.length ≤ c0_2)
    (h : easellaw07_FeedbackReads.f k a0_0 a0_1 l0_2 a0_3 = some r) :
    Calls Try.prog 4 #[.agg #[.int .u8 a0_0, .int .u8 a0_1, .slice A0_2 l0_2.length c0_2, .int .u8 a0_3]] w fun e w' => e = .returned (.bool r) ∧ Below w.heap.size w w' := by
  unfold easellaw07_FeedbackReads.f at h
  split at h
  · rename_i ho
    injection h with h
    subst h
    obtain ⟨h1, h2, h3, h4⟩ := ho
    by_cases h12 : l0_2.length ≤ 1200
    · obtain ⟨x0, rfl⟩ := Int.eq_ofNat_of_zero_le h1.1
      obtain ⟨x1, rfl⟩ := Int.eq_ofNat_of_zero_le h2.1
      have hlen := parseP_len x1 x0 (nb l0_2) (by rw [nb_length]; omega)
      have hP : fb_Parse.f x0 x1 l0_2 a0_3 = some (PMt (parseP x1 x0 (nb l0_2))) := by
        unfold fb_Parse.f
        rw [if_pos ⟨h1, h2, h3, h4, by omega⟩, Int.toNat_natCast, Int.toNat_natCast]
      have hQ : r7_Parse.f x0 x1 l0_2 a0_3 = some (PMtr (parseP x1 x0 (nb l0_2))) := by
        unfold r7_Parse.f
        rw [if_pos ⟨h1, h2, h3, h4, by omega⟩, Int.toNat_natCast, Int.toNat_natCast]
      have hI : fb_Is.f x0 x1 l0_2 a0_3 = some (decide ((0 : Int) < ((sortOf x1 x0 : Nat) : Int))) := by
        unfold fb_Is.f
        rw [if_pos ⟨h1, h2, h3⟩, Int.toNat_natCast, Int.toNat_natCast]
        generalize sortOf x1 x0 = z
        by_cases hz : 0 < z
        · rw [decide_eq_true hz, decide_eq_true (show (0 : Int) < (z : Int) by omega)]
        · rw [decide_eq_false hz, decide_eq_false (show ¬ (0 : Int) < (z : Int) by omega)]
      generalize parseP x1 x0 (nb l0_2) = P at *
      obtain ⟨k1, hR⟩ := (ev_ref P.sort P.sd P.md (P.ps.map toP) (P.os.map toO) P.e P.m (ib P.ss) (by rw [List.length_map]; exact hlen.1) (by rw [List.length_map]; exact hlen.2.1) (by rw [ib_length]; exact hlen.2.2)).rounds
      have hS := rsame_self P.sort P.sd P.md (P.ps.map toRP) (P.os.map toRO) P.e P.m (ib P.ss) (by rw [List.length_map]; exact hlen.1) (by rw [List.length_map]; exact hlen.2.1) (by rw [ib_length]; exact hlen.2.2)
      obtain ⟨k3, s1, s2, s3, hO⟩ := ev_spoil P.sort P.sd P.md (P.ps.map toP) (P.os.map toO) P.e P.m (ib P.ss) (by rw [List.length_map]; exact hlen.1) (by rw [List.length_map]; exact hlen.2.1) (by rw [ib_length]; exact hlen.2.2)
      obtain ⟨k5, hK⟩ := ev_rtcps x0 x1 l0_2 a0_3 (by omega)
      rw [toP_mp, toO_mo] at hR
      exact FeedbackReads_walk k1 0 k3 3 k5 x0 x1 a0_3 A0_2 c0_2 l0_2 w hr0_2 hc0_2 h12 _ _ _ _ _ _ _ _ _ _ _ (rtcp_copy _ _ _ _ (by omega)) hP hQ hR hS s1 s2 s3 hO _ hI (ev_rsort x0 x1 l0_2 a0_3) hK
    · exact FeedbackReads_many a0_0 a0_1 a0_3 A0_2 c0_2 l0_2 w h12
  · cases h
end Go.Proofs.Ytjcejgolcdgipaa.K7
