/- Texts of this session, one behind the other, what the row does not use left out: walks and laws over plain data. -/
import Derived.Test.YtjcejgolcdgipaaPFP13
import Derived.Test.YtjcejgolcdgipaaPFP14
import Derived.Test.YtjcejgolcdgipaaPFP15
import Derived.Test.YtjcejgolcdgipaaPFP16
import Derived.Test.YtjcejgolcdgipaaPFP17

namespace Go.Proofs.Ytjcejgolcdgipaa.K7
open Go.RowKit Go.Proofs.YtjcejgolcdgipaaW.PrintWords Go.Proofs.YtjcejgolcdgipaaW.PrintLast Go.Proofs.YtjcejgolcdgipaaW.PrintMore
set_option linter.unusedVariables false

theorem flat2_get {α : Type} (f g : α → Value) (xs : List α) (j : Nat) (x : α) (h : xs[j]? = some x) (i : Nat) (u : Value) (hu : [f x, g x][i]? = some u) : (xs.flatMap fun x => [f x, g x])[j * 2 + i]? = some u := by
  induction xs generalizing j with
  | nil => simp at h
  | cons y l ih =>
    rw [List.flatMap_cons]
    rcases j with _ | j
    · simp at h
      subst h
      rw [Nat.zero_mul, Nat.zero_add, List.getElem?_append_left]
      · exact hu
      · have := (List.getElem?_eq_some_iff.1 hu).1
        exact this
    · rw [List.getElem?_cons_succ] at h
      rw [List.getElem?_append_right (by simp; omega)]
      have := ih j h
      rw [← this]
      congr 1
      simp
      omega
theorem C_new2 {α : Type} {d : Kd α} (f g : α → Value) (hz : d.sz = 2) (hK : ∀ w x, d.K w x [f x, g x]) (w : World) (t : TypeId) (xs : List α) (cells : Array Value) (hc : cells = (xs.flatMap fun x => [f x, g x]).toArray) (hl : xs.length ≤ 1000000) :
    Kd.C d (w.alloc (.cells cells t)) (some ⟨w.heap.size, 0, none⟩) xs.length xs := by
  refine ⟨rfl, by omega, fun _ => ⟨_, rfl, fun j p hj => ⟨[f p, g p], by rw [hz]; rfl, hK _ _, fun i u hu => ?_⟩⟩⟩
  rw [Addr.add_lit, cell_of_row _ _ _ _ _ _ (heap_alloc_new w _), Nat.zero_add, hz, hc]
  simpa using flat2_get f g xs j p hj i u hu
theorem C_new1 {α : Type} {enc : α → Value} {h1 : ∀ x, (enc x).oneCell' = true} (w : World) (t : TypeId) (xs : List α) (cells : Array Value) (hc : cells = (xs.map enc).toArray) (hl : xs.length ≤ 1000000) :
    Kd.C (Kd.scalar enc h1) (w.alloc (.cells cells t)) (some ⟨w.heap.size, 0, none⟩) xs.length xs := by
  refine ⟨rfl, by omega, fun _ => ⟨_, rfl, fun j p hj => ⟨[enc p], rfl, rfl, fun i u hu => ?_⟩⟩⟩
  have hi : i = 0 := by
    have := (List.getElem?_eq_some_iff.1 hu).1
    simpa using this
  subst hi
  have hu' : enc p = u := by simpa using hu
  rw [Addr.add_lit, cell_of_row _ _ _ _ _ _ (heap_alloc_new w _), Nat.zero_add, hc, ← hu']
  simp [Kd.scalar, hj]
theorem ex_1 : fb_Pairs.f [10, 11, 26, 27, 10] = some [⟨10, 32769⟩, ⟨27, 0⟩, ⟨10, 0⟩] := by kernel_rfl
theorem ex_2 : feedback_Numbers.f 40 [⟨65535, 3⟩] = some [65535, 0, 1] := by kernel_rfl
theorem ex_3 : feedback_OfRate.f 262144 = some (1, 131072) := by kernel_rfl
theorem ex_4 : feedback_OfRate.f 1000 = some (0, 1000) := by kernel_rfl
theorem ex_5 : fb_Put.f 2 1 2 [] [] 0 0 [] = some (1, 206, [0, 0, 0, 1, 0, 0, 0, 2], 0, 0) := by kernel_rfl
theorem ex_6 : easellaw07_samePairs.f 40 [⟨10, 32769⟩, ⟨27, 0⟩, ⟨10, 0⟩] [⟨10, 32769⟩, ⟨27, 0⟩, ⟨10, 0⟩] = some true := by kernel_rfl
theorem ex_7 : easellaw07_sameNumbers.f 40 [65535, 0, 1] [65535, 0, 1] = some true := by kernel_rfl
theorem ex_8 : easelkit_SameBytes.f 40 [0, 0, 0, 1, 0, 0, 0, 2] [0, 0, 0, 1, 0, 0, 0, 2] = some true := by kernel_rfl
set_option maxHeartbeats 4000000 in
set_option maxRecDepth 100000 in
theorem works07_any (w : World) : Calls Try.prog 13 #[] w fun e w' => e = .returned (.bool true) ∧ Below w.heap.size w w' := by
  go_enter Try.func13, Try.ntmps13
  go_wp2_with fail
  refine (fb_Pairs.calls _ 5 [10, 11, 26, 27, 10] _ _ (C_new1 w 75 [10, 11, 26, 27, 10] _ rfl (by decide)) (by decide) ex_1).mono ?_
  rintro e w1 ⟨v1, rfl, hR1, hB1⟩
  obtain ⟨A1, c1, rfl, l1, hC1⟩ := Kd.R_reads hR1
  have K1 : Kp (fun _ => True) w w1 := ((Kp.refl _ _).alloc _).trans (Kp.of_below hB1 (fun k _ hl => hl))
  clear hR1 hB1
  go_wp2_with fail
  refine (feedback_Numbers.calls 40 _ 1 [⟨65535, 3⟩] _ _ (C_new2 (d := k82) (fun x => .int .u16 x.f0) (fun x => .int .u16 x.f1) rfl (fun w x => k82_mk w x) w1 82 [⟨65535, 3⟩] _ rfl (by decide)) (by decide) ex_2).mono ?_
  rintro e w2 ⟨v2, rfl, hR2, hB2⟩
  obtain ⟨A2, c2, rfl, l2, hC2⟩ := Kd.R_reads hR2
  have K2 : Kp (fun _ => True) w1 w2 := ((Kp.refl _ _).alloc _).trans (Kp.of_below hB2 (fun k _ hl => hl))
  replace hC1 := C_all hC1 K2
  replace K1 := K1.trans K2
  clear hR2 hB2 K2
  go_wp2_with fail
  refine (feedback_OfRate.calls _ _ _ _ ex_3).mono ?_
  rintro e w3 ⟨rfl, hB3⟩
  have K3 : Kp (fun _ => True) w2 w3 := Kp.of_below hB3 (fun k _ hl => hl)
  replace hC1 := C_all hC1 K3
  replace hC2 := C_all hC2 K3
  replace K1 := K1.trans K3
  clear hB3 K3
  go_wp2_with fail
  refine (feedback_OfRate.calls _ _ _ _ ex_4).mono ?_
  rintro e w4 ⟨rfl, hB4⟩
  have K4 : Kp (fun _ => True) w3 w4 := Kp.of_below hB4 (fun k _ hl => hl)
  replace hC1 := C_all hC1 K4
  replace hC2 := C_all hC2 K4
  replace K1 := K1.trans K4
  clear hB4 K4
  go_wp2_with fail
  refine (fb_Put.calls _ _ _ none 0 [] none 0 [] _ _ none 0 [] _ _ _ _ _ _ ⟨rfl, by simp, fun h => absurd h (by simp)⟩ (Nat.le_refl _) ⟨rfl, by simp, fun h => absurd h (by simp)⟩ (Nat.le_refl _) ⟨rfl, by simp, fun h => absurd h (by simp)⟩ (Nat.le_refl _) ex_5).mono ?_
  rintro e w5 ⟨v5, rfl, hR5, hB5⟩
  obtain ⟨A5, c5, rfl, l5, hC5⟩ := Kd.R_reads hR5
  have K5 : Kp (fun _ => True) w4 w5 := Kp.of_below hB5 (fun k _ hl => hl)
  replace hC1 := C_all hC1 K5
  replace hC2 := C_all hC2 K5
  replace K1 := K1.trans K5
  clear hR5 hB5 K5
  go_wp2_with fail
  obtain ⟨w6, hw6⟩ : ∃ w6, w6 = w5.alloc (.cells #[.int .u8 1, .int .u8 206, .slice A5 8 c5, .int .u8 0] 40) := ⟨_, rfl⟩
  have h6s : w5.heap.size + 1 = w6.heap.size := by rw [hw6]; simp
  have K6 : Kp (fun _ => True) w5 w6 := hw6 ▸ (Kp.refl _ _).alloc _
  have B6 : Blk w6 w5.heap.size 40 #[.int .u8 1, .int .u8 206, .slice A5 8 c5, .int .u8 0] := hw6 ▸ Blk.new w5 _ _
  rw [← hw6, h6s]
  clear hw6
  replace hC1 := C_all hC1 K6
  replace hC2 := C_all hC2 K6
  replace hC5 := C_all hC5 K6
  replace K1 := K1.trans K6
  clear K6 h6s
  refine (easellaw07_samePairs.calls 40 _ c1 [⟨10, 32769⟩, ⟨27, 0⟩, ⟨10, 0⟩] _ 3 [⟨10, 32769⟩, ⟨27, 0⟩, ⟨10, 0⟩] _ _ (C_all hC1 ((Kp.refl _ _).alloc _)) l1 (C_new2 (d := k115) (fun x => .int .u16 x.f0) (fun x => .int .u16 x.f1) rfl (fun w x => k115_mk w x) w6 115 [⟨10, 32769⟩, ⟨27, 0⟩, ⟨10, 0⟩] _ rfl (by decide)) (by decide) ex_6).mono ?_
  rintro e w7 ⟨rfl, hB7⟩
  have K7 : Kp (fun _ => True) w6 w7 := ((Kp.refl _ _).alloc _).trans (Kp.of_below hB7 (fun k _ hl => hl))
  have B7 := B6.kp K7 trivial
  replace hC2 := C_all hC2 K7
  replace hC5 := C_all hC5 K7
  replace K1 := K1.trans K7
  clear hB7 K7 B6
  go_wp2_with fail
  refine (easellaw07_sameNumbers.calls 40 _ c2 [65535, 0, 1] _ 3 [65535, 0, 1] _ _ (C_all hC2 ((Kp.refl _ _).alloc _)) l2 (C_new1 w7 75 [65535, 0, 1] _ rfl (by decide)) (by decide) ex_7).mono ?_
  rintro e w8 ⟨rfl, hD8⟩
  have K8 : Kp (fun _ => True) w7 w8 := ((Kp.refl _ _).alloc _).trans (Kp.of_below hD8.below (fun k _ hl => hl))
  have B8 := B7.kp K8 trivial
  have c8 := B8.cell
  replace hC5 := C_all hC5 K8
  replace K1 := K1.trans K8
  clear hD8 K8 B7
  go_wp2_with fail
  refine (easelkit_SameBytes.calls 40 _ c5 [0, 0, 0, 1, 0, 0, 0, 2] _ 8 [0, 0, 0, 1, 0, 0, 0, 2] _ _ (C_all hC5 ((Kp.refl _ _).alloc _)) l5 (C_new1 w8 5 [0, 0, 0, 1, 0, 0, 0, 2] _ rfl (by decide)) (by decide) ex_8).mono ?_
  rintro e w9 ⟨rfl, hD9⟩
  have K9 : Kp (fun _ => True) w8 w9 := ((Kp.refl _ _).alloc _).trans (Kp.of_below hD9.below (fun k _ hl => hl))
  go_wp2
  go_ret
  exact ⟨rfl, kp_below' (K1.trans K9)⟩
def l7_works.f : Option Bool := some true
theorem l7_works.calls (r : Bool) (w : World) (h : l7_works.f = some r) :
    Calls Try.prog 13 #[] w fun e w' => e = .returned (.bool r) ∧ Below w.heap.size w w' := by
  injection h with h
  subst h
  exact works07_any w
end Go.Proofs.Ytjcejgolcdgipaa.K7
