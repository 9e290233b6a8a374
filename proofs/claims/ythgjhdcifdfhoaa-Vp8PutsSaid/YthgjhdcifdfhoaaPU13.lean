/- Texts of this session, one behind the other, what the row does not use left out: walks and laws over plain data. -/
import Derived.Test.YthgjhdcifdfhoaaPU10

namespace Go.Proofs.Ythgjhdcifdfhoaa.K5
open Go.RowKit Go.Proofs.YthgjhdcifdfhoaaW.PrintWords Go.Proofs.YthgjhdcifdfhoaaW.PrintLast Go.Proofs.YthgjhdcifdfhoaaW.PrintMore
attribute [local go_sem] max2_int min2_int max_two min_two max_three min_three max_four min_four   -- for this text's walks alone
set_option linter.unusedVariables false
set_option linter.unusedSimpArgs false

def easelref05_bit.f (a0 : Bool) (a1 : Int) : Option (Int) := if a0 = true then (some a1) else (some 0)
set_option maxHeartbeats 8000000 in
set_option maxRecDepth 100000 in
theorem easelref05_bit.calls (a0 : Bool) (a1 : Int) (r : Int) (w : World) (h : easelref05_bit.f a0 a1 = some r) :
    Calls Try.prog 53 #[.bool a0, .int .u8 a1] w fun e w' => e = .returned (.int .u8 r) ∧ Drawn0 w w' := by
  have H : (if a0 = true then (some a1) else (some 0)) = some r := h
  clear h
  by_cases c3 : a0 = true
  · subst c3
    have H1 : (some a1) = some r := by rw [if_pos rfl] at H; exact H
    clear H
    have H := H1
    clear H1
    obtain rfl := Option.some.inj H
    go_enter Try.func53, Try.ntmps53
    go_wp2
    go_ret
    exact ⟨by first | rfl | (simp; done) | (simp [*]; done), by repeat (first | exact Drawn0.refl _ | apply Drawn0.step)⟩
  · replace c3 := Bool.eq_false_iff.mpr c3
    subst c3
    have H1 : (some 0) = some r := by rw [if_neg (show ¬ (false = true) by decide)] at H; exact H
    clear H
    have H := H1
    clear H1
    obtain rfl := Option.some.inj H
    go_enter Try.func53, Try.ntmps53
    go_wp2
    go_ret
    exact ⟨by first | rfl | (simp; done) | (simp [*]; done), by repeat (first | exact Drawn0.refl _ | apply Drawn0.step)⟩

end Go.Proofs.Ythgjhdcifdfhoaa.K5

namespace Go.Proofs.Ythgjhdcifdfhoaa.K5
open Go.RowKit Go.Proofs.YthgjhdcifdfhoaaW.PrintWords Go.Proofs.YthgjhdcifdfhoaaW.PrintLast Go.Proofs.YthgjhdcifdfhoaaW.PrintMore
attribute [local go_sem] max2_int min2_int max_two min_two max_three min_three max_four min_four   -- for this text's walks alone
set_option linter.unusedVariables false
set_option linter.unusedSimpArgs false

mutual
def easelref05_Put.j0 : Nat → List Int → Bool → Bool → Bool → Int → Bool → Bool → Int → Bool → Int → Bool → Int → Bool → Bool → Int → Option (List Int × Int)
  | 0, _, _, _, _, _, _, _, _, _, _, _, _, _, _, _ => none
  | k + 1, x1, x6, x166000, x166001, x166002, x166003, x166004, x166005, x166006, x166007, x166008, x166009, x166010, x166011, x166012 => (easelref05_bit.f x6 128).bind fun t167 => ((easelref05_bit.f x166000 32).bind fun t168 => ((easelref05_bit.f x166001 16).bind fun t169 => ((some (([(((((t167 + t168) % 256) + t169) % 256) + x166002) % 256] : List Int) : List Int)).bind fun y170 => (if x6 = true then ((easelref05_bit.f x166003 128).bind fun t173 => ((easelref05_bit.f x166006 64).bind fun t174 => ((easelref05_bit.f x166008 32).bind fun t175 => ((easelref05_bit.f x166011 16).bind fun t176 => (if y170.length < 140737488355328 then (easelref05_Put.j1 k x1 (y170 ++ [(((((t173 + t174) % 256) + t175) % 256) + t176) % 256]) x166000 x166001 x166002 x166003 x166004 x166005 x166006 x166007 x166008 x166009 x166010 x166011 x166012) else (none)))))) else (easelref05_Put.j1 k x1 y170 x166000 x166001 x166002 x166003 x166004 x166005 x166006 x166007 x166008 x166009 x166010 x166011 x166012)))))
def easelref05_Put.j1 : Nat → List Int → List Int → Bool → Bool → Int → Bool → Bool → Int → Bool → Int → Bool → Int → Bool → Bool → Int → Option (List Int × Int)
  | 0, _, _, _, _, _, _, _, _, _, _, _, _, _, _, _ => none
  | k + 1, x1, x7, x166000, x166001, x166002, x166003, x166004, x166005, x166006, x166007, x166008, x166009, x166010, x166011, x166012 => if x166003 = true then (easelref05_Put.j2 k x1 x7 x166004 x166000 x166001 x166002 x166003 x166004 x166005 x166006 x166007 x166008 x166009 x166010 x166011 x166012) else (easelref05_Put.j2 k x1 x7 false x166000 x166001 x166002 x166003 x166004 x166005 x166006 x166007 x166008 x166009 x166010 x166011 x166012)
def easelref05_Put.j2 : Nat → List Int → List Int → Bool → Bool → Bool → Int → Bool → Bool → Int → Bool → Int → Bool → Int → Bool → Bool → Int → Option (List Int × Int)
  | 0, _, _, _, _, _, _, _, _, _, _, _, _, _, _, _, _ => none
  | k + 1, x1, x7, x63, x166000, x166001, x166002, x166003, x166004, x166005, x166006, x166007, x166008, x166009, x166010, x166011, x166012 => if x63 = true then ((some (([(128 + ((IntKind.u16.wrap (Int.tdiv x166005 256)) % 256)) % 256, (Int.tmod x166005 256) % 256] : List Int) : List Int)).bind fun y180 => (if x7.length + y180.length < 140737488355328 then (easelref05_Put.j3 k x1 (x7 ++ y180) x166000 x166001 x166002 x166003 x166004 x166005 x166006 x166007 x166008 x166009 x166010 x166011 x166012) else (none))) else (easelref05_Put.j3 k x1 x7 x166000 x166001 x166002 x166003 x166004 x166005 x166006 x166007 x166008 x166009 x166010 x166011 x166012)
def easelref05_Put.j3 : Nat → List Int → List Int → Bool → Bool → Int → Bool → Bool → Int → Bool → Int → Bool → Int → Bool → Bool → Int → Option (List Int × Int)
  | 0, _, _, _, _, _, _, _, _, _, _, _, _, _, _, _ => none
  | k + 1, x1, x7, x166000, x166001, x166002, x166003, x166004, x166005, x166006, x166007, x166008, x166009, x166010, x166011, x166012 => if x166003 = true then (easelref05_Put.j4 k x1 x7 (!x166004) x166000 x166001 x166002 x166003 x166004 x166005 x166006 x166007 x166008 x166009 x166010 x166011 x166012) else (easelref05_Put.j4 k x1 x7 false x166000 x166001 x166002 x166003 x166004 x166005 x166006 x166007 x166008 x166009 x166010 x166011 x166012)
def easelref05_Put.j4 : Nat → List Int → List Int → Bool → Bool → Bool → Int → Bool → Bool → Int → Bool → Int → Bool → Int → Bool → Bool → Int → Option (List Int × Int)
  | 0, _, _, _, _, _, _, _, _, _, _, _, _, _, _, _, _ => none
  | k + 1, x1, x7, x82, x166000, x166001, x166002, x166003, x166004, x166005, x166006, x166007, x166008, x166009, x166010, x166011, x166012 => if x82 = true then (if x7.length < 140737488355328 then (easelref05_Put.j5 k x1 (x7 ++ [(x166005) % 256]) x166000 x166001 x166002 x166003 x166004 x166005 x166006 x166007 x166008 x166009 x166010 x166011 x166012) else (none)) else (easelref05_Put.j5 k x1 x7 x166000 x166001 x166002 x166003 x166004 x166005 x166006 x166007 x166008 x166009 x166010 x166011 x166012)
def easelref05_Put.j5 : Nat → List Int → List Int → Bool → Bool → Int → Bool → Bool → Int → Bool → Int → Bool → Int → Bool → Bool → Int → Option (List Int × Int)
  | 0, _, _, _, _, _, _, _, _, _, _, _, _, _, _, _ => none
  | k + 1, x1, x7, x166000, x166001, x166002, x166003, x166004, x166005, x166006, x166007, x166008, x166009, x166010, x166011, x166012 => if x166006 = true then (if x7.length < 140737488355328 then (easelref05_Put.j6 k x1 (x7 ++ [x166007]) x166000 x166001 x166002 x166003 x166004 x166005 x166006 x166007 x166008 x166009 x166010 x166011 x166012) else (none)) else (easelref05_Put.j6 k x1 x7 x166000 x166001 x166002 x166003 x166004 x166005 x166006 x166007 x166008 x166009 x166010 x166011 x166012)
def easelref05_Put.j6 : Nat → List Int → List Int → Bool → Bool → Int → Bool → Bool → Int → Bool → Int → Bool → Int → Bool → Bool → Int → Option (List Int × Int)
  | 0, _, _, _, _, _, _, _, _, _, _, _, _, _, _, _ => none
  | k + 1, x1, x7, x166000, x166001, x166002, x166003, x166004, x166005, x166006, x166007, x166008, x166009, x166010, x166011, x166012 => if x166008 = true then ((easelref05_bit.f x166010 32).bind fun t192 => (if x7.length < 140737488355328 then ((some (x7 ++ [(((((x166009 * 64) % 256) + t192) % 256) + x166012) % 256] : List Int)).bind fun y193 => (if y193.length + x1.length < 140737488355328 then (some ((y193 ++ x1), 0)) else (none))) else (none))) else (if x166011 = true then ((easelref05_bit.f x166010 32).bind fun t199 => (if x7.length < 140737488355328 then ((some (x7 ++ [(((((x166009 * 64) % 256) + t199) % 256) + x166012) % 256] : List Int)).bind fun y200 => (if y200.length + x1.length < 140737488355328 then (some ((y200 ++ x1), 0)) else (none))) else (none))) else (if x7.length + x1.length < 140737488355328 then (some ((x7 ++ x1), 0)) else (none)))
end
def easelref05_Put.f (k : Nat) (a0_0 : Bool) (a0_1 : Bool) (a0_2 : Int) (a0_3 : Bool) (a0_4 : Bool) (a0_5 : Int) (a0_6 : Bool) (a0_7 : Int) (a0_8 : Bool) (a0_9 : Int) (a0_10 : Bool) (a0_11 : Bool) (a0_12 : Int) (l1 : List Int) : Option (List Int × Int) := (easelref05_Right.f k a0_0 a0_1 a0_2 a0_3 a0_4 a0_5 a0_6 a0_7 a0_8 a0_9 a0_10 a0_11 a0_12).bind fun t166 => (if t166 = true then (if a0_3 = true then (easelref05_Put.j0 k l1 true a0_0 a0_1 a0_2 a0_3 a0_4 a0_5 a0_6 a0_7 a0_8 a0_9 a0_10 a0_11 a0_12) else (if a0_6 = true then (easelref05_Put.j0 k l1 true a0_0 a0_1 a0_2 a0_3 a0_4 a0_5 a0_6 a0_7 a0_8 a0_9 a0_10 a0_11 a0_12) else (if a0_8 = true then (easelref05_Put.j0 k l1 true a0_0 a0_1 a0_2 a0_3 a0_4 a0_5 a0_6 a0_7 a0_8 a0_9 a0_10 a0_11 a0_12) else (easelref05_Put.j0 k l1 a0_11 a0_0 a0_1 a0_2 a0_3 a0_4 a0_5 a0_6 a0_7 a0_8 a0_9 a0_10 a0_11 a0_12)))) else (some (([] : List Int), 50)))
def easelref05_Put.T4 : Bool × List (List Nat × List Nat) := (true, [([], []), ([0], [0]), ([], []), ([2], [2]), ([3, 1], [3]), ([1, 4], [1, 4]), ([], []), ([6], [6]), ([7, 4], [7]), ([5, 8], [5, 8]), ([], []), ([10], [10]), ([9, 11], [9, 11]), ([12], [12]), ([13, 8, 0, 1, 2, 3, 4, 5, 6, 7, 8, 9, 10, 11, 12, 13], [13])])
def easelref05_Put.B4 : List Nat := [0, 1, 0, 4, 15, 31, 0, 64, 223, 511, 0, 1024, 4095, 8191, 16383]
theorem easelref05_Put.tab4 : rtab .any (opsOf Try.f21 4) = easelref05_Put.T4 := by kernel_rfl
theorem easelref05_Put.bits4 : waitsOk easelref05_Put.T4.2 easelref05_Put.B4 = true := by kernel_rfl
def easelref05_Put.T6 : Bool × List (List Nat × List Nat) := (true, [([], []), ([], []), ([1], [1]), ([2], [2]), ([], []), ([4], [4]), ([5, 3], [5]), ([3, 6], [3, 6]), ([], []), ([8], [8]), ([9, 6], [9]), ([7, 10], [7, 10]), ([], []), ([12], [12]), ([13, 10], [13]), ([11, 14], [11, 14]), ([15], [15]), ([0, 16, 14], [0, 16]), ([17, 17, 0, 1, 2, 3, 4, 5, 6, 7, 8, 9, 10, 11, 12, 13, 14, 15, 16, 17], [0, 17])])
def easelref05_Put.B6 : List Nat := [0, 0, 2, 6, 0, 16, 62, 126, 0, 256, 894, 2046, 0, 4096, 14206, 32766, 65534, 131071, 262143]
theorem easelref05_Put.tab6 : rtab .any (opsOf Try.f21 6) = easelref05_Put.T6 := by kernel_rfl
theorem easelref05_Put.bits6 : waitsOk easelref05_Put.T6.2 easelref05_Put.B6 = true := by kernel_rfl
def easelref05_Put.T14 : Bool × List (List Nat × List Nat) := (true, [([], []), ([], []), ([1], [1]), ([2], [2]), ([], []), ([4], [4]), ([5], [5]), ([3, 6], [3, 6]), ([], []), ([8], [8]), ([7, 9], [7, 9]), ([10], [10]), ([0, 11, 6], [0, 11]), ([12, 12, 0, 1, 2, 3, 4, 5, 6, 7, 8, 9, 10, 11, 12], [0, 12])])
def easelref05_Put.B14 : List Nat := [0, 0, 2, 6, 0, 16, 48, 126, 0, 256, 1022, 2046, 4095, 8191]
theorem easelref05_Put.tab14 : rtab .any (opsOf Try.f21 14) = easelref05_Put.T14 := by kernel_rfl
theorem easelref05_Put.bits14 : waitsOk easelref05_Put.T14.2 easelref05_Put.B14 = true := by kernel_rfl
set_option maxHeartbeats 8000000 in
set_option maxRecDepth 100000 in
theorem easelref05_Put.calls (k : Nat) (a0_0 : Bool) (a0_1 : Bool) (a0_2 : Int) (a0_3 : Bool) (a0_4 : Bool) (a0_5 : Int) (a0_6 : Bool) (a0_7 : Int) (a0_8 : Bool) (a0_9 : Int) (a0_10 : Bool) (a0_11 : Bool) (a0_12 : Int) (A1 : Option Addr) (c1 : Nat) (l1 : List Int) (r1 : List Int) (r2 : Int) (w : World) (hr1 : Kd.C (Kd.int .u8) w A1 l1.length l1) (hc1 : l1.length ≤ c1) (h : easelref05_Put.f k a0_0 a0_1 a0_2 a0_3 a0_4 a0_5 a0_6 a0_7 a0_8 a0_9 a0_10 a0_11 a0_12 l1 = some (r1, r2)) :
    Calls Try.prog 21 #[.agg #[.bool a0_0, .bool a0_1, .int .u8 a0_2, .bool a0_3, .bool a0_4, .int .u16 a0_5, .bool a0_6, .int .u8 a0_7, .bool a0_8, .int .u8 a0_9, .bool a0_10, .bool a0_11, .int .u8 a0_12], .slice A1 l1.length c1] w fun e w' => ∃ v0_ : Value, e = .returned (.tuple #[v0_, .int .i64 r2]) ∧ Kd.R (Kd.int .u8) 5 w' w.heap.size (fun _ => True) v0_ r1 ∧ Below w.heap.size w w' := by
  have hu27 := Try.underlying27
  have HR1 := Aside0.mk hr1
  have HC1 := Aside0.mk hc1
  clear hr1 hc1
  have HB := Aside0.mk (Below.refl w.heap.size w)
  have H : ((easelref05_Right.f k a0_0 a0_1 a0_2 a0_3 a0_4 a0_5 a0_6 a0_7 a0_8 a0_9 a0_10 a0_11 a0_12).bind fun t166 => (if t166 = true then (if a0_3 = true then (easelref05_Put.j0 k l1 true a0_0 a0_1 a0_2 a0_3 a0_4 a0_5 a0_6 a0_7 a0_8 a0_9 a0_10 a0_11 a0_12) else (if a0_6 = true then (easelref05_Put.j0 k l1 true a0_0 a0_1 a0_2 a0_3 a0_4 a0_5 a0_6 a0_7 a0_8 a0_9 a0_10 a0_11 a0_12) else (if a0_8 = true then (easelref05_Put.j0 k l1 true a0_0 a0_1 a0_2 a0_3 a0_4 a0_5 a0_6 a0_7 a0_8 a0_9 a0_10 a0_11 a0_12) else (easelref05_Put.j0 k l1 a0_11 a0_0 a0_1 a0_2 a0_3 a0_4 a0_5 a0_6 a0_7 a0_8 a0_9 a0_10 a0_11 a0_12)))) else (some (([] : List Int), 50)))) = some (r1, r2) := h
  clear h
  replace H := Option.bind_eq_some_iff.mp H
  obtain ⟨t166, A30, H⟩ := H
  replace H : (if t166 = true then (if a0_3 = true then (easelref05_Put.j0 k l1 true a0_0 a0_1 a0_2 a0_3 a0_4 a0_5 a0_6 a0_7 a0_8 a0_9 a0_10 a0_11 a0_12) else (if a0_6 = true then (easelref05_Put.j0 k l1 true a0_0 a0_1 a0_2 a0_3 a0_4 a0_5 a0_6 a0_7 a0_8 a0_9 a0_10 a0_11 a0_12) else (if a0_8 = true then (easelref05_Put.j0 k l1 true a0_0 a0_1 a0_2 a0_3 a0_4 a0_5 a0_6 a0_7 a0_8 a0_9 a0_10 a0_11 a0_12) else (easelref05_Put.j0 k l1 a0_11 a0_0 a0_1 a0_2 a0_3 a0_4 a0_5 a0_6 a0_7 a0_8 a0_9 a0_10 a0_11 a0_12)))) else (some (([] : List Int), 50))) = some (r1, r2) := H
  have A3 := Aside0.mk A30
  clear A30
  by_cases c4 : t166 = true
  · subst c4
    have H1 : (if a0_3 = true then (easelref05_Put.j0 k l1 true a0_0 a0_1 a0_2 a0_3 a0_4 a0_5 a0_6 a0_7 a0_8 a0_9 a0_10 a0_11 a0_12) else (if a0_6 = true then (easelref05_Put.j0 k l1 true a0_0 a0_1 a0_2 a0_3 a0_4 a0_5 a0_6 a0_7 a0_8 a0_9 a0_10 a0_11 a0_12) else (if a0_8 = true then (easelref05_Put.j0 k l1 true a0_0 a0_1 a0_2 a0_3 a0_4 a0_5 a0_6 a0_7 a0_8 a0_9 a0_10 a0_11 a0_12) else (easelref05_Put.j0 k l1 a0_11 a0_0 a0_1 a0_2 a0_3 a0_4 a0_5 a0_6 a0_7 a0_8 a0_9 a0_10 a0_11 a0_12)))) = some (r1, r2) := by rw [if_pos rfl] at H; exact H
    clear H
    have H := H1
    clear H1
    have HC5 := Aside0.mk H
    clear H
    go_enter Try.func21, Try.ntmps21
    go_upto_region 3 with (first | ((with_reducible refine gate_dst (N := 2) rfl ?_); refine box_event ?hg (N := 2) ?hd (cs := #[.bool a0_0, .bool a0_1, .int .u8 a0_2, .bool a0_3, .bool a0_4, .int .u16 a0_5, .bool a0_6, .int .u8 a0_7, .bool a0_8, .int .u8 a0_9, .bool a0_10, .bool a0_11, .int .u8 a0_12]) (t := 27) ?hr ?_; (case hd => rfl); (case hg => rfl); (case hr => first | (go_simp; done) | (go_simp; rfl) | (go_simp; simp only [IntKind.wrap_u8, Int.emod_add_emod, Int.add_emod_emod, Int.emod_emod_of_dvd, Int.emod_emod]; done) | (go_simp; simp only [IntKind.wrap_u8, Int.emod_add_emod, Int.add_emod_emod, Int.emod_emod_of_dvd, Int.emod_emod]; rfl)); intro gb165 hg w6 hbox hb; have n0_ := Aside0.mk (below_step (by repeat (first | (with_reducible first | exact HB.out | apply below_alloc | apply pw_below_drewN | apply below_drew1) | exact HB.out)) hb); have n1_ := Aside0.mk (hbox); have n2_ := Aside0.mk ((by rw [hg]; exact (below_size (by repeat (first | (with_reducible first | exact HB.out | apply below_alloc | apply pw_below_drewN | apply below_drew1) | exact HB.out))) : w.heap.size ≤ gb165)); have n3_ := Aside0.mk ((by rw [hg]; exact (below_size (by repeat (first | (with_reducible first | exact HB.out | apply below_alloc | apply pw_below_drewN | apply below_drew1) | exact HB.out))) : w.heap.size ≤ gb165)); clear HB; have HB := n0_; have BK165 := n1_; have GW165 := n2_; have GE165 := n3_; clear n0_ n1_ n2_ n3_; clear hb hbox hg; have hcz7_0 : w6.cell? ⟨gb165, 0, none⟩ = some (.bool a0_0) := (blk_cell BK165.out 0).trans rfl; have hcz7_1 : w6.cell? ⟨gb165, 1, none⟩ = some (.bool a0_1) := (blk_cell BK165.out 1).trans rfl; have hcz7_2 : w6.cell? ⟨gb165, 2, none⟩ = some (.int .u8 a0_2) := (blk_cell BK165.out 2).trans rfl; have hcz7_3 : w6.cell? ⟨gb165, 3, none⟩ = some (.bool a0_3) := (blk_cell BK165.out 3).trans rfl; have hcz7_4 : w6.cell? ⟨gb165, 4, none⟩ = some (.bool a0_4) := (blk_cell BK165.out 4).trans rfl; have hcz7_5 : w6.cell? ⟨gb165, 5, none⟩ = some (.int .u16 a0_5) := (blk_cell BK165.out 5).trans rfl; have hcz7_6 : w6.cell? ⟨gb165, 6, none⟩ = some (.bool a0_6) := (blk_cell BK165.out 6).trans rfl; have hcz7_7 : w6.cell? ⟨gb165, 7, none⟩ = some (.int .u8 a0_7) := (blk_cell BK165.out 7).trans rfl; have hcz7_8 : w6.cell? ⟨gb165, 8, none⟩ = some (.bool a0_8) := (blk_cell BK165.out 8).trans rfl; have hcz7_9 : w6.cell? ⟨gb165, 9, none⟩ = some (.int .u8 a0_9) := (blk_cell BK165.out 9).trans rfl; have hcz7_10 : w6.cell? ⟨gb165, 10, none⟩ = some (.bool a0_10) := (blk_cell BK165.out 10).trans rfl; have hcz7_11 : w6.cell? ⟨gb165, 11, none⟩ = some (.bool a0_11) := (blk_cell BK165.out 11).trans rfl; have hcz7_12 : w6.cell? ⟨gb165, 12, none⟩ = some (.int .u8 a0_12) := (blk_cell BK165.out 12).trans rfl; have hfz7_0 := blk_frozen BK165.out 0; have hfz7_1 := blk_frozen BK165.out 1; have hfz7_2 := blk_frozen BK165.out 2; have hfz7_3 := blk_frozen BK165.out 3; have hfz7_4 := blk_frozen BK165.out 4; have hfz7_5 := blk_frozen BK165.out 5; have hfz7_6 := blk_frozen BK165.out 6; have hfz7_7 := blk_frozen BK165.out 7; have hfz7_8 := blk_frozen BK165.out 8; have hfz7_9 := blk_frozen BK165.out 9; have hfz7_10 := blk_frozen BK165.out 10; have hfz7_11 := blk_frozen BK165.out 11; have hfz7_12 := blk_frozen BK165.out 12) | ((with_reducible refine gate_callee (f := 25) rfl ?_); refine goesL_ (some 9) rfl rfl Try.func25 (by kernel_rfl) rfl #[.agg #[.bool a0_0, .bool a0_1, .int .u8 a0_2, .bool a0_3, .bool a0_4, .int .u16 a0_5, .bool a0_6, .int .u8 a0_7, .bool a0_8, .int .u8 a0_9, .bool a0_10, .bool a0_11, .int .u8 a0_12]] rfl (by (try simp only [List.map_toArray, List.map_cons, List.map_nil]); first | done | rfl | (simp only [List.length_drop, List.length_take]; rfl)) ?_; (with_reducible refine (easelref05_Right.calls k a0_0 a0_1 a0_2 a0_3 a0_4 a0_5 a0_6 a0_7 a0_8 a0_9 a0_10 a0_11 a0_12 true _ A3.out).mono ?_); rintro e w8 ⟨rfl, hb⟩; refine ⟨_, rfl, ?_⟩; have n0_ := Aside0.mk (blk_below (g := gb165) (o := .cells #[.bool a0_0, .bool a0_1, .int .u8 a0_2, .bool a0_3, .bool a0_4, .int .u16 a0_5, .bool a0_6, .int .u8 a0_7, .bool a0_8, .int .u8 a0_9, .bool a0_10, .bool a0_11, .int .u8 a0_12] 27 (0, 0)) (by (with_reducible repeat (first | refine blk_drewN ?_ _ | refine blk_drew ?_ | refine blk_alloc ?_ _)); exact BK165.out) hb); have n1_ := Aside0.mk (below_step (by repeat (first | (with_reducible first | exact HB.out | apply below_alloc | apply pw_below_drewN | apply below_drew1 | refine below_set ?_ GE165.out) | exact HB.out)) hb); clear BK165; clear HB; have BK165 := n0_; have HB := n1_; clear n0_ n1_; (try clear hb); (try clear hb2); (try clear hk); (try clear hi)))
    (try simp only [Act.put, List.setIfInBounds_toArray, List.set_cons_zero, List.set_cons_succ])
    go_cut [6] (fun v6 wc => ∃ (kq : Nat) (x6_4 : Bool), v6 = .bool x6_4 ∧ Aside0 (easelref05_Put.j0 kq l1 x6_4 a0_0 a0_1 a0_2 a0_3 a0_4 a0_5 a0_6 a0_7 a0_8 a0_9 a0_10 a0_11 a0_12 = some (r1, r2)) ∧ Aside0 (kq ≤ k) ∧ Aside0 (wc.heap[gb165]? = some (.cells #[.bool a0_0, .bool a0_1, .int .u8 a0_2, .bool a0_3, .bool a0_4, .int .u16 a0_5, .bool a0_6, .int .u8 a0_7, .bool a0_8, .int .u8 a0_9, .bool a0_10, .bool a0_11, .int .u8 a0_12] 27 (0, 0))) ∧ Aside0 (Below w.heap.size w wc))
    case first =>
      have H := HC5.out
      clear HC5
      by_cases c9 : a0_3 = true
      · subst c9
        have H1 : (easelref05_Put.j0 k l1 true a0_0 a0_1 a0_2 true a0_4 a0_5 a0_6 a0_7 a0_8 a0_9 a0_10 a0_11 a0_12) = some (r1, r2) := by rw [if_pos rfl] at H; exact H
        clear H
        have H := H1
        clear H1
        have H' := Aside0.mk H
        clear H
        have hcz10_0 : w8.cell? ⟨gb165, 0, none⟩ = some (.bool a0_0) := (blk_cell BK165.out 0).trans rfl
        have hcz10_1 : w8.cell? ⟨gb165, 1, none⟩ = some (.bool a0_1) := (blk_cell BK165.out 1).trans rfl
        have hcz10_2 : w8.cell? ⟨gb165, 2, none⟩ = some (.int .u8 a0_2) := (blk_cell BK165.out 2).trans rfl
        have hcz10_3 : w8.cell? ⟨gb165, 3, none⟩ = some (.bool true) := (blk_cell BK165.out 3).trans rfl
        have hcz10_4 : w8.cell? ⟨gb165, 4, none⟩ = some (.bool a0_4) := (blk_cell BK165.out 4).trans rfl
        have hcz10_5 : w8.cell? ⟨gb165, 5, none⟩ = some (.int .u16 a0_5) := (blk_cell BK165.out 5).trans rfl
        have hcz10_6 : w8.cell? ⟨gb165, 6, none⟩ = some (.bool a0_6) := (blk_cell BK165.out 6).trans rfl
        have hcz10_7 : w8.cell? ⟨gb165, 7, none⟩ = some (.int .u8 a0_7) := (blk_cell BK165.out 7).trans rfl
        have hcz10_8 : w8.cell? ⟨gb165, 8, none⟩ = some (.bool a0_8) := (blk_cell BK165.out 8).trans rfl
        have hcz10_9 : w8.cell? ⟨gb165, 9, none⟩ = some (.int .u8 a0_9) := (blk_cell BK165.out 9).trans rfl
        have hcz10_10 : w8.cell? ⟨gb165, 10, none⟩ = some (.bool a0_10) := (blk_cell BK165.out 10).trans rfl
        have hcz10_11 : w8.cell? ⟨gb165, 11, none⟩ = some (.bool a0_11) := (blk_cell BK165.out 11).trans rfl
        have hcz10_12 : w8.cell? ⟨gb165, 12, none⟩ = some (.int .u8 a0_12) := (blk_cell BK165.out 12).trans rfl
        have hfz10_0 := blk_frozen BK165.out 0
        have hfz10_1 := blk_frozen BK165.out 1
        have hfz10_2 := blk_frozen BK165.out 2
        have hfz10_3 := blk_frozen BK165.out 3
        have hfz10_4 := blk_frozen BK165.out 4
        have hfz10_5 := blk_frozen BK165.out 5
        have hfz10_6 := blk_frozen BK165.out 6
        have hfz10_7 := blk_frozen BK165.out 7
        have hfz10_8 := blk_frozen BK165.out 8
        have hfz10_9 := blk_frozen BK165.out 9
        have hfz10_10 := blk_frozen BK165.out 10
        have hfz10_11 := blk_frozen BK165.out 11
        have hfz10_12 := blk_frozen BK165.out 12
        go_wp2
        go_meet
        case rel => exact ⟨_, (true), (by first | rfl | (simp; done) | (simp [*]; done)), H', ⟨by first | omega | exact Nat.le_refl _⟩, ⟨by (with_reducible repeat (first | refine blk_drewN ?_ _ | refine blk_drew ?_ | refine blk_alloc ?_ _)); exact BK165.out⟩, ⟨by repeat (first | (with_reducible first | exact HB.out | apply below_alloc | apply pw_below_drewN | apply below_drew1 | refine below_set ?_ GE165.out) | exact HB.out)⟩⟩
      · replace c9 := Bool.eq_false_iff.mpr c9
        subst c9
        have H1 : (if a0_6 = true then (easelref05_Put.j0 k l1 true a0_0 a0_1 a0_2 false a0_4 a0_5 a0_6 a0_7 a0_8 a0_9 a0_10 a0_11 a0_12) else (if a0_8 = true then (easelref05_Put.j0 k l1 true a0_0 a0_1 a0_2 false a0_4 a0_5 a0_6 a0_7 a0_8 a0_9 a0_10 a0_11 a0_12) else (easelref05_Put.j0 k l1 a0_11 a0_0 a0_1 a0_2 false a0_4 a0_5 a0_6 a0_7 a0_8 a0_9 a0_10 a0_11 a0_12))) = some (r1, r2) := by rw [if_neg (show ¬ (false = true) by decide)] at H; exact H
        clear H
        have H := H1
        clear H1
        by_cases c11 : a0_6 = true
        · subst c11
          have H1 : (easelref05_Put.j0 k l1 true a0_0 a0_1 a0_2 false a0_4 a0_5 true a0_7 a0_8 a0_9 a0_10 a0_11 a0_12) = some (r1, r2) := by rw [if_pos rfl] at H; exact H
          clear H
          have H := H1
          clear H1
          have H' := Aside0.mk H
          clear H
          have hcz12_0 : w8.cell? ⟨gb165, 0, none⟩ = some (.bool a0_0) := (blk_cell BK165.out 0).trans rfl
          have hcz12_1 : w8.cell? ⟨gb165, 1, none⟩ = some (.bool a0_1) := (blk_cell BK165.out 1).trans rfl
          have hcz12_2 : w8.cell? ⟨gb165, 2, none⟩ = some (.int .u8 a0_2) := (blk_cell BK165.out 2).trans rfl
          have hcz12_3 : w8.cell? ⟨gb165, 3, none⟩ = some (.bool false) := (blk_cell BK165.out 3).trans rfl
          have hcz12_4 : w8.cell? ⟨gb165, 4, none⟩ = some (.bool a0_4) := (blk_cell BK165.out 4).trans rfl
          have hcz12_5 : w8.cell? ⟨gb165, 5, none⟩ = some (.int .u16 a0_5) := (blk_cell BK165.out 5).trans rfl
          have hcz12_6 : w8.cell? ⟨gb165, 6, none⟩ = some (.bool true) := (blk_cell BK165.out 6).trans rfl
          have hcz12_7 : w8.cell? ⟨gb165, 7, none⟩ = some (.int .u8 a0_7) := (blk_cell BK165.out 7).trans rfl
          have hcz12_8 : w8.cell? ⟨gb165, 8, none⟩ = some (.bool a0_8) := (blk_cell BK165.out 8).trans rfl
          have hcz12_9 : w8.cell? ⟨gb165, 9, none⟩ = some (.int .u8 a0_9) := (blk_cell BK165.out 9).trans rfl
          have hcz12_10 : w8.cell? ⟨gb165, 10, none⟩ = some (.bool a0_10) := (blk_cell BK165.out 10).trans rfl
          have hcz12_11 : w8.cell? ⟨gb165, 11, none⟩ = some (.bool a0_11) := (blk_cell BK165.out 11).trans rfl
          have hcz12_12 : w8.cell? ⟨gb165, 12, none⟩ = some (.int .u8 a0_12) := (blk_cell BK165.out 12).trans rfl
          have hfz12_0 := blk_frozen BK165.out 0
          have hfz12_1 := blk_frozen BK165.out 1
          have hfz12_2 := blk_frozen BK165.out 2
          have hfz12_3 := blk_frozen BK165.out 3
          have hfz12_4 := blk_frozen BK165.out 4
          have hfz12_5 := blk_frozen BK165.out 5
          have hfz12_6 := blk_frozen BK165.out 6
          have hfz12_7 := blk_frozen BK165.out 7
          have hfz12_8 := blk_frozen BK165.out 8
          have hfz12_9 := blk_frozen BK165.out 9
          have hfz12_10 := blk_frozen BK165.out 10
          have hfz12_11 := blk_frozen BK165.out 11
          have hfz12_12 := blk_frozen BK165.out 12
          go_wp2
          go_meet
          case rel => exact ⟨_, (true), (by first | rfl | (simp; done) | (simp [*]; done)), H', ⟨by first | omega | exact Nat.le_refl _⟩, ⟨by (with_reducible repeat (first | refine blk_drewN ?_ _ | refine blk_drew ?_ | refine blk_alloc ?_ _)); exact BK165.out⟩, ⟨by repeat (first | (with_reducible first | exact HB.out | apply below_alloc | apply pw_below_drewN | apply below_drew1 | refine below_set ?_ GE165.out) | exact HB.out)⟩⟩
        · replace c11 := Bool.eq_false_iff.mpr c11
          subst c11
          have H1 : (if a0_8 = true then (easelref05_Put.j0 k l1 true a0_0 a0_1 a0_2 false a0_4 a0_5 false a0_7 a0_8 a0_9 a0_10 a0_11 a0_12) else (easelref05_Put.j0 k l1 a0_11 a0_0 a0_1 a0_2 false a0_4 a0_5 false a0_7 a0_8 a0_9 a0_10 a0_11 a0_12)) = some (r1, r2) := by rw [if_neg (show ¬ (false = true) by decide)] at H; exact H
          clear H
          have H := H1
          clear H1
          by_cases c13 : a0_8 = true
          · subst c13
            have H1 : (easelref05_Put.j0 k l1 true a0_0 a0_1 a0_2 false a0_4 a0_5 false a0_7 true a0_9 a0_10 a0_11 a0_12) = some (r1, r2) := by rw [if_pos rfl] at H; exact H
            clear H
            have H := H1
            clear H1
            have H' := Aside0.mk H
            clear H
            have hcz14_0 : w8.cell? ⟨gb165, 0, none⟩ = some (.bool a0_0) := (blk_cell BK165.out 0).trans rfl
            have hcz14_1 : w8.cell? ⟨gb165, 1, none⟩ = some (.bool a0_1) := (blk_cell BK165.out 1).trans rfl
            have hcz14_2 : w8.cell? ⟨gb165, 2, none⟩ = some (.int .u8 a0_2) := (blk_cell BK165.out 2).trans rfl
            have hcz14_3 : w8.cell? ⟨gb165, 3, none⟩ = some (.bool false) := (blk_cell BK165.out 3).trans rfl
            have hcz14_4 : w8.cell? ⟨gb165, 4, none⟩ = some (.bool a0_4) := (blk_cell BK165.out 4).trans rfl
            have hcz14_5 : w8.cell? ⟨gb165, 5, none⟩ = some (.int .u16 a0_5) := (blk_cell BK165.out 5).trans rfl
            have hcz14_6 : w8.cell? ⟨gb165, 6, none⟩ = some (.bool false) := (blk_cell BK165.out 6).trans rfl
            have hcz14_7 : w8.cell? ⟨gb165, 7, none⟩ = some (.int .u8 a0_7) := (blk_cell BK165.out 7).trans rfl
            have hcz14_8 : w8.cell? ⟨gb165, 8, none⟩ = some (.bool true) := (blk_cell BK165.out 8).trans rfl
            have hcz14_9 : w8.cell? ⟨gb165, 9, none⟩ = some (.int .u8 a0_9) := (blk_cell BK165.out 9).trans rfl
            have hcz14_10 : w8.cell? ⟨gb165, 10, none⟩ = some (.bool a0_10) := (blk_cell BK165.out 10).trans rfl
            have hcz14_11 : w8.cell? ⟨gb165, 11, none⟩ = some (.bool a0_11) := (blk_cell BK165.out 11).trans rfl
            have hcz14_12 : w8.cell? ⟨gb165, 12, none⟩ = some (.int .u8 a0_12) := (blk_cell BK165.out 12).trans rfl
            have hfz14_0 := blk_frozen BK165.out 0
            have hfz14_1 := blk_frozen BK165.out 1
            have hfz14_2 := blk_frozen BK165.out 2
            have hfz14_3 := blk_frozen BK165.out 3
            have hfz14_4 := blk_frozen BK165.out 4
            have hfz14_5 := blk_frozen BK165.out 5
            have hfz14_6 := blk_frozen BK165.out 6
            have hfz14_7 := blk_frozen BK165.out 7
            have hfz14_8 := blk_frozen BK165.out 8
            have hfz14_9 := blk_frozen BK165.out 9
            have hfz14_10 := blk_frozen BK165.out 10
            have hfz14_11 := blk_frozen BK165.out 11
            have hfz14_12 := blk_frozen BK165.out 12
            go_wp2
            go_meet
            case rel => exact ⟨_, (true), (by first | rfl | (simp; done) | (simp [*]; done)), H', ⟨by first | omega | exact Nat.le_refl _⟩, ⟨by (with_reducible repeat (first | refine blk_drewN ?_ _ | refine blk_drew ?_ | refine blk_alloc ?_ _)); exact BK165.out⟩, ⟨by repeat (first | (with_reducible first | exact HB.out | apply below_alloc | apply pw_below_drewN | apply below_drew1 | refine below_set ?_ GE165.out) | exact HB.out)⟩⟩
          · replace c13 := Bool.eq_false_iff.mpr c13
            subst c13
            have H1 : (easelref05_Put.j0 k l1 a0_11 a0_0 a0_1 a0_2 false a0_4 a0_5 false a0_7 false a0_9 a0_10 a0_11 a0_12) = some (r1, r2) := by rw [if_neg (show ¬ (false = true) by decide)] at H; exact H
            clear H
            have H := H1
            clear H1
            have H' := Aside0.mk H
            clear H
            have hcz15_0 : w8.cell? ⟨gb165, 0, none⟩ = some (.bool a0_0) := (blk_cell BK165.out 0).trans rfl
            have hcz15_1 : w8.cell? ⟨gb165, 1, none⟩ = some (.bool a0_1) := (blk_cell BK165.out 1).trans rfl
            have hcz15_2 : w8.cell? ⟨gb165, 2, none⟩ = some (.int .u8 a0_2) := (blk_cell BK165.out 2).trans rfl
            have hcz15_3 : w8.cell? ⟨gb165, 3, none⟩ = some (.bool false) := (blk_cell BK165.out 3).trans rfl
            have hcz15_4 : w8.cell? ⟨gb165, 4, none⟩ = some (.bool a0_4) := (blk_cell BK165.out 4).trans rfl
            have hcz15_5 : w8.cell? ⟨gb165, 5, none⟩ = some (.int .u16 a0_5) := (blk_cell BK165.out 5).trans rfl
            have hcz15_6 : w8.cell? ⟨gb165, 6, none⟩ = some (.bool false) := (blk_cell BK165.out 6).trans rfl
            have hcz15_7 : w8.cell? ⟨gb165, 7, none⟩ = some (.int .u8 a0_7) := (blk_cell BK165.out 7).trans rfl
            have hcz15_8 : w8.cell? ⟨gb165, 8, none⟩ = some (.bool false) := (blk_cell BK165.out 8).trans rfl
            have hcz15_9 : w8.cell? ⟨gb165, 9, none⟩ = some (.int .u8 a0_9) := (blk_cell BK165.out 9).trans rfl
            have hcz15_10 : w8.cell? ⟨gb165, 10, none⟩ = some (.bool a0_10) := (blk_cell BK165.out 10).trans rfl
            have hcz15_11 : w8.cell? ⟨gb165, 11, none⟩ = some (.bool a0_11) := (blk_cell BK165.out 11).trans rfl
            have hcz15_12 : w8.cell? ⟨gb165, 12, none⟩ = some (.int .u8 a0_12) := (blk_cell BK165.out 12).trans rfl
            have hfz15_0 := blk_frozen BK165.out 0
            have hfz15_1 := blk_frozen BK165.out 1
            have hfz15_2 := blk_frozen BK165.out 2
            have hfz15_3 := blk_frozen BK165.out 3
            have hfz15_4 := blk_frozen BK165.out 4
            have hfz15_5 := blk_frozen BK165.out 5
            have hfz15_6 := blk_frozen BK165.out 6
            have hfz15_7 := blk_frozen BK165.out 7
            have hfz15_8 := blk_frozen BK165.out 8
            have hfz15_9 := blk_frozen BK165.out 9
            have hfz15_10 := blk_frozen BK165.out 10
            have hfz15_11 := blk_frozen BK165.out 11
            have hfz15_12 := blk_frozen BK165.out 12
            go_wp2
            go_meet
            case rel => exact ⟨_, (a0_11), (by first | rfl | (simp; done) | (simp [*]; done)), H', ⟨by first | omega | exact Nat.le_refl _⟩, ⟨by (with_reducible repeat (first | refine blk_drewN ?_ _ | refine blk_drew ?_ | refine blk_alloc ?_ _)); exact BK165.out⟩, ⟨by repeat (first | (with_reducible first | exact HB.out | apply below_alloc | apply pw_below_drewN | apply below_drew1 | refine below_set ?_ GE165.out) | exact HB.out)⟩⟩
    case rest =>
      clear HC5
      try clear c1
      try clear c2
      try clear p2
      try clear c4
      try clear c9
      try clear c11
      try clear c13
      try clear hcz10_0
      try clear hcz10_1
      try clear hcz10_10
      try clear hcz10_11
      try clear hcz10_12
      try clear hcz10_2
      try clear hcz10_3
      try clear hcz10_4
      try clear hcz10_5
      try clear hcz10_6
      try clear hcz10_7
      try clear hcz10_8
      try clear hcz10_9
      try clear hcz12_0
      try clear hcz12_1
      try clear hcz12_10
      try clear hcz12_11
      try clear hcz12_12
      try clear hcz12_2
      try clear hcz12_3
      try clear hcz12_4
      try clear hcz12_5
      try clear hcz12_6
      try clear hcz12_7
      try clear hcz12_8
      try clear hcz12_9
      try clear hcz14_0
      try clear hcz14_1
      try clear hcz14_10
      try clear hcz14_11
      try clear hcz14_12
      try clear hcz14_2
      try clear hcz14_3
      try clear hcz14_4
      try clear hcz14_5
      try clear hcz14_6
      try clear hcz14_7
      try clear hcz14_8
      try clear hcz14_9
      try clear hcz15_0
      try clear hcz15_1
      try clear hcz15_10
      try clear hcz15_11
      try clear hcz15_12
      try clear hcz15_2
      try clear hcz15_3
      try clear hcz15_4
      try clear hcz15_5
      try clear hcz15_6
      try clear hcz15_7
      try clear hcz15_8
      try clear hcz15_9
      try clear hcz7_0
      try clear hcz7_1
      try clear hcz7_10
      try clear hcz7_11
      try clear hcz7_12
      try clear hcz7_2
      try clear hcz7_3
      try clear hcz7_4
      try clear hcz7_5
      try clear hcz7_6
      try clear hcz7_7
      try clear hcz7_8
      try clear hcz7_9
      try clear hfz10_0
      try clear hfz10_1
      try clear hfz10_10
      try clear hfz10_11
      try clear hfz10_12
      try clear hfz10_2
      try clear hfz10_3
      try clear hfz10_4
      try clear hfz10_5
      try clear hfz10_6
      try clear hfz10_7
      try clear hfz10_8
      try clear hfz10_9
      try clear hfz12_0
      try clear hfz12_1
      try clear hfz12_10
      try clear hfz12_11
      try clear hfz12_12
      try clear hfz12_2
      try clear hfz12_3
      try clear hfz12_4
      try clear hfz12_5
      try clear hfz12_6
      try clear hfz12_7
      try clear hfz12_8
      try clear hfz12_9
      try clear hfz14_0
      try clear hfz14_1
      try clear hfz14_10
      try clear hfz14_11
      try clear hfz14_12
      try clear hfz14_2
      try clear hfz14_3
      try clear hfz14_4
      try clear hfz14_5
      try clear hfz14_6
      try clear hfz14_7
      try clear hfz14_8
      try clear hfz14_9
      try clear hfz15_0
      try clear hfz15_1
      try clear hfz15_10
      try clear hfz15_11
      try clear hfz15_12
      try clear hfz15_2
      try clear hfz15_3
      try clear hfz15_4
      try clear hfz15_5
      try clear hfz15_6
      try clear hfz15_7
      try clear hfz15_8
      try clear hfz15_9
      try clear hfz7_0
      try clear hfz7_1
      try clear hfz7_10
      try clear hfz7_11
      try clear hfz7_12
      try clear hfz7_2
      try clear hfz7_3
      try clear hfz7_4
      try clear hfz7_5
      try clear hfz7_6
      try clear hfz7_7
      try clear hfz7_8
      try clear hfz7_9
      obtain ⟨kq, x6_4, rfl, HA, HJ4, BK165, HB⟩ := hcut
      cases kq with
      | zero => exact absurd HA.out (by simp [easelref05_Put.j0])
      | succ kj4 =>
        have H := HA.out
        clear HA
        simp only [easelref05_Put.j0] at H
        replace H := Option.bind_eq_some_iff.mp H
        obtain ⟨t167, A160, H⟩ := H
        replace H : ((easelref05_bit.f a0_0 32).bind fun t168 => ((easelref05_bit.f a0_1 16).bind fun t169 => ((some (([(((((t167 + t168) % 256) + t169) % 256) + a0_2) % 256] : List Int) : List Int)).bind fun y170 => (if x6_4 = true then ((easelref05_bit.f a0_3 128).bind fun t173 => ((easelref05_bit.f a0_6 64).bind fun t174 => ((easelref05_bit.f a0_8 32).bind fun t175 => ((easelref05_bit.f a0_11 16).bind fun t176 => (if y170.length < 140737488355328 then (easelref05_Put.j1 kj4 l1 (y170 ++ [(((((t173 + t174) % 256) + t175) % 256) + t176) % 256]) a0_0 a0_1 a0_2 a0_3 a0_4 a0_5 a0_6 a0_7 a0_8 a0_9 a0_10 a0_11 a0_12) else (none)))))) else (easelref05_Put.j1 kj4 l1 y170 a0_0 a0_1 a0_2 a0_3 a0_4 a0_5 a0_6 a0_7 a0_8 a0_9 a0_10 a0_11 a0_12))))) = some (r1, r2) := H
        have A16 := Aside0.mk A160
        clear A160
        replace H := Option.bind_eq_some_iff.mp H
        obtain ⟨t168, A170, H⟩ := H
        replace H : ((easelref05_bit.f a0_1 16).bind fun t169 => ((some (([(((((t167 + t168) % 256) + t169) % 256) + a0_2) % 256] : List Int) : List Int)).bind fun y170 => (if x6_4 = true then ((easelref05_bit.f a0_3 128).bind fun t173 => ((easelref05_bit.f a0_6 64).bind fun t174 => ((easelref05_bit.f a0_8 32).bind fun t175 => ((easelref05_bit.f a0_11 16).bind fun t176 => (if y170.length < 140737488355328 then (easelref05_Put.j1 kj4 l1 (y170 ++ [(((((t173 + t174) % 256) + t175) % 256) + t176) % 256]) a0_0 a0_1 a0_2 a0_3 a0_4 a0_5 a0_6 a0_7 a0_8 a0_9 a0_10 a0_11 a0_12) else (none)))))) else (easelref05_Put.j1 kj4 l1 y170 a0_0 a0_1 a0_2 a0_3 a0_4 a0_5 a0_6 a0_7 a0_8 a0_9 a0_10 a0_11 a0_12)))) = some (r1, r2) := H
        have A17 := Aside0.mk A170
        clear A170
        replace H := Option.bind_eq_some_iff.mp H
        obtain ⟨t169, A180, H⟩ := H
        replace H : ((some (([(((((t167 + t168) % 256) + t169) % 256) + a0_2) % 256] : List Int) : List Int)).bind fun y170 => (if x6_4 = true then ((easelref05_bit.f a0_3 128).bind fun t173 => ((easelref05_bit.f a0_6 64).bind fun t174 => ((easelref05_bit.f a0_8 32).bind fun t175 => ((easelref05_bit.f a0_11 16).bind fun t176 => (if y170.length < 140737488355328 then (easelref05_Put.j1 kj4 l1 (y170 ++ [(((((t173 + t174) % 256) + t175) % 256) + t176) % 256]) a0_0 a0_1 a0_2 a0_3 a0_4 a0_5 a0_6 a0_7 a0_8 a0_9 a0_10 a0_11 a0_12) else (none)))))) else (easelref05_Put.j1 kj4 l1 y170 a0_0 a0_1 a0_2 a0_3 a0_4 a0_5 a0_6 a0_7 a0_8 a0_9 a0_10 a0_11 a0_12))) = some (r1, r2) := H
        have A18 := Aside0.mk A180
        clear A180
        obtain ⟨y170, hy170⟩ : ∃ y_ : List Int, y_ = (([(((((t167 + t168) % 256) + t169) % 256) + a0_2) % 256] : List Int)) := ⟨_, rfl⟩
        replace H : (if x6_4 = true then ((easelref05_bit.f a0_3 128).bind fun t173 => ((easelref05_bit.f a0_6 64).bind fun t174 => ((easelref05_bit.f a0_8 32).bind fun t175 => ((easelref05_bit.f a0_11 16).bind fun t176 => (if y170.length < 140737488355328 then (easelref05_Put.j1 kj4 l1 (y170 ++ [(((((t173 + t174) % 256) + t175) % 256) + t176) % 256]) a0_0 a0_1 a0_2 a0_3 a0_4 a0_5 a0_6 a0_7 a0_8 a0_9 a0_10 a0_11 a0_12) else (none)))))) else (easelref05_Put.j1 kj4 l1 y170 a0_0 a0_1 a0_2 a0_3 a0_4 a0_5 a0_6 a0_7 a0_8 a0_9 a0_10 a0_11 a0_12)) = some (r1, r2) := by first | (rw [hy170]; with_reducible exact H) | (have H2_ := (Option.bind_some _ _).symm.trans H; rw [hy170]; with_reducible exact H2_) | (have H2_ := (Option.bind_some _ _).symm.trans H; with_reducible exact H2_) | with_reducible exact H | (rw [hy170]; exact H) | exact H
        have Ny170 := Aside0.mk hy170
        clear hy170
        have HC19 := Aside0.mk H
        clear H
        try go_wp2
        have n0_ := Aside0.mk (blk_drew BK165.out)
        have n1_ := Aside0.mk (below_drew1 HB.out)
        clear BK165
        clear HB
        have BK165 := n0_
        have HB := n1_
        clear n0_ n1_
        refine start_ (n := 15) (S := fun w' => w'.cell? ⟨gb165, 0, none⟩ = some (.bool a0_0) ∧ w'.cell? ⟨gb165, 1, none⟩ = some (.bool a0_1) ∧ w'.cell? ⟨gb165, 2, none⟩ = some (.int .u8 a0_2) ∧ w'.cell? ⟨gb165, 3, none⟩ = some (.bool a0_3) ∧ w'.cell? ⟨gb165, 4, none⟩ = some (.bool a0_4) ∧ w'.cell? ⟨gb165, 5, none⟩ = some (.int .u16 a0_5) ∧ w'.cell? ⟨gb165, 6, none⟩ = some (.bool a0_6) ∧ w'.cell? ⟨gb165, 7, none⟩ = some (.int .u8 a0_7) ∧ w'.cell? ⟨gb165, 8, none⟩ = some (.bool a0_8) ∧ w'.cell? ⟨gb165, 9, none⟩ = some (.int .u8 a0_9) ∧ w'.cell? ⟨gb165, 10, none⟩ = some (.bool a0_10) ∧ w'.cell? ⟨gb165, 11, none⟩ = some (.bool a0_11) ∧ w'.cell? ⟨gb165, 12, none⟩ = some (.int .u8 a0_12)) (ds := []) #[false, false, false, false, false, false, false, false, false, false, false, false, false, false, false] (by kernel_rfl) rfl rfl ⟨(blk_cell BK165.out 0).trans rfl, (blk_cell BK165.out 1).trans rfl, (blk_cell BK165.out 2).trans rfl, (blk_cell BK165.out 3).trans rfl, (blk_cell BK165.out 4).trans rfl, (blk_cell BK165.out 5).trans rfl, (blk_cell BK165.out 6).trans rfl, (blk_cell BK165.out 7).trans rfl, (blk_cell BK165.out 8).trans rfl, (blk_cell BK165.out 9).trans rfl, (blk_cell BK165.out 10).trans rfl, (blk_cell BK165.out 11).trans rfl, (blk_cell BK165.out 12).trans rfl⟩ (fun hHeld => ?_); refine with_tabW easelref05_Put.tab4 easelref05_Put.bits4 (fun HT_ HW_ => ?_)
        generalize wc.drew = w20 at BK165 HB hHeld ⊢
        refine pure_ (i := 0) (N := some 25) (v := ?_) (a' := ?_) #[true, false, false, false, false, false, false, false, false, false, false, false, false, false, false] rfl rfl (any_of HT_.out (by kernel_rfl)) (fun _ _ _ h => h) (Or.inl ⟨by rfl, ?_⟩) ?_ ?_
        rotate_left
        · intro w'
          go_simp
          with_reducible rfl
        rotate_left
        · simp only [Act.put, List.setIfInBounds_toArray, List.set_cons_zero, List.set_cons_succ, i64_w, i32_w]
          rfl
        refine pure_ (i := 2) (N := some 27) (v := ?_) (a' := ?_) #[true, false, true, false, false, false, false, false, false, false, false, false, false, false, false] rfl rfl (any_of HT_.out (by kernel_rfl)) (fun _ _ _ h => h) (Or.inl ⟨by rfl, ?_⟩) ?_ ?_
        rotate_left
        · intro w'
          go_simp
          with_reducible rfl
        rotate_left
        · simp only [Act.put, List.setIfInBounds_toArray, List.set_cons_zero, List.set_cons_succ, i64_w, i32_w]
          rfl
        refine pure_ (i := 6) (N := some 31) (v := ?_) (a' := ?_) #[true, false, true, false, false, false, true, false, false, false, false, false, false, false, false] rfl rfl (any_of HT_.out (by kernel_rfl)) (fun _ _ _ h => h) (Or.inl ⟨by rfl, ?_⟩) ?_ ?_
        rotate_left
        · intro w'
          go_simp
          with_reducible rfl
        rotate_left
        · simp only [Act.put, List.setIfInBounds_toArray, List.set_cons_zero, List.set_cons_succ, i64_w, i32_w]
          rfl
        refine pure_ (i := 10) (N := some 35) (v := ?_) (a' := ?_) #[true, false, true, false, false, false, true, false, false, false, true, false, false, false, false] rfl rfl (any_of HT_.out (by kernel_rfl)) (fun _ _ _ h => h) (Or.inl ⟨by rfl, ?_⟩) ?_ ?_
        rotate_left
        · intro w'
          go_simp
          with_reducible rfl
        rotate_left
        · simp only [Act.put, List.setIfInBounds_toArray, List.set_cons_zero, List.set_cons_succ, i64_w, i32_w]
          rfl
        refine take_ (i := 3) (N := some 28) (v := ?_) (a' := ?_) #[true, false, true, true, false, false, true, false, false, false, true, false, false, false, false] rfl rfl (take_ofW HT_.out HW_.out (by kernel_rfl)) (fun _ _ _ h => h) (Or.inl ⟨by rfl, ?_⟩) hHeld ?_ ?_
        rotate_left
        · rintro w' ⟨s0, s1, s2, s3, s4, s5, s6, s7, s8, s9, s10, s11, s12⟩
          go_simp
          with_reducible rfl
        rotate_left
        · simp only [Act.put, List.setIfInBounds_toArray, List.set_cons_zero, List.set_cons_succ, i64_w, i32_w]
          rfl
        refine take_ (i := 7) (N := some 32) (v := ?_) (a' := ?_) #[true, false, true, true, false, false, true, true, false, false, true, false, false, false, false] rfl rfl (take_ofW HT_.out HW_.out (by kernel_rfl)) (fun _ _ _ h => h) (Or.inl ⟨by rfl, ?_⟩) hHeld ?_ ?_
        rotate_left
        · rintro w' ⟨s0, s1, s2, s3, s4, s5, s6, s7, s8, s9, s10, s11, s12⟩
          go_simp
          with_reducible rfl
        rotate_left
        · simp only [Act.put, List.setIfInBounds_toArray, List.set_cons_zero, List.set_cons_succ, i64_w, i32_w]
          rfl
        refine take_ (i := 11) (N := some 36) (v := ?_) (a' := ?_) #[true, false, true, true, false, false, true, true, false, false, true, true, false, false, false] rfl rfl (take_ofW HT_.out HW_.out (by kernel_rfl)) (fun _ _ _ h => h) (Or.inl ⟨by rfl, ?_⟩) hHeld ?_ ?_
        rotate_left
        · rintro w' ⟨s0, s1, s2, s3, s4, s5, s6, s7, s8, s9, s10, s11, s12⟩
          go_simp
          with_reducible rfl
        rotate_left
        · simp only [Act.put, List.setIfInBounds_toArray, List.set_cons_zero, List.set_cons_succ, i64_w, i32_w]
          rfl
        refine one_ (i := 1) (N := some 26) #[true, true, true, true, false, false, true, true, false, false, true, true, false, false, false] rfl rfl (one_of HT_.out (by kernel_rfl)) (by decide) (fun K hK => ?_)
        refine goes_ Try.func53 (by kernel_rfl) rfl #[.bool x6_4, .int .u8 128] (by rfl) rfl rfl (by (try simp only [List.map_toArray, List.map_cons, List.map_nil]); first | done | rfl | (simp only [List.length_drop, List.length_take]; rfl)) ?_
        with_reducible refine (easelref05_bit.calls x6_4 128 t167 _ A16.out).mono ?_
        rintro e w' ⟨rfl, ⟨nd, rfl⟩⟩
        refine ⟨_, rfl, ?_⟩
        refine hK.out _ _ ⟨(blk_cell BK165.out 0).trans rfl, (blk_cell BK165.out 1).trans rfl, (blk_cell BK165.out 2).trans rfl, (blk_cell BK165.out 3).trans rfl, (blk_cell BK165.out 4).trans rfl, (blk_cell BK165.out 5).trans rfl, (blk_cell BK165.out 6).trans rfl, (blk_cell BK165.out 7).trans rfl, (blk_cell BK165.out 8).trans rfl, (blk_cell BK165.out 9).trans rfl, (blk_cell BK165.out 10).trans rfl, (blk_cell BK165.out 11).trans rfl, (blk_cell BK165.out 12).trans rfl⟩ (fun hHeld => ?_)
        clear hK K
        refine norm_ (a' := ?_) ?_ ?_
        rotate_left
        · show Act.put _ (some 26) _ = _
          simp only [Act.put, List.setIfInBounds_toArray, List.set_cons_zero, List.set_cons_succ, i64_w, i32_w]
          rfl
        refine one_ (i := 4) (N := some 29) #[true, true, true, true, true, false, true, true, false, false, true, true, false, false, false] rfl rfl (one_of HT_.out (by kernel_rfl)) (by decide) (fun K hK => ?_)
        refine goes_ Try.func53 (by kernel_rfl) rfl #[.bool a0_0, .int .u8 32] (by rfl) rfl rfl (by (try simp only [List.map_toArray, List.map_cons, List.map_nil]); first | done | rfl | (simp only [List.length_drop, List.length_take]; rfl)) ?_
        with_reducible refine (easelref05_bit.calls a0_0 32 t168 _ A17.out).mono ?_
        rintro e w' ⟨rfl, ⟨nd, rfl⟩⟩
        refine ⟨_, rfl, ?_⟩
        refine hK.out _ _ ⟨(blk_cell BK165.out 0).trans rfl, (blk_cell BK165.out 1).trans rfl, (blk_cell BK165.out 2).trans rfl, (blk_cell BK165.out 3).trans rfl, (blk_cell BK165.out 4).trans rfl, (blk_cell BK165.out 5).trans rfl, (blk_cell BK165.out 6).trans rfl, (blk_cell BK165.out 7).trans rfl, (blk_cell BK165.out 8).trans rfl, (blk_cell BK165.out 9).trans rfl, (blk_cell BK165.out 10).trans rfl, (blk_cell BK165.out 11).trans rfl, (blk_cell BK165.out 12).trans rfl⟩ (fun hHeld => ?_)
        clear hK K
        refine norm_ (a' := ?_) ?_ ?_
        rotate_left
        · show Act.put _ (some 29) _ = _
          simp only [Act.put, List.setIfInBounds_toArray, List.set_cons_zero, List.set_cons_succ, i64_w, i32_w]
          rfl
        refine pure_ (i := 5) (N := some 30) (v := ?_) (a' := ?_) #[true, true, true, true, true, true, true, true, false, false, true, true, false, false, false] rfl rfl (any_of HT_.out (by kernel_rfl)) (fun _ _ _ h => h) (Or.inl ⟨by rfl, ?_⟩) ?_ ?_
        rotate_left
        · intro w'
          go_simp
          with_reducible rfl
        rotate_left
        · simp only [Act.put, List.setIfInBounds_toArray, List.set_cons_zero, List.set_cons_succ, i64_w, i32_w]
          rfl
        refine one_ (i := 8) (N := some 33) #[true, true, true, true, true, true, true, true, true, false, true, true, false, false, false] rfl rfl (one_of HT_.out (by kernel_rfl)) (by decide) (fun K hK => ?_)
        refine goes_ Try.func53 (by kernel_rfl) rfl #[.bool a0_1, .int .u8 16] (by rfl) rfl rfl (by (try simp only [List.map_toArray, List.map_cons, List.map_nil]); first | done | rfl | (simp only [List.length_drop, List.length_take]; rfl)) ?_
        with_reducible refine (easelref05_bit.calls a0_1 16 t169 _ A18.out).mono ?_
        rintro e w' ⟨rfl, ⟨nd, rfl⟩⟩
        refine ⟨_, rfl, ?_⟩
        refine hK.out _ _ ⟨(blk_cell BK165.out 0).trans rfl, (blk_cell BK165.out 1).trans rfl, (blk_cell BK165.out 2).trans rfl, (blk_cell BK165.out 3).trans rfl, (blk_cell BK165.out 4).trans rfl, (blk_cell BK165.out 5).trans rfl, (blk_cell BK165.out 6).trans rfl, (blk_cell BK165.out 7).trans rfl, (blk_cell BK165.out 8).trans rfl, (blk_cell BK165.out 9).trans rfl, (blk_cell BK165.out 10).trans rfl, (blk_cell BK165.out 11).trans rfl, (blk_cell BK165.out 12).trans rfl⟩ (fun hHeld => ?_)
        clear hK K
        refine norm_ (a' := ?_) ?_ ?_
        rotate_left
        · show Act.put _ (some 33) _ = _
          simp only [Act.put, List.setIfInBounds_toArray, List.set_cons_zero, List.set_cons_succ, i64_w, i32_w]
          rfl
        refine pure_ (i := 9) (N := some 34) (v := ?_) (a' := ?_) #[true, true, true, true, true, true, true, true, true, true, true, true, false, false, false] rfl rfl (any_of HT_.out (by kernel_rfl)) (fun _ _ _ h => h) (Or.inl ⟨by rfl, ?_⟩) ?_ ?_
        rotate_left
        · intro w'
          go_simp
          with_reducible rfl
        rotate_left
        · simp only [Act.put, List.setIfInBounds_toArray, List.set_cons_zero, List.set_cons_succ, i64_w, i32_w]
          rfl
        refine pure_ (i := 12) (N := some 37) (v := ?_) (a' := ?_) #[true, true, true, true, true, true, true, true, true, true, true, true, true, false, false] rfl rfl (any_of HT_.out (by kernel_rfl)) (fun _ _ _ h => h) (Or.inl ⟨by rfl, ?_⟩) ?_ ?_
        rotate_left
        · intro w'
          go_simp
          with_reducible rfl
        rotate_left
        · simp only [Act.put, List.setIfInBounds_toArray, List.set_cons_zero, List.set_cons_succ, i64_w, i32_w]
          rfl
        refine one_ (i := 13) (N := some 38) #[true, true, true, true, true, true, true, true, true, true, true, true, true, true, false] rfl rfl (one_of HT_.out (by kernel_rfl)) (by decide) (fun K hK => ?_)
        refine Kd.R_lit_step (Kd.int .u8) _ 5 ?hg (N := 38) ?hd (xs := ([(((((t167 + t168) % 256) + t169) % 256) + a0_2) % 256] : List Int)) (inner := [.int .u8 ((((((t167 + t168) % 256) + t169) % 256) + a0_2) % 256)]) (ok := fun _ => True) (okp := fun _ => True) ?hr ?hp (fun _ hk => hk) trivial (Below.refl _ _) (Nat.le_refl _) (by simp) ?_; (case hd => rfl); (case hg => rfl); (case hr => first | (go_simp; done) | (go_simp; rfl) | (go_simp; simp only [IntKind.wrap_u8, Int.emod_add_emod, Int.add_emod_emod, Int.emod_emod_of_dvd, Int.emod_emod]; done) | (go_simp; simp only [IntKind.wrap_u8, Int.emod_add_emod, Int.add_emod_emod, Int.emod_emod_of_dvd, Int.emod_emod]; rfl)); (case hp => exact (Reps.one (show Kd.M (Kd.int .u8) _ _ _ ((((((t167 + t168) % 256) + t169) % 256) + a0_2) % 256) [.int .u8 ((((((t167 + t168) % 256) + t169) % 256) + a0_2) % 256)] from rfl) (Reps.none _ _)))
        intro v171 w21 ho22 hb hg_ hnew_
        clear hg_ hnew_
        (first | rw [← Ny170.out] at ho22 | (simp only [Int.reduceToNat] at ho22; rw [← Ny170.out] at ho22))
        have n0_ := Aside0.mk (Kd.R_lower ho22 (below_size (by repeat (first | (with_reducible first | exact HB.out | apply below_alloc | apply pw_below_drewN | apply below_drew1 | refine below_set ?_ GE165.out) | exact HB.out))))
        have n1_ := Aside0.mk (blk_below (g := gb165) (o := .cells #[.bool a0_0, .bool a0_1, .int .u8 a0_2, .bool a0_3, .bool a0_4, .int .u16 a0_5, .bool a0_6, .int .u8 a0_7, .bool a0_8, .int .u8 a0_9, .bool a0_10, .bool a0_11, .int .u8 a0_12] 27 (0, 0)) (by (with_reducible repeat (first | refine blk_drewN ?_ _ | refine blk_drew ?_ | refine blk_alloc ?_ _)); exact BK165.out) hb)
        have n2_ := Aside0.mk (below_step (by repeat (first | (with_reducible first | exact HB.out | apply below_alloc | apply pw_below_drewN | apply below_drew1 | refine below_set ?_ GE165.out) | exact HB.out)) hb)
        clear BK165
        clear HB
        have HO172 := n0_
        have BK165 := n1_
        have HB := n2_
        clear n0_ n1_ n2_
        clear hb ho22
        refine hK.out _ _ ⟨(blk_cell BK165.out 0).trans rfl, (blk_cell BK165.out 1).trans rfl, (blk_cell BK165.out 2).trans rfl, (blk_cell BK165.out 3).trans rfl, (blk_cell BK165.out 4).trans rfl, (blk_cell BK165.out 5).trans rfl, (blk_cell BK165.out 6).trans rfl, (blk_cell BK165.out 7).trans rfl, (blk_cell BK165.out 8).trans rfl, (blk_cell BK165.out 9).trans rfl, (blk_cell BK165.out 10).trans rfl, (blk_cell BK165.out 11).trans rfl, (blk_cell BK165.out 12).trans rfl⟩ (fun hHeld => ?_)
        clear hK K
        refine norm_ (a' := ?_) ?_ ?_
        rotate_left
        · show Act.put _ (some 38) _ = _
          simp only [Act.put, List.setIfInBounds_toArray, List.set_cons_zero, List.set_cons_succ, i64_w, i32_w]
          rfl
        refine pure_ (i := 14) (N := some 7) (v := ?_) (a' := ?_) #[true, true, true, true, true, true, true, true, true, true, true, true, true, true, true] rfl rfl (any_of HT_.out (by kernel_rfl)) (fun _ _ _ h => h) (Or.inl ⟨by rfl, ?_⟩) ?_ ?_
        rotate_left
        · intro w'
          go_simp
          with_reducible rfl
        rotate_left
        · simp only [Act.put, List.setIfInBounds_toArray, List.set_cons_zero, List.set_cons_succ, i64_w, i32_w]
          rfl
        refine done_ (done_of HT_.out (by kernel_rfl)) ?_
        go_upto_if 39 with (fail)
        go_cut [7] (fun v7 wc => ∃ (kq : Nat) (x7_18 : List Int), Aside0 (easelref05_Put.j1 kq l1 x7_18 a0_0 a0_1 a0_2 a0_3 a0_4 a0_5 a0_6 a0_7 a0_8 a0_9 a0_10 a0_11 a0_12 = some (r1, r2)) ∧ Aside0 (kq ≤ kj4) ∧ Aside0 (Kd.R (Kd.int .u8) 5 wc w.heap.size (fun _ => True) v7 x7_18) ∧ Aside0 (wc.heap[gb165]? = some (.cells #[.bool a0_0, .bool a0_1, .int .u8 a0_2, .bool a0_3, .bool a0_4, .int .u16 a0_5, .bool a0_6, .int .u8 a0_7, .bool a0_8, .int .u8 a0_9, .bool a0_10, .bool a0_11, .int .u8 a0_12] 27 (0, 0))) ∧ Aside0 (Below w.heap.size w wc))
        case first =>
          have H := HC19.out
          clear HC19
          by_cases c23 : x6_4 = true
          · subst c23
            have H1 : ((easelref05_bit.f a0_3 128).bind fun t173 => ((easelref05_bit.f a0_6 64).bind fun t174 => ((easelref05_bit.f a0_8 32).bind fun t175 => ((easelref05_bit.f a0_11 16).bind fun t176 => (if y170.length < 140737488355328 then (easelref05_Put.j1 kj4 l1 (y170 ++ [(((((t173 + t174) % 256) + t175) % 256) + t176) % 256]) a0_0 a0_1 a0_2 a0_3 a0_4 a0_5 a0_6 a0_7 a0_8 a0_9 a0_10 a0_11 a0_12) else (none)))))) = some (r1, r2) := by rw [if_pos rfl] at H; exact H
            clear H
            have H := H1
            clear H1
            replace H := Option.bind_eq_some_iff.mp H
            obtain ⟨t173, A240, H⟩ := H
            replace H : ((easelref05_bit.f a0_6 64).bind fun t174 => ((easelref05_bit.f a0_8 32).bind fun t175 => ((easelref05_bit.f a0_11 16).bind fun t176 => (if y170.length < 140737488355328 then (easelref05_Put.j1 kj4 l1 (y170 ++ [(((((t173 + t174) % 256) + t175) % 256) + t176) % 256]) a0_0 a0_1 a0_2 a0_3 a0_4 a0_5 a0_6 a0_7 a0_8 a0_9 a0_10 a0_11 a0_12) else (none))))) = some (r1, r2) := H
            have A24 := Aside0.mk A240
            clear A240
            replace H := Option.bind_eq_some_iff.mp H
            obtain ⟨t174, A250, H⟩ := H
            replace H : ((easelref05_bit.f a0_8 32).bind fun t175 => ((easelref05_bit.f a0_11 16).bind fun t176 => (if y170.length < 140737488355328 then (easelref05_Put.j1 kj4 l1 (y170 ++ [(((((t173 + t174) % 256) + t175) % 256) + t176) % 256]) a0_0 a0_1 a0_2 a0_3 a0_4 a0_5 a0_6 a0_7 a0_8 a0_9 a0_10 a0_11 a0_12) else (none)))) = some (r1, r2) := H
            have A25 := Aside0.mk A250
            clear A250
            replace H := Option.bind_eq_some_iff.mp H
            obtain ⟨t175, A260, H⟩ := H
            replace H : ((easelref05_bit.f a0_11 16).bind fun t176 => (if y170.length < 140737488355328 then (easelref05_Put.j1 kj4 l1 (y170 ++ [(((((t173 + t174) % 256) + t175) % 256) + t176) % 256]) a0_0 a0_1 a0_2 a0_3 a0_4 a0_5 a0_6 a0_7 a0_8 a0_9 a0_10 a0_11 a0_12) else (none))) = some (r1, r2) := H
            have A26 := Aside0.mk A260
            clear A260
            replace H := Option.bind_eq_some_iff.mp H
            obtain ⟨t176, A270, H⟩ := H
            replace H : (if y170.length < 140737488355328 then (easelref05_Put.j1 kj4 l1 (y170 ++ [(((((t173 + t174) % 256) + t175) % 256) + t176) % 256]) a0_0 a0_1 a0_2 a0_3 a0_4 a0_5 a0_6 a0_7 a0_8 a0_9 a0_10 a0_11 a0_12) else (none)) = some (r1, r2) := H
            have A27 := Aside0.mk A270
            clear A270
            by_cases c28 : y170.length < 140737488355328
            · rw [if_pos c28] at H
              have LMc28 := Aside0.mk c28
              clear c28
              obtain ⟨y177, hy177⟩ : ∃ y_ : List Int, y_ = (y170 ++ [(((((t173 + t174) % 256) + t175) % 256) + t176) % 256]) := ⟨_, rfl⟩
              replace H : (easelref05_Put.j1 kj4 l1 y177 a0_0 a0_1 a0_2 a0_3 a0_4 a0_5 a0_6 a0_7 a0_8 a0_9 a0_10 a0_11 a0_12) = some (r1, r2) := by first | (rw [hy177]; with_reducible exact H) | (have H2_ := (Option.bind_some _ _).symm.trans H; rw [hy177]; with_reducible exact H2_) | (have H2_ := (Option.bind_some _ _).symm.trans H; with_reducible exact H2_) | with_reducible exact H | (rw [hy177]; exact H) | exact H
              have Ny177 := Aside0.mk hy177
              clear hy177
              have H' := Aside0.mk H
              clear H
              try go_wp2
              have n0_ := Aside0.mk (Kd.R_drew HO172.out)
              have n1_ := Aside0.mk (blk_drew BK165.out)
              have n2_ := Aside0.mk (below_drew1 HB.out)
              clear HO172
              clear BK165
              clear HB
              have HO172 := n0_
              have BK165 := n1_
              have HB := n2_
              clear n0_ n1_ n2_
              refine start_ (n := 19) (S := fun w' => w'.cell? ⟨gb165, 0, none⟩ = some (.bool a0_0) ∧ w'.cell? ⟨gb165, 1, none⟩ = some (.bool a0_1) ∧ w'.cell? ⟨gb165, 2, none⟩ = some (.int .u8 a0_2) ∧ w'.cell? ⟨gb165, 3, none⟩ = some (.bool a0_3) ∧ w'.cell? ⟨gb165, 4, none⟩ = some (.bool a0_4) ∧ w'.cell? ⟨gb165, 5, none⟩ = some (.int .u16 a0_5) ∧ w'.cell? ⟨gb165, 6, none⟩ = some (.bool a0_6) ∧ w'.cell? ⟨gb165, 7, none⟩ = some (.int .u8 a0_7) ∧ w'.cell? ⟨gb165, 8, none⟩ = some (.bool a0_8) ∧ w'.cell? ⟨gb165, 9, none⟩ = some (.int .u8 a0_9) ∧ w'.cell? ⟨gb165, 10, none⟩ = some (.bool a0_10) ∧ w'.cell? ⟨gb165, 11, none⟩ = some (.bool a0_11) ∧ w'.cell? ⟨gb165, 12, none⟩ = some (.int .u8 a0_12)) (ds := []) #[false, false, false, false, false, false, false, false, false, false, false, false, false, false, false, false, false, false, false] (by kernel_rfl) rfl rfl ⟨(blk_cell BK165.out 0).trans rfl, (blk_cell BK165.out 1).trans rfl, (blk_cell BK165.out 2).trans rfl, (blk_cell BK165.out 3).trans rfl, (blk_cell BK165.out 4).trans rfl, (blk_cell BK165.out 5).trans rfl, (blk_cell BK165.out 6).trans rfl, (blk_cell BK165.out 7).trans rfl, (blk_cell BK165.out 8).trans rfl, (blk_cell BK165.out 9).trans rfl, (blk_cell BK165.out 10).trans rfl, (blk_cell BK165.out 11).trans rfl, (blk_cell BK165.out 12).trans rfl⟩ (fun hHeld => ?_); refine with_tabW easelref05_Put.tab6 easelref05_Put.bits6 (fun HT_ HW_ => ?_)
              generalize w21.drew = w29 at HO172 BK165 HB hHeld ⊢
              refine pure_ (i := 0) (N := some 40) (v := ?_) (a' := ?_) #[true, false, false, false, false, false, false, false, false, false, false, false, false, false, false, false, false, false, false] rfl rfl (any_of HT_.out (by kernel_rfl)) (fun _ _ _ h => h) (Or.inl ⟨by rfl, ?_⟩) ?_ ?_
              rotate_left
              · intro w'
                go_simp
                with_reducible rfl
              rotate_left
              · simp only [Act.put, List.setIfInBounds_toArray, List.set_cons_zero, List.set_cons_succ, i64_w, i32_w]
                rfl
              refine pure_ (i := 1) (N := some 41) (v := ?_) (a' := ?_) #[true, true, false, false, false, false, false, false, false, false, false, false, false, false, false, false, false, false, false] rfl rfl (any_of HT_.out (by kernel_rfl)) (fun _ _ _ h => h) (Or.inl ⟨by rfl, ?_⟩) ?_ ?_
              rotate_left
              · intro w'
                go_simp
                with_reducible rfl
              rotate_left
              · simp only [Act.put, List.setIfInBounds_toArray, List.set_cons_zero, List.set_cons_succ, i64_w, i32_w]
                rfl
              refine pure_ (i := 4) (N := some 44) (v := ?_) (a' := ?_) #[true, true, false, false, true, false, false, false, false, false, false, false, false, false, false, false, false, false, false] rfl rfl (any_of HT_.out (by kernel_rfl)) (fun _ _ _ h => h) (Or.inl ⟨by rfl, ?_⟩) ?_ ?_
              rotate_left
              · intro w'
                go_simp
                with_reducible rfl
              rotate_left
              · simp only [Act.put, List.setIfInBounds_toArray, List.set_cons_zero, List.set_cons_succ, i64_w, i32_w]
                rfl
              refine pure_ (i := 8) (N := some 48) (v := ?_) (a' := ?_) #[true, true, false, false, true, false, false, false, true, false, false, false, false, false, false, false, false, false, false] rfl rfl (any_of HT_.out (by kernel_rfl)) (fun _ _ _ h => h) (Or.inl ⟨by rfl, ?_⟩) ?_ ?_
              rotate_left
              · intro w'
                go_simp
                with_reducible rfl
              rotate_left
              · simp only [Act.put, List.setIfInBounds_toArray, List.set_cons_zero, List.set_cons_succ, i64_w, i32_w]
                rfl
              refine pure_ (i := 12) (N := some 52) (v := ?_) (a' := ?_) #[true, true, false, false, true, false, false, false, true, false, false, false, true, false, false, false, false, false, false] rfl rfl (any_of HT_.out (by kernel_rfl)) (fun _ _ _ h => h) (Or.inl ⟨by rfl, ?_⟩) ?_ ?_
              rotate_left
              · intro w'
                go_simp
                with_reducible rfl
              rotate_left
              · simp only [Act.put, List.setIfInBounds_toArray, List.set_cons_zero, List.set_cons_succ, i64_w, i32_w]
                rfl
              refine take_ (i := 2) (N := some 42) (v := ?_) (a' := ?_) #[true, true, true, false, true, false, false, false, true, false, false, false, true, false, false, false, false, false, false] rfl rfl (take_ofW HT_.out HW_.out (by kernel_rfl)) (fun _ _ _ h => h) (Or.inl ⟨by rfl, ?_⟩) hHeld ?_ ?_
              rotate_left
              · rintro w' ⟨s0, s1, s2, s3, s4, s5, s6, s7, s8, s9, s10, s11, s12⟩
                go_simp
                with_reducible rfl
              rotate_left
              · simp only [Act.put, List.setIfInBounds_toArray, List.set_cons_zero, List.set_cons_succ, i64_w, i32_w]
                rfl
              refine take_ (i := 5) (N := some 45) (v := ?_) (a' := ?_) #[true, true, true, false, true, true, false, false, true, false, false, false, true, false, false, false, false, false, false] rfl rfl (take_ofW HT_.out HW_.out (by kernel_rfl)) (fun _ _ _ h => h) (Or.inl ⟨by rfl, ?_⟩) hHeld ?_ ?_
              rotate_left
              · rintro w' ⟨s0, s1, s2, s3, s4, s5, s6, s7, s8, s9, s10, s11, s12⟩
                go_simp
                with_reducible rfl
              rotate_left
              · simp only [Act.put, List.setIfInBounds_toArray, List.set_cons_zero, List.set_cons_succ, i64_w, i32_w]
                rfl
              refine take_ (i := 9) (N := some 49) (v := ?_) (a' := ?_) #[true, true, true, false, true, true, false, false, true, true, false, false, true, false, false, false, false, false, false] rfl rfl (take_ofW HT_.out HW_.out (by kernel_rfl)) (fun _ _ _ h => h) (Or.inl ⟨by rfl, ?_⟩) hHeld ?_ ?_
              rotate_left
              · rintro w' ⟨s0, s1, s2, s3, s4, s5, s6, s7, s8, s9, s10, s11, s12⟩
                go_simp
                with_reducible rfl
              rotate_left
              · simp only [Act.put, List.setIfInBounds_toArray, List.set_cons_zero, List.set_cons_succ, i64_w, i32_w]
                rfl
              refine take_ (i := 13) (N := some 53) (v := ?_) (a' := ?_) #[true, true, true, false, true, true, false, false, true, true, false, false, true, true, false, false, false, false, false] rfl rfl (take_ofW HT_.out HW_.out (by kernel_rfl)) (fun _ _ _ h => h) (Or.inl ⟨by rfl, ?_⟩) hHeld ?_ ?_
              rotate_left
              · rintro w' ⟨s0, s1, s2, s3, s4, s5, s6, s7, s8, s9, s10, s11, s12⟩
                go_simp
                with_reducible rfl
              rotate_left
              · simp only [Act.put, List.setIfInBounds_toArray, List.set_cons_zero, List.set_cons_succ, i64_w, i32_w]
                rfl
              refine one_ (i := 3) (N := some 43) #[true, true, true, true, true, true, false, false, true, true, false, false, true, true, false, false, false, false, false] rfl rfl (one_of HT_.out (by kernel_rfl)) (by decide) (fun K hK => ?_)
              refine goes_ Try.func53 (by kernel_rfl) rfl #[.bool a0_3, .int .u8 128] (by rfl) rfl rfl (by (try simp only [List.map_toArray, List.map_cons, List.map_nil]); first | done | rfl | (simp only [List.length_drop, List.length_take]; rfl)) ?_
              with_reducible refine (easelref05_bit.calls a0_3 128 t173 _ A24.out).mono ?_
              rintro e w' ⟨rfl, ⟨nd, rfl⟩⟩
              refine ⟨_, rfl, ?_⟩
              refine hK.out _ _ ⟨(blk_cell BK165.out 0).trans rfl, (blk_cell BK165.out 1).trans rfl, (blk_cell BK165.out 2).trans rfl, (blk_cell BK165.out 3).trans rfl, (blk_cell BK165.out 4).trans rfl, (blk_cell BK165.out 5).trans rfl, (blk_cell BK165.out 6).trans rfl, (blk_cell BK165.out 7).trans rfl, (blk_cell BK165.out 8).trans rfl, (blk_cell BK165.out 9).trans rfl, (blk_cell BK165.out 10).trans rfl, (blk_cell BK165.out 11).trans rfl, (blk_cell BK165.out 12).trans rfl⟩ (fun hHeld => ?_)
              clear hK K
              refine norm_ (a' := ?_) ?_ ?_
              rotate_left
              · show Act.put _ (some 43) _ = _
                simp only [Act.put, List.setIfInBounds_toArray, List.set_cons_zero, List.set_cons_succ, i64_w, i32_w]
                rfl
              refine one_ (i := 6) (N := some 46) #[true, true, true, true, true, true, true, false, true, true, false, false, true, true, false, false, false, false, false] rfl rfl (one_of HT_.out (by kernel_rfl)) (by decide) (fun K hK => ?_)
              refine goes_ Try.func53 (by kernel_rfl) rfl #[.bool a0_6, .int .u8 64] (by rfl) rfl rfl (by (try simp only [List.map_toArray, List.map_cons, List.map_nil]); first | done | rfl | (simp only [List.length_drop, List.length_take]; rfl)) ?_
              with_reducible refine (easelref05_bit.calls a0_6 64 t174 _ A25.out).mono ?_
              rintro e w' ⟨rfl, ⟨nd, rfl⟩⟩
              refine ⟨_, rfl, ?_⟩
              refine hK.out _ _ ⟨(blk_cell BK165.out 0).trans rfl, (blk_cell BK165.out 1).trans rfl, (blk_cell BK165.out 2).trans rfl, (blk_cell BK165.out 3).trans rfl, (blk_cell BK165.out 4).trans rfl, (blk_cell BK165.out 5).trans rfl, (blk_cell BK165.out 6).trans rfl, (blk_cell BK165.out 7).trans rfl, (blk_cell BK165.out 8).trans rfl, (blk_cell BK165.out 9).trans rfl, (blk_cell BK165.out 10).trans rfl, (blk_cell BK165.out 11).trans rfl, (blk_cell BK165.out 12).trans rfl⟩ (fun hHeld => ?_)
              clear hK K
              refine norm_ (a' := ?_) ?_ ?_
              rotate_left
              · show Act.put _ (some 46) _ = _
                simp only [Act.put, List.setIfInBounds_toArray, List.set_cons_zero, List.set_cons_succ, i64_w, i32_w]
                rfl
              refine pure_ (i := 7) (N := some 47) (v := ?_) (a' := ?_) #[true, true, true, true, true, true, true, true, true, true, false, false, true, true, false, false, false, false, false] rfl rfl (any_of HT_.out (by kernel_rfl)) (fun _ _ _ h => h) (Or.inl ⟨by rfl, ?_⟩) ?_ ?_
              rotate_left
              · intro w'
                go_simp
                with_reducible rfl
              rotate_left
              · simp only [Act.put, List.setIfInBounds_toArray, List.set_cons_zero, List.set_cons_succ, i64_w, i32_w]
                rfl
              refine one_ (i := 10) (N := some 50) #[true, true, true, true, true, true, true, true, true, true, true, false, true, true, false, false, false, false, false] rfl rfl (one_of HT_.out (by kernel_rfl)) (by decide) (fun K hK => ?_)
              refine goes_ Try.func53 (by kernel_rfl) rfl #[.bool a0_8, .int .u8 32] (by rfl) rfl rfl (by (try simp only [List.map_toArray, List.map_cons, List.map_nil]); first | done | rfl | (simp only [List.length_drop, List.length_take]; rfl)) ?_
              with_reducible refine (easelref05_bit.calls a0_8 32 t175 _ A26.out).mono ?_
              rintro e w' ⟨rfl, ⟨nd, rfl⟩⟩
              refine ⟨_, rfl, ?_⟩
              refine hK.out _ _ ⟨(blk_cell BK165.out 0).trans rfl, (blk_cell BK165.out 1).trans rfl, (blk_cell BK165.out 2).trans rfl, (blk_cell BK165.out 3).trans rfl, (blk_cell BK165.out 4).trans rfl, (blk_cell BK165.out 5).trans rfl, (blk_cell BK165.out 6).trans rfl, (blk_cell BK165.out 7).trans rfl, (blk_cell BK165.out 8).trans rfl, (blk_cell BK165.out 9).trans rfl, (blk_cell BK165.out 10).trans rfl, (blk_cell BK165.out 11).trans rfl, (blk_cell BK165.out 12).trans rfl⟩ (fun hHeld => ?_)
              clear hK K
              refine norm_ (a' := ?_) ?_ ?_
              rotate_left
              · show Act.put _ (some 50) _ = _
                simp only [Act.put, List.setIfInBounds_toArray, List.set_cons_zero, List.set_cons_succ, i64_w, i32_w]
                rfl
              refine pure_ (i := 11) (N := some 51) (v := ?_) (a' := ?_) #[true, true, true, true, true, true, true, true, true, true, true, true, true, true, false, false, false, false, false] rfl rfl (any_of HT_.out (by kernel_rfl)) (fun _ _ _ h => h) (Or.inl ⟨by rfl, ?_⟩) ?_ ?_
              rotate_left
              · intro w'
                go_simp
                with_reducible rfl
              rotate_left
              · simp only [Act.put, List.setIfInBounds_toArray, List.set_cons_zero, List.set_cons_succ, i64_w, i32_w]
                rfl
              refine one_ (i := 14) (N := some 54) #[true, true, true, true, true, true, true, true, true, true, true, true, true, true, true, false, false, false, false] rfl rfl (one_of HT_.out (by kernel_rfl)) (by decide) (fun K hK => ?_)
              refine goes_ Try.func53 (by kernel_rfl) rfl #[.bool a0_11, .int .u8 16] (by rfl) rfl rfl (by (try simp only [List.map_toArray, List.map_cons, List.map_nil]); first | done | rfl | (simp only [List.length_drop, List.length_take]; rfl)) ?_
              with_reducible refine (easelref05_bit.calls a0_11 16 t176 _ A27.out).mono ?_
              rintro e w' ⟨rfl, ⟨nd, rfl⟩⟩
              refine ⟨_, rfl, ?_⟩
              refine hK.out _ _ ⟨(blk_cell BK165.out 0).trans rfl, (blk_cell BK165.out 1).trans rfl, (blk_cell BK165.out 2).trans rfl, (blk_cell BK165.out 3).trans rfl, (blk_cell BK165.out 4).trans rfl, (blk_cell BK165.out 5).trans rfl, (blk_cell BK165.out 6).trans rfl, (blk_cell BK165.out 7).trans rfl, (blk_cell BK165.out 8).trans rfl, (blk_cell BK165.out 9).trans rfl, (blk_cell BK165.out 10).trans rfl, (blk_cell BK165.out 11).trans rfl, (blk_cell BK165.out 12).trans rfl⟩ (fun hHeld => ?_)
              clear hK K
              refine norm_ (a' := ?_) ?_ ?_
              rotate_left
              · show Act.put _ (some 54) _ = _
                simp only [Act.put, List.setIfInBounds_toArray, List.set_cons_zero, List.set_cons_succ, i64_w, i32_w]
                rfl
              refine pure_ (i := 15) (N := some 55) (v := ?_) (a' := ?_) #[true, true, true, true, true, true, true, true, true, true, true, true, true, true, true, true, false, false, false] rfl rfl (any_of HT_.out (by kernel_rfl)) (fun _ _ _ h => h) (Or.inl ⟨by rfl, ?_⟩) ?_ ?_
              rotate_left
              · intro w'
                go_simp
                with_reducible rfl
              rotate_left
              · simp only [Act.put, List.setIfInBounds_toArray, List.set_cons_zero, List.set_cons_succ, i64_w, i32_w]
                rfl
              refine one_ (i := 16) (N := some 56) #[true, true, true, true, true, true, true, true, true, true, true, true, true, true, true, true, true, false, false] rfl rfl (one_of HT_.out (by kernel_rfl)) (by decide) (fun K hK => ?_)
              refine value_ (w1 := ?_) (v := ?_) (by rfl) rfl ?_ ?_
              rotate_left 2
              · go_simp
                constructor
                · rfl
                · rfl
              refine hK.out _ _ ⟨(blk_cell (blk_alloc BK165.out _) 0).trans rfl, (blk_cell (blk_alloc BK165.out _) 1).trans rfl, (blk_cell (blk_alloc BK165.out _) 2).trans rfl, (blk_cell (blk_alloc BK165.out _) 3).trans rfl, (blk_cell (blk_alloc BK165.out _) 4).trans rfl, (blk_cell (blk_alloc BK165.out _) 5).trans rfl, (blk_cell (blk_alloc BK165.out _) 6).trans rfl, (blk_cell (blk_alloc BK165.out _) 7).trans rfl, (blk_cell (blk_alloc BK165.out _) 8).trans rfl, (blk_cell (blk_alloc BK165.out _) 9).trans rfl, (blk_cell (blk_alloc BK165.out _) 10).trans rfl, (blk_cell (blk_alloc BK165.out _) 11).trans rfl, (blk_cell (blk_alloc BK165.out _) 12).trans rfl⟩ (fun hHeld => ?_)
              clear hK K
              refine norm_ (a' := ?_) ?_ ?_
              rotate_left
              · show Act.put _ (some 56) _ = _
                simp only [Act.put, List.setIfInBounds_toArray, List.set_cons_zero, List.set_cons_succ, i64_w, i32_w]
                rfl
              refine one_ (i := 17) (N := some 57) #[true, true, true, true, true, true, true, true, true, true, true, true, true, true, true, true, true, true, false] rfl rfl (one_of HT_.out (by kernel_rfl)) (by decide) (fun K hK => ?_)
              refine Kd.R_append_step (Kd.int .u8) (w0 := w) w.heap.size (by rfl) (.tmp 40) (.tmp 56) 22 5 (.int .u8 0) 1 rfl Try.underlying22 info5 rfl (by decide) (by omega) v171 y170 ((((((t173 + t174) % 256) + t175) % 256) + t176) % 256) [.int .u8 ((((((t173 + t174) % 256) + t175) % 256) + t176) % 256)] (fun _ => True) (fun _ => False) rfl rfl ?aP (fun _ hk => hk.elim) ?aF ?aO ?aB ?aS ?aL ?_
              (case aP => exact rfl)
              (case aB => exact (by repeat (first | (with_reducible first | exact HB.out | apply below_alloc | apply pw_below_drewN | apply below_drew1 | refine below_set ?_ GE165.out) | exact HB.out)))
              (case aF => exact (fun _ _ => trivial))
              (case aO => exact (by (with_reducible repeat (first | apply Kd.R_alloc | apply Kd.R_drewN | apply Kd.R_drew)); exact HO172.out))
              (case aS => exact (below_size (by repeat (first | (with_reducible first | exact HB.out | apply below_alloc | apply pw_below_drewN | apply below_drew1 | refine below_set ?_ GE165.out) | exact HB.out))))
              (case aL => have := LMc28.out; omega)
              intro v178 w30 ho hb hg hat
              rw [← Ny177.out] at ho
              have n0_ := Aside0.mk (blk_grown (g := gb165) (o := .cells #[.bool a0_0, .bool a0_1, .int .u8 a0_2, .bool a0_3, .bool a0_4, .int .u16 a0_5, .bool a0_6, .int .u8 a0_7, .bool a0_8, .int .u8 a0_9, .bool a0_10, .bool a0_11, .int .u8 a0_12] 27 (0, 0)) (by (with_reducible repeat (first | refine blk_drewN ?_ _ | refine blk_drew ?_ | refine blk_alloc ?_ _)); exact BK165.out) hg (Kd.R_ne HO172.out BK165.out (by decide)))
              have n1_ := Aside0.mk (hb)
              have n2_ := Aside0.mk (ho)
              clear BK165
              clear HB
              clear HO172
              have BK165 := n0_
              have HB := n1_
              have HO179 := n2_
              clear n0_ n1_ n2_
              clear ho hb hg hat
              refine hK.out _ _ ⟨(blk_cell BK165.out 0).trans rfl, (blk_cell BK165.out 1).trans rfl, (blk_cell BK165.out 2).trans rfl, (blk_cell BK165.out 3).trans rfl, (blk_cell BK165.out 4).trans rfl, (blk_cell BK165.out 5).trans rfl, (blk_cell BK165.out 6).trans rfl, (blk_cell BK165.out 7).trans rfl, (blk_cell BK165.out 8).trans rfl, (blk_cell BK165.out 9).trans rfl, (blk_cell BK165.out 10).trans rfl, (blk_cell BK165.out 11).trans rfl, (blk_cell BK165.out 12).trans rfl⟩ (fun hHeld => ?_)
              clear hK K
              refine norm_ (a' := ?_) ?_ ?_
              rotate_left
              · show Act.put _ (some 57) _ = _
                simp only [Act.put, List.setIfInBounds_toArray, List.set_cons_zero, List.set_cons_succ, i64_w, i32_w]
                rfl
              refine pure_ (i := 18) (N := some 7) (v := ?_) (a' := ?_) #[true, true, true, true, true, true, true, true, true, true, true, true, true, true, true, true, true, true, true] rfl rfl (any_of HT_.out (by kernel_rfl)) (fun _ _ _ h => h) (Or.inl ⟨by rfl, ?_⟩) ?_ ?_
              rotate_left
              · intro w'
                go_simp
                with_reducible rfl
              rotate_left
              · simp only [Act.put, List.setIfInBounds_toArray, List.set_cons_zero, List.set_cons_succ, i64_w, i32_w]
                rfl
              refine done_ (done_of HT_.out (by kernel_rfl)) ?_
              try go_wp2
              go_meet
              case rel => exact ⟨_, (y177), H', ⟨by have := HJ4.out; first | omega | exact Nat.le_refl _⟩, ⟨by (with_reducible repeat (first | apply Kd.R_alloc | apply Kd.R_drewN | apply Kd.R_drew)); exact HO179.out⟩, ⟨by (with_reducible repeat (first | refine blk_drewN ?_ _ | refine blk_drew ?_ | refine blk_alloc ?_ _)); exact BK165.out⟩, ⟨by repeat (first | (with_reducible first | exact HB.out | apply below_alloc | apply pw_below_drewN | apply below_drew1 | refine below_set ?_ GE165.out) | exact HB.out)⟩⟩
            · rw [if_neg c28] at H
              exact absurd H (by simp)
          · replace c23 := Bool.eq_false_iff.mpr c23
            subst c23
            have H1 : (easelref05_Put.j1 kj4 l1 y170 a0_0 a0_1 a0_2 a0_3 a0_4 a0_5 a0_6 a0_7 a0_8 a0_9 a0_10 a0_11 a0_12) = some (r1, r2) := by rw [if_neg (show ¬ (false = true) by decide)] at H; exact H
            clear H
            have H := H1
            clear H1
            have H' := Aside0.mk H
            clear H
            go_wp2
            go_meet
            case rel => exact ⟨_, (y170), H', ⟨by have := HJ4.out; first | omega | exact Nat.le_refl _⟩, ⟨by (with_reducible repeat (first | apply Kd.R_alloc | apply Kd.R_drewN | apply Kd.R_drew)); exact HO172.out⟩, ⟨by (with_reducible repeat (first | refine blk_drewN ?_ _ | refine blk_drew ?_ | refine blk_alloc ?_ _)); exact BK165.out⟩, ⟨by repeat (first | (with_reducible first | exact HB.out | apply below_alloc | apply pw_below_drewN | apply below_drew1 | refine below_set ?_ GE165.out) | exact HB.out)⟩⟩
        case rest =>
          clear HC19
          try clear c1
          try clear c2
          try clear p2
          try clear c4
          try clear c5
          try clear c9
          try clear c11
          try clear c13
          try clear c23
          try clear c28
          try clear hcz10_0
          try clear hcz10_1
          try clear hcz10_10
          try clear hcz10_11
          try clear hcz10_12
          try clear hcz10_2
          try clear hcz10_3
          try clear hcz10_4
          try clear hcz10_5
          try clear hcz10_6
          try clear hcz10_7
          try clear hcz10_8
          try clear hcz10_9
          try clear hcz12_0
          try clear hcz12_1
          try clear hcz12_10
          try clear hcz12_11
          try clear hcz12_12
          try clear hcz12_2
          try clear hcz12_3
          try clear hcz12_4
          try clear hcz12_5
          try clear hcz12_6
          try clear hcz12_7
          try clear hcz12_8
          try clear hcz12_9
          try clear hcz14_0
          try clear hcz14_1
          try clear hcz14_10
          try clear hcz14_11
          try clear hcz14_12
          try clear hcz14_2
          try clear hcz14_3
          try clear hcz14_4
          try clear hcz14_5
          try clear hcz14_6
          try clear hcz14_7
          try clear hcz14_8
          try clear hcz14_9
          try clear hcz15_0
          try clear hcz15_1
          try clear hcz15_10
          try clear hcz15_11
          try clear hcz15_12
          try clear hcz15_2
          try clear hcz15_3
          try clear hcz15_4
          try clear hcz15_5
          try clear hcz15_6
          try clear hcz15_7
          try clear hcz15_8
          try clear hcz15_9
          try clear hcz7_0
          try clear hcz7_1
          try clear hcz7_10
          try clear hcz7_11
          try clear hcz7_12
          try clear hcz7_2
          try clear hcz7_3
          try clear hcz7_4
          try clear hcz7_5
          try clear hcz7_6
          try clear hcz7_7
          try clear hcz7_8
          try clear hcz7_9
          try clear hfz10_0
          try clear hfz10_1
          try clear hfz10_10
          try clear hfz10_11
          try clear hfz10_12
          try clear hfz10_2
          try clear hfz10_3
          try clear hfz10_4
          try clear hfz10_5
          try clear hfz10_6
          try clear hfz10_7
          try clear hfz10_8
          try clear hfz10_9
          try clear hfz12_0
          try clear hfz12_1
          try clear hfz12_10
          try clear hfz12_11
          try clear hfz12_12
          try clear hfz12_2
          try clear hfz12_3
          try clear hfz12_4
          try clear hfz12_5
          try clear hfz12_6
          try clear hfz12_7
          try clear hfz12_8
          try clear hfz12_9
          try clear hfz14_0
          try clear hfz14_1
          try clear hfz14_10
          try clear hfz14_11
          try clear hfz14_12
          try clear hfz14_2
          try clear hfz14_3
          try clear hfz14_4
          try clear hfz14_5
          try clear hfz14_6
          try clear hfz14_7
          try clear hfz14_8
          try clear hfz14_9
          try clear hfz15_0
          try clear hfz15_1
          try clear hfz15_10
          try clear hfz15_11
          try clear hfz15_12
          try clear hfz15_2
          try clear hfz15_3
          try clear hfz15_4
          try clear hfz15_5
          try clear hfz15_6
          try clear hfz15_7
          try clear hfz15_8
          try clear hfz15_9
          try clear hfz7_0
          try clear hfz7_1
          try clear hfz7_10
          try clear hfz7_11
          try clear hfz7_12
          try clear hfz7_2
          try clear hfz7_3
          try clear hfz7_4
          try clear hfz7_5
          try clear hfz7_6
          try clear hfz7_7
          try clear hfz7_8
          try clear hfz7_9
          try clear p2
          obtain ⟨kq, x7_18, HA, HJ18, HO_7, BK165, HB⟩ := hcut
          cases kq with
          | zero => exact absurd HA.out (by simp [easelref05_Put.j1])
          | succ kj18 =>
            have H := HA.out
            clear HA
            simp only [easelref05_Put.j1] at H
            have HC31 := Aside0.mk H
            clear H
            go_upto_region 7 with (fail)
            go_cut [63] (fun v63 wc => ∃ (kq : Nat) (x63_30 : Bool), v63 = .bool x63_30 ∧ Aside0 (easelref05_Put.j2 kq l1 x7_18 x63_30 a0_0 a0_1 a0_2 a0_3 a0_4 a0_5 a0_6 a0_7 a0_8 a0_9 a0_10 a0_11 a0_12 = some (r1, r2)) ∧ Aside0 (kq ≤ kj18) ∧ Aside0 (Kd.R (Kd.int .u8) 5 wc w.heap.size (fun _ => True) u7 x7_18) ∧ Aside0 (wc.heap[gb165]? = some (.cells #[.bool a0_0, .bool a0_1, .int .u8 a0_2, .bool a0_3, .bool a0_4, .int .u16 a0_5, .bool a0_6, .int .u8 a0_7, .bool a0_8, .int .u8 a0_9, .bool a0_10, .bool a0_11, .int .u8 a0_12] 27 (0, 0))) ∧ Aside0 (Below w.heap.size w wc))
            case first =>
              have H := HC31.out
              clear HC31
              by_cases c32 : a0_3 = true
              · subst c32
                have H1 : (easelref05_Put.j2 kj18 l1 x7_18 a0_4 a0_0 a0_1 a0_2 true a0_4 a0_5 a0_6 a0_7 a0_8 a0_9 a0_10 a0_11 a0_12) = some (r1, r2) := by rw [if_pos rfl] at H; exact H
                clear H
                have H := H1
                clear H1
                have H' := Aside0.mk H
                clear H
                have hcz33_0 : wc.cell? ⟨gb165, 0, none⟩ = some (.bool a0_0) := (blk_cell BK165.out 0).trans rfl
                have hcz33_1 : wc.cell? ⟨gb165, 1, none⟩ = some (.bool a0_1) := (blk_cell BK165.out 1).trans rfl
                have hcz33_2 : wc.cell? ⟨gb165, 2, none⟩ = some (.int .u8 a0_2) := (blk_cell BK165.out 2).trans rfl
                have hcz33_3 : wc.cell? ⟨gb165, 3, none⟩ = some (.bool true) := (blk_cell BK165.out 3).trans rfl
                have hcz33_4 : wc.cell? ⟨gb165, 4, none⟩ = some (.bool a0_4) := (blk_cell BK165.out 4).trans rfl
                have hcz33_5 : wc.cell? ⟨gb165, 5, none⟩ = some (.int .u16 a0_5) := (blk_cell BK165.out 5).trans rfl
                have hcz33_6 : wc.cell? ⟨gb165, 6, none⟩ = some (.bool a0_6) := (blk_cell BK165.out 6).trans rfl
                have hcz33_7 : wc.cell? ⟨gb165, 7, none⟩ = some (.int .u8 a0_7) := (blk_cell BK165.out 7).trans rfl
                have hcz33_8 : wc.cell? ⟨gb165, 8, none⟩ = some (.bool a0_8) := (blk_cell BK165.out 8).trans rfl
                have hcz33_9 : wc.cell? ⟨gb165, 9, none⟩ = some (.int .u8 a0_9) := (blk_cell BK165.out 9).trans rfl
                have hcz33_10 : wc.cell? ⟨gb165, 10, none⟩ = some (.bool a0_10) := (blk_cell BK165.out 10).trans rfl
                have hcz33_11 : wc.cell? ⟨gb165, 11, none⟩ = some (.bool a0_11) := (blk_cell BK165.out 11).trans rfl
                have hcz33_12 : wc.cell? ⟨gb165, 12, none⟩ = some (.int .u8 a0_12) := (blk_cell BK165.out 12).trans rfl
                have hfz33_0 := blk_frozen BK165.out 0
                have hfz33_1 := blk_frozen BK165.out 1
                have hfz33_2 := blk_frozen BK165.out 2
                have hfz33_3 := blk_frozen BK165.out 3
                have hfz33_4 := blk_frozen BK165.out 4
                have hfz33_5 := blk_frozen BK165.out 5
                have hfz33_6 := blk_frozen BK165.out 6
                have hfz33_7 := blk_frozen BK165.out 7
                have hfz33_8 := blk_frozen BK165.out 8
                have hfz33_9 := blk_frozen BK165.out 9
                have hfz33_10 := blk_frozen BK165.out 10
                have hfz33_11 := blk_frozen BK165.out 11
                have hfz33_12 := blk_frozen BK165.out 12
                go_wp2
                go_meet
                case rel => exact ⟨_, (a0_4), (by first | rfl | (simp; done) | (simp [*]; done)), H', ⟨by have := HJ4.out; have := HJ18.out; first | omega | exact Nat.le_refl _⟩, ⟨by (with_reducible repeat (first | apply Kd.R_alloc | apply Kd.R_drewN | apply Kd.R_drew)); exact HO_7.out⟩, ⟨by (with_reducible repeat (first | refine blk_drewN ?_ _ | refine blk_drew ?_ | refine blk_alloc ?_ _)); exact BK165.out⟩, ⟨by repeat (first | (with_reducible first | exact HB.out | apply below_alloc | apply pw_below_drewN | apply below_drew1 | refine below_set ?_ GE165.out) | exact HB.out)⟩⟩
              · replace c32 := Bool.eq_false_iff.mpr c32
                subst c32
                have H1 : (easelref05_Put.j2 kj18 l1 x7_18 false a0_0 a0_1 a0_2 false a0_4 a0_5 a0_6 a0_7 a0_8 a0_9 a0_10 a0_11 a0_12) = some (r1, r2) := by rw [if_neg (show ¬ (false = true) by decide)] at H; exact H
                clear H
                have H := H1
                clear H1
                have H' := Aside0.mk H
                clear H
                have hcz34_0 : wc.cell? ⟨gb165, 0, none⟩ = some (.bool a0_0) := (blk_cell BK165.out 0).trans rfl
                have hcz34_1 : wc.cell? ⟨gb165, 1, none⟩ = some (.bool a0_1) := (blk_cell BK165.out 1).trans rfl
                have hcz34_2 : wc.cell? ⟨gb165, 2, none⟩ = some (.int .u8 a0_2) := (blk_cell BK165.out 2).trans rfl
                have hcz34_3 : wc.cell? ⟨gb165, 3, none⟩ = some (.bool false) := (blk_cell BK165.out 3).trans rfl
                have hcz34_4 : wc.cell? ⟨gb165, 4, none⟩ = some (.bool a0_4) := (blk_cell BK165.out 4).trans rfl
                have hcz34_5 : wc.cell? ⟨gb165, 5, none⟩ = some (.int .u16 a0_5) := (blk_cell BK165.out 5).trans rfl
                have hcz34_6 : wc.cell? ⟨gb165, 6, none⟩ = some (.bool a0_6) := (blk_cell BK165.out 6).trans rfl
                have hcz34_7 : wc.cell? ⟨gb165, 7, none⟩ = some (.int .u8 a0_7) := (blk_cell BK165.out 7).trans rfl
                have hcz34_8 : wc.cell? ⟨gb165, 8, none⟩ = some (.bool a0_8) := (blk_cell BK165.out 8).trans rfl
                have hcz34_9 : wc.cell? ⟨gb165, 9, none⟩ = some (.int .u8 a0_9) := (blk_cell BK165.out 9).trans rfl
                have hcz34_10 : wc.cell? ⟨gb165, 10, none⟩ = some (.bool a0_10) := (blk_cell BK165.out 10).trans rfl
                have hcz34_11 : wc.cell? ⟨gb165, 11, none⟩ = some (.bool a0_11) := (blk_cell BK165.out 11).trans rfl
                have hcz34_12 : wc.cell? ⟨gb165, 12, none⟩ = some (.int .u8 a0_12) := (blk_cell BK165.out 12).trans rfl
                have hfz34_0 := blk_frozen BK165.out 0
                have hfz34_1 := blk_frozen BK165.out 1
                have hfz34_2 := blk_frozen BK165.out 2
                have hfz34_3 := blk_frozen BK165.out 3
                have hfz34_4 := blk_frozen BK165.out 4
                have hfz34_5 := blk_frozen BK165.out 5
                have hfz34_6 := blk_frozen BK165.out 6
                have hfz34_7 := blk_frozen BK165.out 7
                have hfz34_8 := blk_frozen BK165.out 8
                have hfz34_9 := blk_frozen BK165.out 9
                have hfz34_10 := blk_frozen BK165.out 10
                have hfz34_11 := blk_frozen BK165.out 11
                have hfz34_12 := blk_frozen BK165.out 12
                go_wp2
                go_meet
                case rel => exact ⟨_, (false), (by first | rfl | (simp; done) | (simp [*]; done)), H', ⟨by have := HJ4.out; have := HJ18.out; first | omega | exact Nat.le_refl _⟩, ⟨by (with_reducible repeat (first | apply Kd.R_alloc | apply Kd.R_drewN | apply Kd.R_drew)); exact HO_7.out⟩, ⟨by (with_reducible repeat (first | refine blk_drewN ?_ _ | refine blk_drew ?_ | refine blk_alloc ?_ _)); exact BK165.out⟩, ⟨by repeat (first | (with_reducible first | exact HB.out | apply below_alloc | apply pw_below_drewN | apply below_drew1 | refine below_set ?_ GE165.out) | exact HB.out)⟩⟩
            case rest =>
              clear HC31
              try clear c1
              try clear c2
              try clear p2
              try clear c3
              try clear c4
              try clear c5
              try clear c9
              try clear c11
              try clear c13
              try clear c23
              try clear c28
              try clear c32
              try clear hcz10_0
              try clear hcz10_1
              try clear hcz10_10
              try clear hcz10_11
              try clear hcz10_12
              try clear hcz10_2
              try clear hcz10_3
              try clear hcz10_4
              try clear hcz10_5
              try clear hcz10_6
              try clear hcz10_7
              try clear hcz10_8
              try clear hcz10_9
              try clear hcz12_0
              try clear hcz12_1
              try clear hcz12_10
              try clear hcz12_11
              try clear hcz12_12
              try clear hcz12_2
              try clear hcz12_3
              try clear hcz12_4
              try clear hcz12_5
              try clear hcz12_6
              try clear hcz12_7
              try clear hcz12_8
              try clear hcz12_9
              try clear hcz14_0
              try clear hcz14_1
              try clear hcz14_10
              try clear hcz14_11
              try clear hcz14_12
              try clear hcz14_2
              try clear hcz14_3
              try clear hcz14_4
              try clear hcz14_5
              try clear hcz14_6
              try clear hcz14_7
              try clear hcz14_8
              try clear hcz14_9
              try clear hcz15_0
              try clear hcz15_1
              try clear hcz15_10
              try clear hcz15_11
              try clear hcz15_12
              try clear hcz15_2
              try clear hcz15_3
              try clear hcz15_4
              try clear hcz15_5
              try clear hcz15_6
              try clear hcz15_7
              try clear hcz15_8
              try clear hcz15_9
              try clear hcz33_0
              try clear hcz33_1
              try clear hcz33_10
              try clear hcz33_11
              try clear hcz33_12
              try clear hcz33_2
              try clear hcz33_3
              try clear hcz33_4
              try clear hcz33_5
              try clear hcz33_6
              try clear hcz33_7
              try clear hcz33_8
              try clear hcz33_9
              try clear hcz34_0
              try clear hcz34_1
              try clear hcz34_10
              try clear hcz34_11
              try clear hcz34_12
              try clear hcz34_2
              try clear hcz34_3
              try clear hcz34_4
              try clear hcz34_5
              try clear hcz34_6
              try clear hcz34_7
              try clear hcz34_8
              try clear hcz34_9
              try clear hcz7_0
              try clear hcz7_1
              try clear hcz7_10
              try clear hcz7_11
              try clear hcz7_12
              try clear hcz7_2
              try clear hcz7_3
              try clear hcz7_4
              try clear hcz7_5
              try clear hcz7_6
              try clear hcz7_7
              try clear hcz7_8
              try clear hcz7_9
              try clear hfz10_0
              try clear hfz10_1
              try clear hfz10_10
              try clear hfz10_11
              try clear hfz10_12
              try clear hfz10_2
              try clear hfz10_3
              try clear hfz10_4
              try clear hfz10_5
              try clear hfz10_6
              try clear hfz10_7
              try clear hfz10_8
              try clear hfz10_9
              try clear hfz12_0
              try clear hfz12_1
              try clear hfz12_10
              try clear hfz12_11
              try clear hfz12_12
              try clear hfz12_2
              try clear hfz12_3
              try clear hfz12_4
              try clear hfz12_5
              try clear hfz12_6
              try clear hfz12_7
              try clear hfz12_8
              try clear hfz12_9
              try clear hfz14_0
              try clear hfz14_1
              try clear hfz14_10
              try clear hfz14_11
              try clear hfz14_12
              try clear hfz14_2
              try clear hfz14_3
              try clear hfz14_4
              try clear hfz14_5
              try clear hfz14_6
              try clear hfz14_7
              try clear hfz14_8
              try clear hfz14_9
              try clear hfz15_0
              try clear hfz15_1
              try clear hfz15_10
              try clear hfz15_11
              try clear hfz15_12
              try clear hfz15_2
              try clear hfz15_3
              try clear hfz15_4
              try clear hfz15_5
              try clear hfz15_6
              try clear hfz15_7
              try clear hfz15_8
              try clear hfz15_9
              try clear hfz33_0
              try clear hfz33_1
              try clear hfz33_10
              try clear hfz33_11
              try clear hfz33_12
              try clear hfz33_2
              try clear hfz33_3
              try clear hfz33_4
              try clear hfz33_5
              try clear hfz33_6
              try clear hfz33_7
              try clear hfz33_8
              try clear hfz33_9
              try clear hfz34_0
              try clear hfz34_1
              try clear hfz34_10
              try clear hfz34_11
              try clear hfz34_12
              try clear hfz34_2
              try clear hfz34_3
              try clear hfz34_4
              try clear hfz34_5
              try clear hfz34_6
              try clear hfz34_7
              try clear hfz34_8
              try clear hfz34_9
              try clear hfz7_0
              try clear hfz7_1
              try clear hfz7_10
              try clear hfz7_11
              try clear hfz7_12
              try clear hfz7_2
              try clear hfz7_3
              try clear hfz7_4
              try clear hfz7_5
              try clear hfz7_6
              try clear hfz7_7
              try clear hfz7_8
              try clear hfz7_9
              try clear p2
              obtain ⟨kq, x63_30, rfl, HA, HJ30, HO_7, BK165, HB⟩ := hcut
              cases kq with
              | zero => exact absurd HA.out (by simp [easelref05_Put.j2])
              | succ kj30 =>
                have H := HA.out
                clear HA
                simp only [easelref05_Put.j2] at H
                have HC35 := Aside0.mk H
                clear H
                go_upto_if 63 with (fail)
                go_cut [7] (fun v7 wc => ∃ (kq : Nat) (x7_34 : List Int), Aside0 (easelref05_Put.j3 kq l1 x7_34 a0_0 a0_1 a0_2 a0_3 a0_4 a0_5 a0_6 a0_7 a0_8 a0_9 a0_10 a0_11 a0_12 = some (r1, r2)) ∧ Aside0 (kq ≤ kj30) ∧ Aside0 (Kd.R (Kd.int .u8) 5 wc w.heap.size (fun _ => True) v7 x7_34) ∧ Aside0 (wc.heap[gb165]? = some (.cells #[.bool a0_0, .bool a0_1, .int .u8 a0_2, .bool a0_3, .bool a0_4, .int .u16 a0_5, .bool a0_6, .int .u8 a0_7, .bool a0_8, .int .u8 a0_9, .bool a0_10, .bool a0_11, .int .u8 a0_12] 27 (0, 0))) ∧ Aside0 (Below w.heap.size w wc))
                case first =>
                  have H := HC35.out
                  clear HC35
                  by_cases c36 : x63_30 = true
                  · subst c36
                    have H1 : ((some (([(128 + ((IntKind.u16.wrap (Int.tdiv a0_5 256)) % 256)) % 256, (Int.tmod a0_5 256) % 256] : List Int) : List Int)).bind fun y180 => (if x7_18.length + y180.length < 140737488355328 then (easelref05_Put.j3 kj30 l1 (x7_18 ++ y180) a0_0 a0_1 a0_2 a0_3 a0_4 a0_5 a0_6 a0_7 a0_8 a0_9 a0_10 a0_11 a0_12) else (none))) = some (r1, r2) := by rw [if_pos rfl] at H; exact H
                    clear H
                    have H := H1
                    clear H1
                    obtain ⟨y180, hy180⟩ : ∃ y_ : List Int, y_ = (([(128 + ((IntKind.u16.wrap (Int.tdiv a0_5 256)) % 256)) % 256, (Int.tmod a0_5 256) % 256] : List Int)) := ⟨_, rfl⟩
                    replace H : (if x7_18.length + y180.length < 140737488355328 then (easelref05_Put.j3 kj30 l1 (x7_18 ++ y180) a0_0 a0_1 a0_2 a0_3 a0_4 a0_5 a0_6 a0_7 a0_8 a0_9 a0_10 a0_11 a0_12) else (none)) = some (r1, r2) := by first | (rw [hy180]; with_reducible exact H) | (have H2_ := (Option.bind_some _ _).symm.trans H; rw [hy180]; with_reducible exact H2_) | (have H2_ := (Option.bind_some _ _).symm.trans H; with_reducible exact H2_) | with_reducible exact H | (rw [hy180]; exact H) | exact H
                    have Ny180 := Aside0.mk hy180
                    clear hy180
                    by_cases c37 : x7_18.length + y180.length < 140737488355328
                    · rw [if_pos c37] at H
                      have LMc37 := Aside0.mk c37
                      clear c37
                      obtain ⟨y183, hy183⟩ : ∃ y_ : List Int, y_ = (x7_18 ++ y180) := ⟨_, rfl⟩
                      replace H : (easelref05_Put.j3 kj30 l1 y183 a0_0 a0_1 a0_2 a0_3 a0_4 a0_5 a0_6 a0_7 a0_8 a0_9 a0_10 a0_11 a0_12) = some (r1, r2) := by first | (rw [hy183]; with_reducible exact H) | (have H2_ := (Option.bind_some _ _).symm.trans H; rw [hy183]; with_reducible exact H2_) | (have H2_ := (Option.bind_some _ _).symm.trans H; with_reducible exact H2_) | with_reducible exact H | (rw [hy183]; exact H) | exact H
                      have Ny183 := Aside0.mk hy183
                      clear hy183
                      have H' := Aside0.mk H
                      clear H
                      have hcz38_0 : wc.cell? ⟨gb165, 0, none⟩ = some (.bool a0_0) := (blk_cell BK165.out 0).trans rfl
                      have hcz38_1 : wc.cell? ⟨gb165, 1, none⟩ = some (.bool a0_1) := (blk_cell BK165.out 1).trans rfl
                      have hcz38_2 : wc.cell? ⟨gb165, 2, none⟩ = some (.int .u8 a0_2) := (blk_cell BK165.out 2).trans rfl
                      have hcz38_3 : wc.cell? ⟨gb165, 3, none⟩ = some (.bool a0_3) := (blk_cell BK165.out 3).trans rfl
                      have hcz38_4 : wc.cell? ⟨gb165, 4, none⟩ = some (.bool a0_4) := (blk_cell BK165.out 4).trans rfl
                      have hcz38_5 : wc.cell? ⟨gb165, 5, none⟩ = some (.int .u16 a0_5) := (blk_cell BK165.out 5).trans rfl
                      have hcz38_6 : wc.cell? ⟨gb165, 6, none⟩ = some (.bool a0_6) := (blk_cell BK165.out 6).trans rfl
                      have hcz38_7 : wc.cell? ⟨gb165, 7, none⟩ = some (.int .u8 a0_7) := (blk_cell BK165.out 7).trans rfl
                      have hcz38_8 : wc.cell? ⟨gb165, 8, none⟩ = some (.bool a0_8) := (blk_cell BK165.out 8).trans rfl
                      have hcz38_9 : wc.cell? ⟨gb165, 9, none⟩ = some (.int .u8 a0_9) := (blk_cell BK165.out 9).trans rfl
                      have hcz38_10 : wc.cell? ⟨gb165, 10, none⟩ = some (.bool a0_10) := (blk_cell BK165.out 10).trans rfl
                      have hcz38_11 : wc.cell? ⟨gb165, 11, none⟩ = some (.bool a0_11) := (blk_cell BK165.out 11).trans rfl
                      have hcz38_12 : wc.cell? ⟨gb165, 12, none⟩ = some (.int .u8 a0_12) := (blk_cell BK165.out 12).trans rfl
                      have hfz38_0 := blk_frozen BK165.out 0
                      have hfz38_1 := blk_frozen BK165.out 1
                      have hfz38_2 := blk_frozen BK165.out 2
                      have hfz38_3 := blk_frozen BK165.out 3
                      have hfz38_4 := blk_frozen BK165.out 4
                      have hfz38_5 := blk_frozen BK165.out 5
                      have hfz38_6 := blk_frozen BK165.out 6
                      have hfz38_7 := blk_frozen BK165.out 7
                      have hfz38_8 := blk_frozen BK165.out 8
                      have hfz38_9 := blk_frozen BK165.out 9
                      have hfz38_10 := blk_frozen BK165.out 10
                      have hfz38_11 := blk_frozen BK165.out 11
                      have hfz38_12 := blk_frozen BK165.out 12
                      go_wp2_with (first | ((with_reducible refine gate_dst (N := 74) rfl ?_); refine Kd.R_lit (Kd.int .u8) _ 5 ?hg (N := 74) ?hd (xs := ([(128 + ((IntKind.u16.wrap (Int.tdiv a0_5 256)) % 256)) % 256, (Int.tmod a0_5 256) % 256] : List Int)) (inner := [.int .u8 ((128 + ((IntKind.u16.wrap (Int.tdiv a0_5 256)) % 256)) % 256), .int .u8 ((Int.tmod a0_5 256) % 256)]) (ok := fun _ => True) (okp := fun _ => True) ?hr ?hp (fun _ hk => hk) trivial (Below.refl _ _) (Nat.le_refl _) (by simp) ?_; (case hd => rfl); (case hg => rfl); (case hr => first | (go_simp; done) | (go_simp; rfl) | (go_simp; simp only [IntKind.wrap_u8, Int.emod_add_emod, Int.add_emod_emod, Int.emod_emod_of_dvd, Int.emod_emod]; done) | (go_simp; simp only [IntKind.wrap_u8, Int.emod_add_emod, Int.add_emod_emod, Int.emod_emod_of_dvd, Int.emod_emod]; rfl)); (case hp => exact (Reps.one (show Kd.M (Kd.int .u8) _ _ _ ((128 + ((IntKind.u16.wrap (Int.tdiv a0_5 256)) % 256)) % 256) [.int .u8 ((128 + ((IntKind.u16.wrap (Int.tdiv a0_5 256)) % 256)) % 256)] from rfl) (Reps.one (show Kd.M (Kd.int .u8) _ _ _ ((Int.tmod a0_5 256) % 256) [.int .u8 ((Int.tmod a0_5 256) % 256)] from rfl) (Reps.none _ _)))); intro v181 w39 ho40 hb hg_ hnew_; clear hg_ hnew_; (first | rw [← Ny180.out] at ho40 | (simp only [Int.reduceToNat] at ho40; rw [← Ny180.out] at ho40)); have n0_ := Aside0.mk (Kd.R_elder' (by (with_reducible repeat (first | apply Kd.R_alloc | apply Kd.R_drewN | apply Kd.R_drew)); exact HO_7.out) (Kd.R_base ho40) hb); have n1_ := Aside0.mk (Kd.R_lower (Kd.R_new' ho40 (Kd.R_lt (by (with_reducible repeat (first | apply Kd.R_alloc | apply Kd.R_drewN | apply Kd.R_drew)); exact HO_7.out))) (below_size (by repeat (first | (with_reducible first | exact HB.out | apply below_alloc | apply pw_below_drewN | apply below_drew1 | refine below_set ?_ GE165.out) | exact HB.out)))); have n2_ := Aside0.mk (blk_below (g := gb165) (o := .cells #[.bool a0_0, .bool a0_1, .int .u8 a0_2, .bool a0_3, .bool a0_4, .int .u16 a0_5, .bool a0_6, .int .u8 a0_7, .bool a0_8, .int .u8 a0_9, .bool a0_10, .bool a0_11, .int .u8 a0_12] 27 (0, 0)) (by (with_reducible repeat (first | refine blk_drewN ?_ _ | refine blk_drew ?_ | refine blk_alloc ?_ _)); exact BK165.out) hb); have n3_ := Aside0.mk (below_step (by repeat (first | (with_reducible first | exact HB.out | apply below_alloc | apply pw_below_drewN | apply below_drew1 | refine below_set ?_ GE165.out) | exact HB.out)) hb); clear HO_7; clear BK165; clear HB; have HO_7 := n0_; have HO182 := n1_; have BK165 := n2_; have HB := n3_; clear n0_ n1_ n2_ n3_; clear hb ho40; obtain ⟨Ao42, co42, eo42⟩ := Kd.R_slice HO182.out; subst eo42) | ((with_reducible refine gate_builtin (b := .append) (xs := #[.tmp 64, .tmp 74]) rfl ?_); at_builtin; refine Kd.R_append_rows (Kd.int .u8) (w0 := w) w.heap.size rfl (.tmp 64) (.tmp 74) 22 5 (.int .u8 0) 1 rfl Try.underlying22 info5 rfl (by decide) (by omega) u7 x7_18 y180 _ _ _ (fun k_ => some k_ ≠ (.slice Ao42 y180.length co42 : Value).ownBlock) (fun _ => False) rfl rfl ?aO ?aR (fun _ _ h => h) (fun _ h => h.elim) ?aF ?aB ?aS ?aL ?_; (case aR => repeat (first | exact (Kd.R_reads' HO182.out).2.2 | (with_reducible refine Kd.C_alloc ?_ _) | (with_reducible refine Kd.C_drewN ?_ _) | (with_reducible refine Kd.C_drew ?_))); (case aB => exact (by repeat (first | (with_reducible first | exact HB.out | apply below_alloc | apply pw_below_drewN | apply below_drew1 | refine below_set ?_ GE165.out) | exact HB.out))); (case aF => exact (fun k_ hk => Kd.fresh' (Kd.R_lt (by (with_reducible repeat (first | apply Kd.R_alloc | apply Kd.R_drewN | apply Kd.R_drew)); exact HO182.out)) k_ hk)); (case aO => exact (by (with_reducible repeat (first | apply Kd.R_alloc | apply Kd.R_drewN | apply Kd.R_drew)); exact Kd.R_mono HO_7.out (fun _ hk => hk.2))); (case aS => exact (below_size (by repeat (first | (with_reducible first | exact HB.out | apply below_alloc | apply pw_below_drewN | apply below_drew1 | refine below_set ?_ GE165.out) | exact HB.out)))); (case aL => have := LMc37.out; omega); intro v184 w41 ho hb hg hat; rw [← Ny183.out] at ho; have n0_ := Aside0.mk (blk_grown (g := gb165) (o := .cells #[.bool a0_0, .bool a0_1, .int .u8 a0_2, .bool a0_3, .bool a0_4, .int .u16 a0_5, .bool a0_6, .int .u8 a0_7, .bool a0_8, .int .u8 a0_9, .bool a0_10, .bool a0_11, .int .u8 a0_12] 27 (0, 0)) (by (with_reducible repeat (first | refine blk_drewN ?_ _ | refine blk_drew ?_ | refine blk_alloc ?_ _)); exact BK165.out) hg (Kd.R_ne HO_7.out BK165.out (by decide))); have n1_ := Aside0.mk (Kd.R_after (ok := (fun _ => True)) (by (with_reducible repeat (first | apply Kd.R_alloc | apply Kd.R_drewN | apply Kd.R_drew)); exact HO182.out) hg hat); have n2_ := Aside0.mk (hb); have n3_ := Aside0.mk (ho); clear BK165; clear HO182; clear HB; clear HO_7; have BK165 := n0_; have HO182 := n1_; have HB := n2_; have HO185 := n3_; clear n0_ n1_ n2_ n3_; clear ho hb hg hat))
                      go_meet
                      case rel => exact ⟨_, (y183), H', ⟨by have := HJ4.out; have := HJ18.out; have := HJ30.out; first | omega | exact Nat.le_refl _⟩, ⟨by (with_reducible repeat (first | apply Kd.R_alloc | apply Kd.R_drewN | apply Kd.R_drew)); exact Kd.R_mono HO185.out (fun _ hk => trivial)⟩, ⟨by (with_reducible repeat (first | refine blk_drewN ?_ _ | refine blk_drew ?_ | refine blk_alloc ?_ _)); exact BK165.out⟩, ⟨by repeat (first | (with_reducible first | exact HB.out | apply below_alloc | apply pw_below_drewN | apply below_drew1 | refine below_set ?_ GE165.out) | exact HB.out)⟩⟩
                    · rw [if_neg c37] at H
                      exact absurd H (by simp)
                  · replace c36 := Bool.eq_false_iff.mpr c36
                    subst c36
                    have H1 : (easelref05_Put.j3 kj30 l1 x7_18 a0_0 a0_1 a0_2 a0_3 a0_4 a0_5 a0_6 a0_7 a0_8 a0_9 a0_10 a0_11 a0_12) = some (r1, r2) := by rw [if_neg (show ¬ (false = true) by decide)] at H; exact H
                    clear H
                    have H := H1
                    clear H1
                    have H' := Aside0.mk H
                    clear H
                    go_wp2
                    go_meet
                    case rel => exact ⟨_, (x7_18), H', ⟨by have := HJ4.out; have := HJ18.out; have := HJ30.out; first | omega | exact Nat.le_refl _⟩, ⟨by (with_reducible repeat (first | apply Kd.R_alloc | apply Kd.R_drewN | apply Kd.R_drew)); exact HO_7.out⟩, ⟨by (with_reducible repeat (first | refine blk_drewN ?_ _ | refine blk_drew ?_ | refine blk_alloc ?_ _)); exact BK165.out⟩, ⟨by repeat (first | (with_reducible first | exact HB.out | apply below_alloc | apply pw_below_drewN | apply below_drew1 | refine below_set ?_ GE165.out) | exact HB.out)⟩⟩
                case rest =>
                  clear HC35
                  try clear c1
                  try clear c2
                  try clear p2
                  try clear c3
                  try clear c4
                  try clear c5
                  try clear c9
                  try clear c11
                  try clear c13
                  try clear c23
                  try clear c28
                  try clear c32
                  try clear c36
                  try clear c37
                  try clear hcz10_0
                  try clear hcz10_1
                  try clear hcz10_10
                  try clear hcz10_11
                  try clear hcz10_12
                  try clear hcz10_2
                  try clear hcz10_3
                  try clear hcz10_4
                  try clear hcz10_5
                  try clear hcz10_6
                  try clear hcz10_7
                  try clear hcz10_8
                  try clear hcz10_9
                  try clear hcz12_0
                  try clear hcz12_1
                  try clear hcz12_10
                  try clear hcz12_11
                  try clear hcz12_12
                  try clear hcz12_2
                  try clear hcz12_3
                  try clear hcz12_4
                  try clear hcz12_5
                  try clear hcz12_6
                  try clear hcz12_7
                  try clear hcz12_8
                  try clear hcz12_9
                  try clear hcz14_0
                  try clear hcz14_1
                  try clear hcz14_10
                  try clear hcz14_11
                  try clear hcz14_12
                  try clear hcz14_2
                  try clear hcz14_3
                  try clear hcz14_4
                  try clear hcz14_5
                  try clear hcz14_6
                  try clear hcz14_7
                  try clear hcz14_8
                  try clear hcz14_9
                  try clear hcz15_0
                  try clear hcz15_1
                  try clear hcz15_10
                  try clear hcz15_11
                  try clear hcz15_12
                  try clear hcz15_2
                  try clear hcz15_3
                  try clear hcz15_4
                  try clear hcz15_5
                  try clear hcz15_6
                  try clear hcz15_7
                  try clear hcz15_8
                  try clear hcz15_9
                  try clear hcz33_0
                  try clear hcz33_1
                  try clear hcz33_10
                  try clear hcz33_11
                  try clear hcz33_12
                  try clear hcz33_2
                  try clear hcz33_3
                  try clear hcz33_4
                  try clear hcz33_5
                  try clear hcz33_6
                  try clear hcz33_7
                  try clear hcz33_8
                  try clear hcz33_9
                  try clear hcz34_0
                  try clear hcz34_1
                  try clear hcz34_10
                  try clear hcz34_11
                  try clear hcz34_12
                  try clear hcz34_2
                  try clear hcz34_3
                  try clear hcz34_4
                  try clear hcz34_5
                  try clear hcz34_6
                  try clear hcz34_7
                  try clear hcz34_8
                  try clear hcz34_9
                  try clear hcz38_0
                  try clear hcz38_1
                  try clear hcz38_10
                  try clear hcz38_11
                  try clear hcz38_12
                  try clear hcz38_2
                  try clear hcz38_3
                  try clear hcz38_4
                  try clear hcz38_5
                  try clear hcz38_6
                  try clear hcz38_7
                  try clear hcz38_8
                  try clear hcz38_9
                  try clear hcz7_0
                  try clear hcz7_1
                  try clear hcz7_10
                  try clear hcz7_11
                  try clear hcz7_12
                  try clear hcz7_2
                  try clear hcz7_3
                  try clear hcz7_4
                  try clear hcz7_5
                  try clear hcz7_6
                  try clear hcz7_7
                  try clear hcz7_8
                  try clear hcz7_9
                  try clear hfz10_0
                  try clear hfz10_1
                  try clear hfz10_10
                  try clear hfz10_11
                  try clear hfz10_12
                  try clear hfz10_2
                  try clear hfz10_3
                  try clear hfz10_4
                  try clear hfz10_5
                  try clear hfz10_6
                  try clear hfz10_7
                  try clear hfz10_8
                  try clear hfz10_9
                  try clear hfz12_0
                  try clear hfz12_1
                  try clear hfz12_10
                  try clear hfz12_11
                  try clear hfz12_12
                  try clear hfz12_2
                  try clear hfz12_3
                  try clear hfz12_4
                  try clear hfz12_5
                  try clear hfz12_6
                  try clear hfz12_7
                  try clear hfz12_8
                  try clear hfz12_9
                  try clear hfz14_0
                  try clear hfz14_1
                  try clear hfz14_10
                  try clear hfz14_11
                  try clear hfz14_12
                  try clear hfz14_2
                  try clear hfz14_3
                  try clear hfz14_4
                  try clear hfz14_5
                  try clear hfz14_6
                  try clear hfz14_7
                  try clear hfz14_8
                  try clear hfz14_9
                  try clear hfz15_0
                  try clear hfz15_1
                  try clear hfz15_10
                  try clear hfz15_11
                  try clear hfz15_12
                  try clear hfz15_2
                  try clear hfz15_3
                  try clear hfz15_4
                  try clear hfz15_5
                  try clear hfz15_6
                  try clear hfz15_7
                  try clear hfz15_8
                  try clear hfz15_9
                  try clear hfz33_0
                  try clear hfz33_1
                  try clear hfz33_10
                  try clear hfz33_11
                  try clear hfz33_12
                  try clear hfz33_2
                  try clear hfz33_3
                  try clear hfz33_4
                  try clear hfz33_5
                  try clear hfz33_6
                  try clear hfz33_7
                  try clear hfz33_8
                  try clear hfz33_9
                  try clear hfz34_0
                  try clear hfz34_1
                  try clear hfz34_10
                  try clear hfz34_11
                  try clear hfz34_12
                  try clear hfz34_2
                  try clear hfz34_3
                  try clear hfz34_4
                  try clear hfz34_5
                  try clear hfz34_6
                  try clear hfz34_7
                  try clear hfz34_8
                  try clear hfz34_9
                  try clear hfz38_0
                  try clear hfz38_1
                  try clear hfz38_10
                  try clear hfz38_11
                  try clear hfz38_12
                  try clear hfz38_2
                  try clear hfz38_3
                  try clear hfz38_4
                  try clear hfz38_5
                  try clear hfz38_6
                  try clear hfz38_7
                  try clear hfz38_8
                  try clear hfz38_9
                  try clear hfz7_0
                  try clear hfz7_1
                  try clear hfz7_10
                  try clear hfz7_11
                  try clear hfz7_12
                  try clear hfz7_2
                  try clear hfz7_3
                  try clear hfz7_4
                  try clear hfz7_5
                  try clear hfz7_6
                  try clear hfz7_7
                  try clear hfz7_8
                  try clear hfz7_9
                  try clear p2
                  obtain ⟨kq, x7_34, HA, HJ34, HO_7, BK165, HB⟩ := hcut
                  cases kq with
                  | zero => exact absurd HA.out (by simp [easelref05_Put.j3])
                  | succ kj34 =>
                    have H := HA.out
                    clear HA
                    simp only [easelref05_Put.j3] at H
                    have HC43 := Aside0.mk H
                    clear H
                    go_upto_region 9 with (fail)
                    go_cut [82] (fun v82 wc => ∃ (kq : Nat) (x82_42 : Bool), v82 = .bool x82_42 ∧ Aside0 (easelref05_Put.j4 kq l1 x7_34 x82_42 a0_0 a0_1 a0_2 a0_3 a0_4 a0_5 a0_6 a0_7 a0_8 a0_9 a0_10 a0_11 a0_12 = some (r1, r2)) ∧ Aside0 (kq ≤ kj34) ∧ Aside0 (Kd.R (Kd.int .u8) 5 wc w.heap.size (fun _ => True) u7 x7_34) ∧ Aside0 (wc.heap[gb165]? = some (.cells #[.bool a0_0, .bool a0_1, .int .u8 a0_2, .bool a0_3, .bool a0_4, .int .u16 a0_5, .bool a0_6, .int .u8 a0_7, .bool a0_8, .int .u8 a0_9, .bool a0_10, .bool a0_11, .int .u8 a0_12] 27 (0, 0))) ∧ Aside0 (Below w.heap.size w wc))
                    case first =>
                      have H := HC43.out
                      clear HC43
                      by_cases c44 : a0_3 = true
                      · subst c44
                        have H1 : (easelref05_Put.j4 kj34 l1 x7_34 (!a0_4) a0_0 a0_1 a0_2 true a0_4 a0_5 a0_6 a0_7 a0_8 a0_9 a0_10 a0_11 a0_12) = some (r1, r2) := by rw [if_pos rfl] at H; exact H
                        clear H
                        have H := H1
                        clear H1
                        have H' := Aside0.mk H
                        clear H
                        have hcz45_0 : wc.cell? ⟨gb165, 0, none⟩ = some (.bool a0_0) := (blk_cell BK165.out 0).trans rfl
                        have hcz45_1 : wc.cell? ⟨gb165, 1, none⟩ = some (.bool a0_1) := (blk_cell BK165.out 1).trans rfl
                        have hcz45_2 : wc.cell? ⟨gb165, 2, none⟩ = some (.int .u8 a0_2) := (blk_cell BK165.out 2).trans rfl
                        have hcz45_3 : wc.cell? ⟨gb165, 3, none⟩ = some (.bool true) := (blk_cell BK165.out 3).trans rfl
                        have hcz45_4 : wc.cell? ⟨gb165, 4, none⟩ = some (.bool a0_4) := (blk_cell BK165.out 4).trans rfl
                        have hcz45_5 : wc.cell? ⟨gb165, 5, none⟩ = some (.int .u16 a0_5) := (blk_cell BK165.out 5).trans rfl
                        have hcz45_6 : wc.cell? ⟨gb165, 6, none⟩ = some (.bool a0_6) := (blk_cell BK165.out 6).trans rfl
                        have hcz45_7 : wc.cell? ⟨gb165, 7, none⟩ = some (.int .u8 a0_7) := (blk_cell BK165.out 7).trans rfl
                        have hcz45_8 : wc.cell? ⟨gb165, 8, none⟩ = some (.bool a0_8) := (blk_cell BK165.out 8).trans rfl
                        have hcz45_9 : wc.cell? ⟨gb165, 9, none⟩ = some (.int .u8 a0_9) := (blk_cell BK165.out 9).trans rfl
                        have hcz45_10 : wc.cell? ⟨gb165, 10, none⟩ = some (.bool a0_10) := (blk_cell BK165.out 10).trans rfl
                        have hcz45_11 : wc.cell? ⟨gb165, 11, none⟩ = some (.bool a0_11) := (blk_cell BK165.out 11).trans rfl
                        have hcz45_12 : wc.cell? ⟨gb165, 12, none⟩ = some (.int .u8 a0_12) := (blk_cell BK165.out 12).trans rfl
                        have hfz45_0 := blk_frozen BK165.out 0
                        have hfz45_1 := blk_frozen BK165.out 1
                        have hfz45_2 := blk_frozen BK165.out 2
                        have hfz45_3 := blk_frozen BK165.out 3
                        have hfz45_4 := blk_frozen BK165.out 4
                        have hfz45_5 := blk_frozen BK165.out 5
                        have hfz45_6 := blk_frozen BK165.out 6
                        have hfz45_7 := blk_frozen BK165.out 7
                        have hfz45_8 := blk_frozen BK165.out 8
                        have hfz45_9 := blk_frozen BK165.out 9
                        have hfz45_10 := blk_frozen BK165.out 10
                        have hfz45_11 := blk_frozen BK165.out 11
                        have hfz45_12 := blk_frozen BK165.out 12
                        go_wp2
                        go_meet
                        case rel => exact ⟨_, (!a0_4), (by first | rfl | (simp; done) | (simp [*]; done)), H', ⟨by have := HJ4.out; have := HJ18.out; have := HJ30.out; have := HJ34.out; first | omega | exact Nat.le_refl _⟩, ⟨by (with_reducible repeat (first | apply Kd.R_alloc | apply Kd.R_drewN | apply Kd.R_drew)); exact HO_7.out⟩, ⟨by (with_reducible repeat (first | refine blk_drewN ?_ _ | refine blk_drew ?_ | refine blk_alloc ?_ _)); exact BK165.out⟩, ⟨by repeat (first | (with_reducible first | exact HB.out | apply below_alloc | apply pw_below_drewN | apply below_drew1 | refine below_set ?_ GE165.out) | exact HB.out)⟩⟩
                      · replace c44 := Bool.eq_false_iff.mpr c44
                        subst c44
                        have H1 : (easelref05_Put.j4 kj34 l1 x7_34 false a0_0 a0_1 a0_2 false a0_4 a0_5 a0_6 a0_7 a0_8 a0_9 a0_10 a0_11 a0_12) = some (r1, r2) := by rw [if_neg (show ¬ (false = true) by decide)] at H; exact H
                        clear H
                        have H := H1
                        clear H1
                        have H' := Aside0.mk H
                        clear H
                        have hcz46_0 : wc.cell? ⟨gb165, 0, none⟩ = some (.bool a0_0) := (blk_cell BK165.out 0).trans rfl
                        have hcz46_1 : wc.cell? ⟨gb165, 1, none⟩ = some (.bool a0_1) := (blk_cell BK165.out 1).trans rfl
                        have hcz46_2 : wc.cell? ⟨gb165, 2, none⟩ = some (.int .u8 a0_2) := (blk_cell BK165.out 2).trans rfl
                        have hcz46_3 : wc.cell? ⟨gb165, 3, none⟩ = some (.bool false) := (blk_cell BK165.out 3).trans rfl
                        have hcz46_4 : wc.cell? ⟨gb165, 4, none⟩ = some (.bool a0_4) := (blk_cell BK165.out 4).trans rfl
                        have hcz46_5 : wc.cell? ⟨gb165, 5, none⟩ = some (.int .u16 a0_5) := (blk_cell BK165.out 5).trans rfl
                        have hcz46_6 : wc.cell? ⟨gb165, 6, none⟩ = some (.bool a0_6) := (blk_cell BK165.out 6).trans rfl
                        have hcz46_7 : wc.cell? ⟨gb165, 7, none⟩ = some (.int .u8 a0_7) := (blk_cell BK165.out 7).trans rfl
                        have hcz46_8 : wc.cell? ⟨gb165, 8, none⟩ = some (.bool a0_8) := (blk_cell BK165.out 8).trans rfl
                        have hcz46_9 : wc.cell? ⟨gb165, 9, none⟩ = some (.int .u8 a0_9) := (blk_cell BK165.out 9).trans rfl
                        have hcz46_10 : wc.cell? ⟨gb165, 10, none⟩ = some (.bool a0_10) := (blk_cell BK165.out 10).trans rfl
                        have hcz46_11 : wc.cell? ⟨gb165, 11, none⟩ = some (.bool a0_11) := (blk_cell BK165.out 11).trans rfl
                        have hcz46_12 : wc.cell? ⟨gb165, 12, none⟩ = some (.int .u8 a0_12) := (blk_cell BK165.out 12).trans rfl
                        have hfz46_0 := blk_frozen BK165.out 0
                        have hfz46_1 := blk_frozen BK165.out 1
                        have hfz46_2 := blk_frozen BK165.out 2
                        have hfz46_3 := blk_frozen BK165.out 3
                        have hfz46_4 := blk_frozen BK165.out 4
                        have hfz46_5 := blk_frozen BK165.out 5
                        have hfz46_6 := blk_frozen BK165.out 6
                        have hfz46_7 := blk_frozen BK165.out 7
                        have hfz46_8 := blk_frozen BK165.out 8
                        have hfz46_9 := blk_frozen BK165.out 9
                        have hfz46_10 := blk_frozen BK165.out 10
                        have hfz46_11 := blk_frozen BK165.out 11
                        have hfz46_12 := blk_frozen BK165.out 12
                        go_wp2
                        go_meet
                        case rel => exact ⟨_, (false), (by first | rfl | (simp; done) | (simp [*]; done)), H', ⟨by have := HJ4.out; have := HJ18.out; have := HJ30.out; have := HJ34.out; first | omega | exact Nat.le_refl _⟩, ⟨by (with_reducible repeat (first | apply Kd.R_alloc | apply Kd.R_drewN | apply Kd.R_drew)); exact HO_7.out⟩, ⟨by (with_reducible repeat (first | refine blk_drewN ?_ _ | refine blk_drew ?_ | refine blk_alloc ?_ _)); exact BK165.out⟩, ⟨by repeat (first | (with_reducible first | exact HB.out | apply below_alloc | apply pw_below_drewN | apply below_drew1 | refine below_set ?_ GE165.out) | exact HB.out)⟩⟩
                    case rest =>
                      clear HC43
                      try clear c1
                      try clear c2
                      try clear p2
                      try clear c3
                      try clear c4
                      try clear c5
                      try clear c9
                      try clear c11
                      try clear c13
                      try clear c23
                      try clear c28
                      try clear c32
                      try clear c36
                      try clear c37
                      try clear c44
                      try clear hcz10_0
                      try clear hcz10_1
                      try clear hcz10_10
                      try clear hcz10_11
                      try clear hcz10_12
                      try clear hcz10_2
                      try clear hcz10_3
                      try clear hcz10_4
                      try clear hcz10_5
                      try clear hcz10_6
                      try clear hcz10_7
                      try clear hcz10_8
                      try clear hcz10_9
                      try clear hcz12_0
                      try clear hcz12_1
                      try clear hcz12_10
                      try clear hcz12_11
                      try clear hcz12_12
                      try clear hcz12_2
                      try clear hcz12_3
                      try clear hcz12_4
                      try clear hcz12_5
                      try clear hcz12_6
                      try clear hcz12_7
                      try clear hcz12_8
                      try clear hcz12_9
                      try clear hcz14_0
                      try clear hcz14_1
                      try clear hcz14_10
                      try clear hcz14_11
                      try clear hcz14_12
                      try clear hcz14_2
                      try clear hcz14_3
                      try clear hcz14_4
                      try clear hcz14_5
                      try clear hcz14_6
                      try clear hcz14_7
                      try clear hcz14_8
                      try clear hcz14_9
                      try clear hcz15_0
                      try clear hcz15_1
                      try clear hcz15_10
                      try clear hcz15_11
                      try clear hcz15_12
                      try clear hcz15_2
                      try clear hcz15_3
                      try clear hcz15_4
                      try clear hcz15_5
                      try clear hcz15_6
                      try clear hcz15_7
                      try clear hcz15_8
                      try clear hcz15_9
                      try clear hcz33_0
                      try clear hcz33_1
                      try clear hcz33_10
                      try clear hcz33_11
                      try clear hcz33_12
                      try clear hcz33_2
                      try clear hcz33_3
                      try clear hcz33_4
                      try clear hcz33_5
                      try clear hcz33_6
                      try clear hcz33_7
                      try clear hcz33_8
                      try clear hcz33_9
                      try clear hcz34_0
                      try clear hcz34_1
                      try clear hcz34_10
                      try clear hcz34_11
                      try clear hcz34_12
                      try clear hcz34_2
                      try clear hcz34_3
                      try clear hcz34_4
                      try clear hcz34_5
                      try clear hcz34_6
                      try clear hcz34_7
                      try clear hcz34_8
                      try clear hcz34_9
                      try clear hcz38_0
                      try clear hcz38_1
                      try clear hcz38_10
                      try clear hcz38_11
                      try clear hcz38_12
                      try clear hcz38_2
                      try clear hcz38_3
                      try clear hcz38_4
                      try clear hcz38_5
                      try clear hcz38_6
                      try clear hcz38_7
                      try clear hcz38_8
                      try clear hcz38_9
                      try clear hcz45_0
                      try clear hcz45_1
                      try clear hcz45_10
                      try clear hcz45_11
                      try clear hcz45_12
                      try clear hcz45_2
                      try clear hcz45_3
                      try clear hcz45_4
                      try clear hcz45_5
                      try clear hcz45_6
                      try clear hcz45_7
                      try clear hcz45_8
                      try clear hcz45_9
                      try clear hcz46_0
                      try clear hcz46_1
                      try clear hcz46_10
                      try clear hcz46_11
                      try clear hcz46_12
                      try clear hcz46_2
                      try clear hcz46_3
                      try clear hcz46_4
                      try clear hcz46_5
                      try clear hcz46_6
                      try clear hcz46_7
                      try clear hcz46_8
                      try clear hcz46_9
                      try clear hcz7_0
                      try clear hcz7_1
                      try clear hcz7_10
                      try clear hcz7_11
                      try clear hcz7_12
                      try clear hcz7_2
                      try clear hcz7_3
                      try clear hcz7_4
                      try clear hcz7_5
                      try clear hcz7_6
                      try clear hcz7_7
                      try clear hcz7_8
                      try clear hcz7_9
                      try clear hfz10_0
                      try clear hfz10_1
                      try clear hfz10_10
                      try clear hfz10_11
                      try clear hfz10_12
                      try clear hfz10_2
                      try clear hfz10_3
                      try clear hfz10_4
                      try clear hfz10_5
                      try clear hfz10_6
                      try clear hfz10_7
                      try clear hfz10_8
                      try clear hfz10_9
                      try clear hfz12_0
                      try clear hfz12_1
                      try clear hfz12_10
                      try clear hfz12_11
                      try clear hfz12_12
                      try clear hfz12_2
                      try clear hfz12_3
                      try clear hfz12_4
                      try clear hfz12_5
                      try clear hfz12_6
                      try clear hfz12_7
                      try clear hfz12_8
                      try clear hfz12_9
                      try clear hfz14_0
                      try clear hfz14_1
                      try clear hfz14_10
                      try clear hfz14_11
                      try clear hfz14_12
                      try clear hfz14_2
                      try clear hfz14_3
                      try clear hfz14_4
                      try clear hfz14_5
                      try clear hfz14_6
                      try clear hfz14_7
                      try clear hfz14_8
                      try clear hfz14_9
                      try clear hfz15_0
                      try clear hfz15_1
                      try clear hfz15_10
                      try clear hfz15_11
                      try clear hfz15_12
                      try clear hfz15_2
                      try clear hfz15_3
                      try clear hfz15_4
                      try clear hfz15_5
                      try clear hfz15_6
                      try clear hfz15_7
                      try clear hfz15_8
                      try clear hfz15_9
                      try clear hfz33_0
                      try clear hfz33_1
                      try clear hfz33_10
                      try clear hfz33_11
                      try clear hfz33_12
                      try clear hfz33_2
                      try clear hfz33_3
                      try clear hfz33_4
                      try clear hfz33_5
                      try clear hfz33_6
                      try clear hfz33_7
                      try clear hfz33_8
                      try clear hfz33_9
                      try clear hfz34_0
                      try clear hfz34_1
                      try clear hfz34_10
                      try clear hfz34_11
                      try clear hfz34_12
                      try clear hfz34_2
                      try clear hfz34_3
                      try clear hfz34_4
                      try clear hfz34_5
                      try clear hfz34_6
                      try clear hfz34_7
                      try clear hfz34_8
                      try clear hfz34_9
                      try clear hfz38_0
                      try clear hfz38_1
                      try clear hfz38_10
                      try clear hfz38_11
                      try clear hfz38_12
                      try clear hfz38_2
                      try clear hfz38_3
                      try clear hfz38_4
                      try clear hfz38_5
                      try clear hfz38_6
                      try clear hfz38_7
                      try clear hfz38_8
                      try clear hfz38_9
                      try clear hfz45_0
                      try clear hfz45_1
                      try clear hfz45_10
                      try clear hfz45_11
                      try clear hfz45_12
                      try clear hfz45_2
                      try clear hfz45_3
                      try clear hfz45_4
                      try clear hfz45_5
                      try clear hfz45_6
                      try clear hfz45_7
                      try clear hfz45_8
                      try clear hfz45_9
                      try clear hfz46_0
                      try clear hfz46_1
                      try clear hfz46_10
                      try clear hfz46_11
                      try clear hfz46_12
                      try clear hfz46_2
                      try clear hfz46_3
                      try clear hfz46_4
                      try clear hfz46_5
                      try clear hfz46_6
                      try clear hfz46_7
                      try clear hfz46_8
                      try clear hfz46_9
                      try clear hfz7_0
                      try clear hfz7_1
                      try clear hfz7_10
                      try clear hfz7_11
                      try clear hfz7_12
                      try clear hfz7_2
                      try clear hfz7_3
                      try clear hfz7_4
                      try clear hfz7_5
                      try clear hfz7_6
                      try clear hfz7_7
                      try clear hfz7_8
                      try clear hfz7_9
                      try clear p2
                      obtain ⟨kq, x82_42, rfl, HA, HJ42, HO_7, BK165, HB⟩ := hcut
                      cases kq with
                      | zero => exact absurd HA.out (by simp [easelref05_Put.j4])
                      | succ kj42 =>
                        have H := HA.out
                        clear HA
                        simp only [easelref05_Put.j4] at H
                        have HC47 := Aside0.mk H
                        clear H
                        go_upto_if 82 with (fail)
                        go_cut [7] (fun v7 wc => ∃ (kq : Nat) (x7_46 : List Int), Aside0 (easelref05_Put.j5 kq l1 x7_46 a0_0 a0_1 a0_2 a0_3 a0_4 a0_5 a0_6 a0_7 a0_8 a0_9 a0_10 a0_11 a0_12 = some (r1, r2)) ∧ Aside0 (kq ≤ kj42) ∧ Aside0 (Kd.R (Kd.int .u8) 5 wc w.heap.size (fun _ => True) v7 x7_46) ∧ Aside0 (wc.heap[gb165]? = some (.cells #[.bool a0_0, .bool a0_1, .int .u8 a0_2, .bool a0_3, .bool a0_4, .int .u16 a0_5, .bool a0_6, .int .u8 a0_7, .bool a0_8, .int .u8 a0_9, .bool a0_10, .bool a0_11, .int .u8 a0_12] 27 (0, 0))) ∧ Aside0 (Below w.heap.size w wc))
                        case first =>
                          have H := HC47.out
                          clear HC47
                          by_cases c48 : x82_42 = true
                          · subst c48
                            have H1 : (if x7_34.length < 140737488355328 then (easelref05_Put.j5 kj42 l1 (x7_34 ++ [(a0_5) % 256]) a0_0 a0_1 a0_2 a0_3 a0_4 a0_5 a0_6 a0_7 a0_8 a0_9 a0_10 a0_11 a0_12) else (none)) = some (r1, r2) := by rw [if_pos rfl] at H; exact H
                            clear H
                            have H := H1
                            clear H1
                            by_cases c49 : x7_34.length < 140737488355328
                            · rw [if_pos c49] at H
                              have LMc49 := Aside0.mk c49
                              clear c49
                              obtain ⟨y186, hy186⟩ : ∃ y_ : List Int, y_ = (x7_34 ++ [(a0_5) % 256]) := ⟨_, rfl⟩
                              replace H : (easelref05_Put.j5 kj42 l1 y186 a0_0 a0_1 a0_2 a0_3 a0_4 a0_5 a0_6 a0_7 a0_8 a0_9 a0_10 a0_11 a0_12) = some (r1, r2) := by first | (rw [hy186]; with_reducible exact H) | (have H2_ := (Option.bind_some _ _).symm.trans H; rw [hy186]; with_reducible exact H2_) | (have H2_ := (Option.bind_some _ _).symm.trans H; with_reducible exact H2_) | with_reducible exact H | (rw [hy186]; exact H) | exact H
                              have Ny186 := Aside0.mk hy186
                              clear hy186
                              have H' := Aside0.mk H
                              clear H
                              have hcz50_0 : wc.cell? ⟨gb165, 0, none⟩ = some (.bool a0_0) := (blk_cell BK165.out 0).trans rfl
                              have hcz50_1 : wc.cell? ⟨gb165, 1, none⟩ = some (.bool a0_1) := (blk_cell BK165.out 1).trans rfl
                              have hcz50_2 : wc.cell? ⟨gb165, 2, none⟩ = some (.int .u8 a0_2) := (blk_cell BK165.out 2).trans rfl
                              have hcz50_3 : wc.cell? ⟨gb165, 3, none⟩ = some (.bool a0_3) := (blk_cell BK165.out 3).trans rfl
                              have hcz50_4 : wc.cell? ⟨gb165, 4, none⟩ = some (.bool a0_4) := (blk_cell BK165.out 4).trans rfl
                              have hcz50_5 : wc.cell? ⟨gb165, 5, none⟩ = some (.int .u16 a0_5) := (blk_cell BK165.out 5).trans rfl
                              have hcz50_6 : wc.cell? ⟨gb165, 6, none⟩ = some (.bool a0_6) := (blk_cell BK165.out 6).trans rfl
                              have hcz50_7 : wc.cell? ⟨gb165, 7, none⟩ = some (.int .u8 a0_7) := (blk_cell BK165.out 7).trans rfl
                              have hcz50_8 : wc.cell? ⟨gb165, 8, none⟩ = some (.bool a0_8) := (blk_cell BK165.out 8).trans rfl
                              have hcz50_9 : wc.cell? ⟨gb165, 9, none⟩ = some (.int .u8 a0_9) := (blk_cell BK165.out 9).trans rfl
                              have hcz50_10 : wc.cell? ⟨gb165, 10, none⟩ = some (.bool a0_10) := (blk_cell BK165.out 10).trans rfl
                              have hcz50_11 : wc.cell? ⟨gb165, 11, none⟩ = some (.bool a0_11) := (blk_cell BK165.out 11).trans rfl
                              have hcz50_12 : wc.cell? ⟨gb165, 12, none⟩ = some (.int .u8 a0_12) := (blk_cell BK165.out 12).trans rfl
                              have hfz50_0 := blk_frozen BK165.out 0
                              have hfz50_1 := blk_frozen BK165.out 1
                              have hfz50_2 := blk_frozen BK165.out 2
                              have hfz50_3 := blk_frozen BK165.out 3
                              have hfz50_4 := blk_frozen BK165.out 4
                              have hfz50_5 := blk_frozen BK165.out 5
                              have hfz50_6 := blk_frozen BK165.out 6
                              have hfz50_7 := blk_frozen BK165.out 7
                              have hfz50_8 := blk_frozen BK165.out 8
                              have hfz50_9 := blk_frozen BK165.out 9
                              have hfz50_10 := blk_frozen BK165.out 10
                              have hfz50_11 := blk_frozen BK165.out 11
                              have hfz50_12 := blk_frozen BK165.out 12
                              go_wp2_with (first | ((with_reducible refine gate_builtin (b := .append) (xs := #[.tmp 83, .tmp 87]) rfl ?_); at_builtin; refine Kd.R_append (Kd.int .u8) (w0 := w) w.heap.size rfl (.tmp 83) (.tmp 87) 22 5 (.int .u8 0) 1 rfl Try.underlying22 info5 rfl (by decide) (by omega) u7 x7_34 ((a0_5) % 256) [.int .u8 ((a0_5) % 256)] (fun _ => True) (fun _ => False) rfl rfl ?aP (fun _ hk => hk.elim) ?aF ?aO ?aB ?aS ?aL ?_; (case aP => exact rfl); (case aB => exact (by repeat (first | (with_reducible first | exact HB.out | apply below_alloc | apply pw_below_drewN | apply below_drew1 | refine below_set ?_ GE165.out) | exact HB.out))); (case aF => exact (fun _ _ => trivial)); (case aO => exact (by (with_reducible repeat (first | apply Kd.R_alloc | apply Kd.R_drewN | apply Kd.R_drew)); exact HO_7.out)); (case aS => exact (below_size (by repeat (first | (with_reducible first | exact HB.out | apply below_alloc | apply pw_below_drewN | apply below_drew1 | refine below_set ?_ GE165.out) | exact HB.out)))); (case aL => have := LMc49.out; omega); intro v187 w51 ho hb hg hat; rw [← Ny186.out] at ho; have n0_ := Aside0.mk (blk_grown (g := gb165) (o := .cells #[.bool a0_0, .bool a0_1, .int .u8 a0_2, .bool a0_3, .bool a0_4, .int .u16 a0_5, .bool a0_6, .int .u8 a0_7, .bool a0_8, .int .u8 a0_9, .bool a0_10, .bool a0_11, .int .u8 a0_12] 27 (0, 0)) (by (with_reducible repeat (first | refine blk_drewN ?_ _ | refine blk_drew ?_ | refine blk_alloc ?_ _)); exact BK165.out) hg (Kd.R_ne HO_7.out BK165.out (by decide))); have n1_ := Aside0.mk (hb); have n2_ := Aside0.mk (ho); clear BK165; clear HB; clear HO_7; have BK165 := n0_; have HB := n1_; have HO188 := n2_; clear n0_ n1_ n2_; clear ho hb hg hat))
                              go_meet
                              case rel => exact ⟨_, (y186), H', ⟨by have := HJ4.out; have := HJ18.out; have := HJ30.out; have := HJ34.out; have := HJ42.out; first | omega | exact Nat.le_refl _⟩, ⟨by (with_reducible repeat (first | apply Kd.R_alloc | apply Kd.R_drewN | apply Kd.R_drew)); exact HO188.out⟩, ⟨by (with_reducible repeat (first | refine blk_drewN ?_ _ | refine blk_drew ?_ | refine blk_alloc ?_ _)); exact BK165.out⟩, ⟨by repeat (first | (with_reducible first | exact HB.out | apply below_alloc | apply pw_below_drewN | apply below_drew1 | refine below_set ?_ GE165.out) | exact HB.out)⟩⟩
                            · rw [if_neg c49] at H
                              exact absurd H (by simp)
                          · replace c48 := Bool.eq_false_iff.mpr c48
                            subst c48
                            have H1 : (easelref05_Put.j5 kj42 l1 x7_34 a0_0 a0_1 a0_2 a0_3 a0_4 a0_5 a0_6 a0_7 a0_8 a0_9 a0_10 a0_11 a0_12) = some (r1, r2) := by rw [if_neg (show ¬ (false = true) by decide)] at H; exact H
                            clear H
                            have H := H1
                            clear H1
                            have H' := Aside0.mk H
                            clear H
                            go_wp2
                            go_meet
                            case rel => exact ⟨_, (x7_34), H', ⟨by have := HJ4.out; have := HJ18.out; have := HJ30.out; have := HJ34.out; have := HJ42.out; first | omega | exact Nat.le_refl _⟩, ⟨by (with_reducible repeat (first | apply Kd.R_alloc | apply Kd.R_drewN | apply Kd.R_drew)); exact HO_7.out⟩, ⟨by (with_reducible repeat (first | refine blk_drewN ?_ _ | refine blk_drew ?_ | refine blk_alloc ?_ _)); exact BK165.out⟩, ⟨by repeat (first | (with_reducible first | exact HB.out | apply below_alloc | apply pw_below_drewN | apply below_drew1 | refine below_set ?_ GE165.out) | exact HB.out)⟩⟩
                        case rest =>
                          clear HC47
                          try clear c1
                          try clear c2
                          try clear p2
                          try clear c3
                          try clear c4
                          try clear c5
                          try clear c9
                          try clear c11
                          try clear c13
                          try clear c23
                          try clear c28
                          try clear c32
                          try clear c36
                          try clear c37
                          try clear c44
                          try clear c48
                          try clear c49
                          try clear hcz10_0
                          try clear hcz10_1
                          try clear hcz10_10
                          try clear hcz10_11
                          try clear hcz10_12
                          try clear hcz10_2
                          try clear hcz10_3
                          try clear hcz10_4
                          try clear hcz10_5
                          try clear hcz10_6
                          try clear hcz10_7
                          try clear hcz10_8
                          try clear hcz10_9
                          try clear hcz12_0
                          try clear hcz12_1
                          try clear hcz12_10
                          try clear hcz12_11
                          try clear hcz12_12
                          try clear hcz12_2
                          try clear hcz12_3
                          try clear hcz12_4
                          try clear hcz12_5
                          try clear hcz12_6
                          try clear hcz12_7
                          try clear hcz12_8
                          try clear hcz12_9
                          try clear hcz14_0
                          try clear hcz14_1
                          try clear hcz14_10
                          try clear hcz14_11
                          try clear hcz14_12
                          try clear hcz14_2
                          try clear hcz14_3
                          try clear hcz14_4
                          try clear hcz14_5
                          try clear hcz14_6
                          try clear hcz14_7
                          try clear hcz14_8
                          try clear hcz14_9
                          try clear hcz15_0
                          try clear hcz15_1
                          try clear hcz15_10
                          try clear hcz15_11
                          try clear hcz15_12
                          try clear hcz15_2
                          try clear hcz15_3
                          try clear hcz15_4
                          try clear hcz15_5
                          try clear hcz15_6
                          try clear hcz15_7
                          try clear hcz15_8
                          try clear hcz15_9
                          try clear hcz33_0
                          try clear hcz33_1
                          try clear hcz33_10
                          try clear hcz33_11
                          try clear hcz33_12
                          try clear hcz33_2
                          try clear hcz33_3
                          try clear hcz33_4
                          try clear hcz33_5
                          try clear hcz33_6
                          try clear hcz33_7
                          try clear hcz33_8
                          try clear hcz33_9
                          try clear hcz34_0
                          try clear hcz34_1
                          try clear hcz34_10
                          try clear hcz34_11
                          try clear hcz34_12
                          try clear hcz34_2
                          try clear hcz34_3
                          try clear hcz34_4
                          try clear hcz34_5
                          try clear hcz34_6
                          try clear hcz34_7
                          try clear hcz34_8
                          try clear hcz34_9
                          try clear hcz38_0
                          try clear hcz38_1
                          try clear hcz38_10
                          try clear hcz38_11
                          try clear hcz38_12
                          try clear hcz38_2
                          try clear hcz38_3
                          try clear hcz38_4
                          try clear hcz38_5
                          try clear hcz38_6
                          try clear hcz38_7
                          try clear hcz38_8
                          try clear hcz38_9
                          try clear hcz45_0
                          try clear hcz45_1
                          try clear hcz45_10
                          try clear hcz45_11
                          try clear hcz45_12
                          try clear hcz45_2
                          try clear hcz45_3
                          try clear hcz45_4
                          try clear hcz45_5
                          try clear hcz45_6
                          try clear hcz45_7
                          try clear hcz45_8
                          try clear hcz45_9
                          try clear hcz46_0
                          try clear hcz46_1
                          try clear hcz46_10
                          try clear hcz46_11
                          try clear hcz46_12
                          try clear hcz46_2
                          try clear hcz46_3
                          try clear hcz46_4
                          try clear hcz46_5
                          try clear hcz46_6
                          try clear hcz46_7
                          try clear hcz46_8
                          try clear hcz46_9
                          try clear hcz50_0
                          try clear hcz50_1
                          try clear hcz50_10
                          try clear hcz50_11
                          try clear hcz50_12
                          try clear hcz50_2
                          try clear hcz50_3
                          try clear hcz50_4
                          try clear hcz50_5
                          try clear hcz50_6
                          try clear hcz50_7
                          try clear hcz50_8
                          try clear hcz50_9
                          try clear hcz7_0
                          try clear hcz7_1
                          try clear hcz7_10
                          try clear hcz7_11
                          try clear hcz7_12
                          try clear hcz7_2
                          try clear hcz7_3
                          try clear hcz7_4
                          try clear hcz7_5
                          try clear hcz7_6
                          try clear hcz7_7
                          try clear hcz7_8
                          try clear hcz7_9
                          try clear hfz10_0
                          try clear hfz10_1
                          try clear hfz10_10
                          try clear hfz10_11
                          try clear hfz10_12
                          try clear hfz10_2
                          try clear hfz10_3
                          try clear hfz10_4
                          try clear hfz10_5
                          try clear hfz10_6
                          try clear hfz10_7
                          try clear hfz10_8
                          try clear hfz10_9
                          try clear hfz12_0
                          try clear hfz12_1
                          try clear hfz12_10
                          try clear hfz12_11
                          try clear hfz12_12
                          try clear hfz12_2
                          try clear hfz12_3
                          try clear hfz12_4
                          try clear hfz12_5
                          try clear hfz12_6
                          try clear hfz12_7
                          try clear hfz12_8
                          try clear hfz12_9
                          try clear hfz14_0
                          try clear hfz14_1
                          try clear hfz14_10
                          try clear hfz14_11
                          try clear hfz14_12
                          try clear hfz14_2
                          try clear hfz14_3
                          try clear hfz14_4
                          try clear hfz14_5
                          try clear hfz14_6
                          try clear hfz14_7
                          try clear hfz14_8
                          try clear hfz14_9
                          try clear hfz15_0
                          try clear hfz15_1
                          try clear hfz15_10
                          try clear hfz15_11
                          try clear hfz15_12
                          try clear hfz15_2
                          try clear hfz15_3
                          try clear hfz15_4
                          try clear hfz15_5
                          try clear hfz15_6
                          try clear hfz15_7
                          try clear hfz15_8
                          try clear hfz15_9
                          try clear hfz33_0
                          try clear hfz33_1
                          try clear hfz33_10
                          try clear hfz33_11
                          try clear hfz33_12
                          try clear hfz33_2
                          try clear hfz33_3
                          try clear hfz33_4
                          try clear hfz33_5
                          try clear hfz33_6
                          try clear hfz33_7
                          try clear hfz33_8
                          try clear hfz33_9
                          try clear hfz34_0
                          try clear hfz34_1
                          try clear hfz34_10
                          try clear hfz34_11
                          try clear hfz34_12
                          try clear hfz34_2
                          try clear hfz34_3
                          try clear hfz34_4
                          try clear hfz34_5
                          try clear hfz34_6
                          try clear hfz34_7
                          try clear hfz34_8
                          try clear hfz34_9
                          try clear hfz38_0
                          try clear hfz38_1
                          try clear hfz38_10
                          try clear hfz38_11
                          try clear hfz38_12
                          try clear hfz38_2
                          try clear hfz38_3
                          try clear hfz38_4
                          try clear hfz38_5
                          try clear hfz38_6
                          try clear hfz38_7
                          try clear hfz38_8
                          try clear hfz38_9
                          try clear hfz45_0
                          try clear hfz45_1
                          try clear hfz45_10
                          try clear hfz45_11
                          try clear hfz45_12
                          try clear hfz45_2
                          try clear hfz45_3
                          try clear hfz45_4
                          try clear hfz45_5
                          try clear hfz45_6
                          try clear hfz45_7
                          try clear hfz45_8
                          try clear hfz45_9
                          try clear hfz46_0
                          try clear hfz46_1
                          try clear hfz46_10
                          try clear hfz46_11
                          try clear hfz46_12
                          try clear hfz46_2
                          try clear hfz46_3
                          try clear hfz46_4
                          try clear hfz46_5
                          try clear hfz46_6
                          try clear hfz46_7
                          try clear hfz46_8
                          try clear hfz46_9
                          try clear hfz50_0
                          try clear hfz50_1
                          try clear hfz50_10
                          try clear hfz50_11
                          try clear hfz50_12
                          try clear hfz50_2
                          try clear hfz50_3
                          try clear hfz50_4
                          try clear hfz50_5
                          try clear hfz50_6
                          try clear hfz50_7
                          try clear hfz50_8
                          try clear hfz50_9
                          try clear hfz7_0
                          try clear hfz7_1
                          try clear hfz7_10
                          try clear hfz7_11
                          try clear hfz7_12
                          try clear hfz7_2
                          try clear hfz7_3
                          try clear hfz7_4
                          try clear hfz7_5
                          try clear hfz7_6
                          try clear hfz7_7
                          try clear hfz7_8
                          try clear hfz7_9
                          try clear p2
                          obtain ⟨kq, x7_46, HA, HJ46, HO_7, BK165, HB⟩ := hcut
                          cases kq with
                          | zero => exact absurd HA.out (by simp [easelref05_Put.j5])
                          | succ kj46 =>
                            have H := HA.out
                            clear HA
                            simp only [easelref05_Put.j5] at H
                            have HC52 := Aside0.mk H
                            clear H
                            have hcz53_0 : wc.cell? ⟨gb165, 0, none⟩ = some (.bool a0_0) := (blk_cell BK165.out 0).trans rfl
                            have hcz53_1 : wc.cell? ⟨gb165, 1, none⟩ = some (.bool a0_1) := (blk_cell BK165.out 1).trans rfl
                            have hcz53_2 : wc.cell? ⟨gb165, 2, none⟩ = some (.int .u8 a0_2) := (blk_cell BK165.out 2).trans rfl
                            have hcz53_3 : wc.cell? ⟨gb165, 3, none⟩ = some (.bool a0_3) := (blk_cell BK165.out 3).trans rfl
                            have hcz53_4 : wc.cell? ⟨gb165, 4, none⟩ = some (.bool a0_4) := (blk_cell BK165.out 4).trans rfl
                            have hcz53_5 : wc.cell? ⟨gb165, 5, none⟩ = some (.int .u16 a0_5) := (blk_cell BK165.out 5).trans rfl
                            have hcz53_6 : wc.cell? ⟨gb165, 6, none⟩ = some (.bool a0_6) := (blk_cell BK165.out 6).trans rfl
                            have hcz53_7 : wc.cell? ⟨gb165, 7, none⟩ = some (.int .u8 a0_7) := (blk_cell BK165.out 7).trans rfl
                            have hcz53_8 : wc.cell? ⟨gb165, 8, none⟩ = some (.bool a0_8) := (blk_cell BK165.out 8).trans rfl
                            have hcz53_9 : wc.cell? ⟨gb165, 9, none⟩ = some (.int .u8 a0_9) := (blk_cell BK165.out 9).trans rfl
                            have hcz53_10 : wc.cell? ⟨gb165, 10, none⟩ = some (.bool a0_10) := (blk_cell BK165.out 10).trans rfl
                            have hcz53_11 : wc.cell? ⟨gb165, 11, none⟩ = some (.bool a0_11) := (blk_cell BK165.out 11).trans rfl
                            have hcz53_12 : wc.cell? ⟨gb165, 12, none⟩ = some (.int .u8 a0_12) := (blk_cell BK165.out 12).trans rfl
                            have hfz53_0 := blk_frozen BK165.out 0
                            have hfz53_1 := blk_frozen BK165.out 1
                            have hfz53_2 := blk_frozen BK165.out 2
                            have hfz53_3 := blk_frozen BK165.out 3
                            have hfz53_4 := blk_frozen BK165.out 4
                            have hfz53_5 := blk_frozen BK165.out 5
                            have hfz53_6 := blk_frozen BK165.out 6
                            have hfz53_7 := blk_frozen BK165.out 7
                            have hfz53_8 := blk_frozen BK165.out 8
                            have hfz53_9 := blk_frozen BK165.out 9
                            have hfz53_10 := blk_frozen BK165.out 10
                            have hfz53_11 := blk_frozen BK165.out 11
                            have hfz53_12 := blk_frozen BK165.out 12
                            go_upto_if 90 with (fail)
                            go_cut [7] (fun v7 wc => ∃ (kq : Nat) (x7_51 : List Int), Aside0 (easelref05_Put.j6 kq l1 x7_51 a0_0 a0_1 a0_2 a0_3 a0_4 a0_5 a0_6 a0_7 a0_8 a0_9 a0_10 a0_11 a0_12 = some (r1, r2)) ∧ Aside0 (kq ≤ kj46) ∧ Aside0 (Kd.R (Kd.int .u8) 5 wc w.heap.size (fun _ => True) v7 x7_51) ∧ Aside0 (wc.heap[gb165]? = some (.cells #[.bool a0_0, .bool a0_1, .int .u8 a0_2, .bool a0_3, .bool a0_4, .int .u16 a0_5, .bool a0_6, .int .u8 a0_7, .bool a0_8, .int .u8 a0_9, .bool a0_10, .bool a0_11, .int .u8 a0_12] 27 (0, 0))) ∧ Aside0 (Below w.heap.size w wc))
                            case first =>
                              have H := HC52.out
                              clear HC52
                              by_cases c54 : a0_6 = true
                              · subst c54
                                have H1 : (if x7_46.length < 140737488355328 then (easelref05_Put.j6 kj46 l1 (x7_46 ++ [a0_7]) a0_0 a0_1 a0_2 a0_3 a0_4 a0_5 true a0_7 a0_8 a0_9 a0_10 a0_11 a0_12) else (none)) = some (r1, r2) := by rw [if_pos rfl] at H; exact H
                                clear H
                                have H := H1
                                clear H1
                                by_cases c55 : x7_46.length < 140737488355328
                                · rw [if_pos c55] at H
                                  have LMc55 := Aside0.mk c55
                                  clear c55
                                  obtain ⟨y189, hy189⟩ : ∃ y_ : List Int, y_ = (x7_46 ++ [a0_7]) := ⟨_, rfl⟩
                                  replace H : (easelref05_Put.j6 kj46 l1 y189 a0_0 a0_1 a0_2 a0_3 a0_4 a0_5 true a0_7 a0_8 a0_9 a0_10 a0_11 a0_12) = some (r1, r2) := by first | (rw [hy189]; with_reducible exact H) | (have H2_ := (Option.bind_some _ _).symm.trans H; rw [hy189]; with_reducible exact H2_) | (have H2_ := (Option.bind_some _ _).symm.trans H; with_reducible exact H2_) | with_reducible exact H | (rw [hy189]; exact H) | exact H
                                  have Ny189 := Aside0.mk hy189
                                  clear hy189
                                  have H' := Aside0.mk H
                                  clear H
                                  have hcz56_0 : wc.cell? ⟨gb165, 0, none⟩ = some (.bool a0_0) := (blk_cell BK165.out 0).trans rfl
                                  have hcz56_1 : wc.cell? ⟨gb165, 1, none⟩ = some (.bool a0_1) := (blk_cell BK165.out 1).trans rfl
                                  have hcz56_2 : wc.cell? ⟨gb165, 2, none⟩ = some (.int .u8 a0_2) := (blk_cell BK165.out 2).trans rfl
                                  have hcz56_3 : wc.cell? ⟨gb165, 3, none⟩ = some (.bool a0_3) := (blk_cell BK165.out 3).trans rfl
                                  have hcz56_4 : wc.cell? ⟨gb165, 4, none⟩ = some (.bool a0_4) := (blk_cell BK165.out 4).trans rfl
                                  have hcz56_5 : wc.cell? ⟨gb165, 5, none⟩ = some (.int .u16 a0_5) := (blk_cell BK165.out 5).trans rfl
                                  have hcz56_6 : wc.cell? ⟨gb165, 6, none⟩ = some (.bool true) := (blk_cell BK165.out 6).trans rfl
                                  have hcz56_7 : wc.cell? ⟨gb165, 7, none⟩ = some (.int .u8 a0_7) := (blk_cell BK165.out 7).trans rfl
                                  have hcz56_8 : wc.cell? ⟨gb165, 8, none⟩ = some (.bool a0_8) := (blk_cell BK165.out 8).trans rfl
                                  have hcz56_9 : wc.cell? ⟨gb165, 9, none⟩ = some (.int .u8 a0_9) := (blk_cell BK165.out 9).trans rfl
                                  have hcz56_10 : wc.cell? ⟨gb165, 10, none⟩ = some (.bool a0_10) := (blk_cell BK165.out 10).trans rfl
                                  have hcz56_11 : wc.cell? ⟨gb165, 11, none⟩ = some (.bool a0_11) := (blk_cell BK165.out 11).trans rfl
                                  have hcz56_12 : wc.cell? ⟨gb165, 12, none⟩ = some (.int .u8 a0_12) := (blk_cell BK165.out 12).trans rfl
                                  have hfz56_0 := blk_frozen BK165.out 0
                                  have hfz56_1 := blk_frozen BK165.out 1
                                  have hfz56_2 := blk_frozen BK165.out 2
                                  have hfz56_3 := blk_frozen BK165.out 3
                                  have hfz56_4 := blk_frozen BK165.out 4
                                  have hfz56_5 := blk_frozen BK165.out 5
                                  have hfz56_6 := blk_frozen BK165.out 6
                                  have hfz56_7 := blk_frozen BK165.out 7
                                  have hfz56_8 := blk_frozen BK165.out 8
                                  have hfz56_9 := blk_frozen BK165.out 9
                                  have hfz56_10 := blk_frozen BK165.out 10
                                  have hfz56_11 := blk_frozen BK165.out 11
                                  have hfz56_12 := blk_frozen BK165.out 12
                                  go_wp2_with (first | ((with_reducible refine gate_builtin (b := .append) (xs := #[.tmp 91, .tmp 94]) rfl ?_); at_builtin; refine Kd.R_append (Kd.int .u8) (w0 := w) w.heap.size rfl (.tmp 91) (.tmp 94) 22 5 (.int .u8 0) 1 rfl Try.underlying22 info5 rfl (by decide) (by omega) u7 x7_46 a0_7 [.int .u8 a0_7] (fun _ => True) (fun _ => False) rfl rfl ?aP (fun _ hk => hk.elim) ?aF ?aO ?aB ?aS ?aL ?_; (case aP => exact rfl); (case aB => exact (by repeat (first | (with_reducible first | exact HB.out | apply below_alloc | apply pw_below_drewN | apply below_drew1 | refine below_set ?_ GE165.out) | exact HB.out))); (case aF => exact (fun _ _ => trivial)); (case aO => exact (by (with_reducible repeat (first | apply Kd.R_alloc | apply Kd.R_drewN | apply Kd.R_drew)); exact HO_7.out)); (case aS => exact (below_size (by repeat (first | (with_reducible first | exact HB.out | apply below_alloc | apply pw_below_drewN | apply below_drew1 | refine below_set ?_ GE165.out) | exact HB.out)))); (case aL => have := LMc55.out; omega); intro v190 w57 ho hb hg hat; rw [← Ny189.out] at ho; have n0_ := Aside0.mk (blk_grown (g := gb165) (o := .cells #[.bool a0_0, .bool a0_1, .int .u8 a0_2, .bool a0_3, .bool a0_4, .int .u16 a0_5, .bool true, .int .u8 a0_7, .bool a0_8, .int .u8 a0_9, .bool a0_10, .bool a0_11, .int .u8 a0_12] 27 (0, 0)) (by (with_reducible repeat (first | refine blk_drewN ?_ _ | refine blk_drew ?_ | refine blk_alloc ?_ _)); exact BK165.out) hg (Kd.R_ne HO_7.out BK165.out (by decide))); have n1_ := Aside0.mk (hb); have n2_ := Aside0.mk (ho); clear BK165; clear HB; clear HO_7; have BK165 := n0_; have HB := n1_; have HO191 := n2_; clear n0_ n1_ n2_; clear ho hb hg hat))
                                  go_meet
                                  case rel => exact ⟨_, (y189), H', ⟨by have := HJ4.out; have := HJ18.out; have := HJ30.out; have := HJ34.out; have := HJ42.out; have := HJ46.out; first | omega | exact Nat.le_refl _⟩, ⟨by (with_reducible repeat (first | apply Kd.R_alloc | apply Kd.R_drewN | apply Kd.R_drew)); exact HO191.out⟩, ⟨by (with_reducible repeat (first | refine blk_drewN ?_ _ | refine blk_drew ?_ | refine blk_alloc ?_ _)); exact BK165.out⟩, ⟨by repeat (first | (with_reducible first | exact HB.out | apply below_alloc | apply pw_below_drewN | apply below_drew1 | refine below_set ?_ GE165.out) | exact HB.out)⟩⟩
                                · rw [if_neg c55] at H
                                  exact absurd H (by simp)
                              · replace c54 := Bool.eq_false_iff.mpr c54
                                subst c54
                                have H1 : (easelref05_Put.j6 kj46 l1 x7_46 a0_0 a0_1 a0_2 a0_3 a0_4 a0_5 false a0_7 a0_8 a0_9 a0_10 a0_11 a0_12) = some (r1, r2) := by rw [if_neg (show ¬ (false = true) by decide)] at H; exact H
                                clear H
                                have H := H1
                                clear H1
                                have H' := Aside0.mk H
                                clear H
                                go_wp2
                                go_meet
                                case rel => exact ⟨_, (x7_46), H', ⟨by have := HJ4.out; have := HJ18.out; have := HJ30.out; have := HJ34.out; have := HJ42.out; have := HJ46.out; first | omega | exact Nat.le_refl _⟩, ⟨by (with_reducible repeat (first | apply Kd.R_alloc | apply Kd.R_drewN | apply Kd.R_drew)); exact HO_7.out⟩, ⟨by (with_reducible repeat (first | refine blk_drewN ?_ _ | refine blk_drew ?_ | refine blk_alloc ?_ _)); exact BK165.out⟩, ⟨by repeat (first | (with_reducible first | exact HB.out | apply below_alloc | apply pw_below_drewN | apply below_drew1 | refine below_set ?_ GE165.out) | exact HB.out)⟩⟩
                            case rest =>
                              clear HC52
                              try clear c1
                              try clear c2
                              try clear p2
                              try clear c3
                              try clear c4
                              try clear c5
                              try clear c9
                              try clear c11
                              try clear c13
                              try clear c23
                              try clear c28
                              try clear c32
                              try clear c36
                              try clear c37
                              try clear c44
                              try clear c48
                              try clear c49
                              try clear c54
                              try clear c55
                              try clear hcz10_0
                              try clear hcz10_1
                              try clear hcz10_10
                              try clear hcz10_11
                              try clear hcz10_12
                              try clear hcz10_2
                              try clear hcz10_3
                              try clear hcz10_4
                              try clear hcz10_5
                              try clear hcz10_6
                              try clear hcz10_7
                              try clear hcz10_8
                              try clear hcz10_9
                              try clear hcz12_0
                              try clear hcz12_1
                              try clear hcz12_10
                              try clear hcz12_11
                              try clear hcz12_12
                              try clear hcz12_2
                              try clear hcz12_3
                              try clear hcz12_4
                              try clear hcz12_5
                              try clear hcz12_6
                              try clear hcz12_7
                              try clear hcz12_8
                              try clear hcz12_9
                              try clear hcz14_0
                              try clear hcz14_1
                              try clear hcz14_10
                              try clear hcz14_11
                              try clear hcz14_12
                              try clear hcz14_2
                              try clear hcz14_3
                              try clear hcz14_4
                              try clear hcz14_5
                              try clear hcz14_6
                              try clear hcz14_7
                              try clear hcz14_8
                              try clear hcz14_9
                              try clear hcz15_0
                              try clear hcz15_1
                              try clear hcz15_10
                              try clear hcz15_11
                              try clear hcz15_12
                              try clear hcz15_2
                              try clear hcz15_3
                              try clear hcz15_4
                              try clear hcz15_5
                              try clear hcz15_6
                              try clear hcz15_7
                              try clear hcz15_8
                              try clear hcz15_9
                              try clear hcz33_0
                              try clear hcz33_1
                              try clear hcz33_10
                              try clear hcz33_11
                              try clear hcz33_12
                              try clear hcz33_2
                              try clear hcz33_3
                              try clear hcz33_4
                              try clear hcz33_5
                              try clear hcz33_6
                              try clear hcz33_7
                              try clear hcz33_8
                              try clear hcz33_9
                              try clear hcz34_0
                              try clear hcz34_1
                              try clear hcz34_10
                              try clear hcz34_11
                              try clear hcz34_12
                              try clear hcz34_2
                              try clear hcz34_3
                              try clear hcz34_4
                              try clear hcz34_5
                              try clear hcz34_6
                              try clear hcz34_7
                              try clear hcz34_8
                              try clear hcz34_9
                              try clear hcz38_0
                              try clear hcz38_1
                              try clear hcz38_10
                              try clear hcz38_11
                              try clear hcz38_12
                              try clear hcz38_2
                              try clear hcz38_3
                              try clear hcz38_4
                              try clear hcz38_5
                              try clear hcz38_6
                              try clear hcz38_7
                              try clear hcz38_8
                              try clear hcz38_9
                              try clear hcz45_0
                              try clear hcz45_1
                              try clear hcz45_10
                              try clear hcz45_11
                              try clear hcz45_12
                              try clear hcz45_2
                              try clear hcz45_3
                              try clear hcz45_4
                              try clear hcz45_5
                              try clear hcz45_6
                              try clear hcz45_7
                              try clear hcz45_8
                              try clear hcz45_9
                              try clear hcz46_0
                              try clear hcz46_1
                              try clear hcz46_10
                              try clear hcz46_11
                              try clear hcz46_12
                              try clear hcz46_2
                              try clear hcz46_3
                              try clear hcz46_4
                              try clear hcz46_5
                              try clear hcz46_6
                              try clear hcz46_7
                              try clear hcz46_8
                              try clear hcz46_9
                              try clear hcz50_0
                              try clear hcz50_1
                              try clear hcz50_10
                              try clear hcz50_11
                              try clear hcz50_12
                              try clear hcz50_2
                              try clear hcz50_3
                              try clear hcz50_4
                              try clear hcz50_5
                              try clear hcz50_6
                              try clear hcz50_7
                              try clear hcz50_8
                              try clear hcz50_9
                              try clear hcz53_0
                              try clear hcz53_1
                              try clear hcz53_10
                              try clear hcz53_11
                              try clear hcz53_12
                              try clear hcz53_2
                              try clear hcz53_3
                              try clear hcz53_4
                              try clear hcz53_5
                              try clear hcz53_6
                              try clear hcz53_7
                              try clear hcz53_8
                              try clear hcz53_9
                              try clear hcz56_0
                              try clear hcz56_1
                              try clear hcz56_10
                              try clear hcz56_11
                              try clear hcz56_12
                              try clear hcz56_2
                              try clear hcz56_3
                              try clear hcz56_4
                              try clear hcz56_5
                              try clear hcz56_6
                              try clear hcz56_7
                              try clear hcz56_8
                              try clear hcz56_9
                              try clear hcz7_0
                              try clear hcz7_1
                              try clear hcz7_10
                              try clear hcz7_11
                              try clear hcz7_12
                              try clear hcz7_2
                              try clear hcz7_3
                              try clear hcz7_4
                              try clear hcz7_5
                              try clear hcz7_6
                              try clear hcz7_7
                              try clear hcz7_8
                              try clear hcz7_9
                              try clear hfz10_0
                              try clear hfz10_1
                              try clear hfz10_10
                              try clear hfz10_11
                              try clear hfz10_12
                              try clear hfz10_2
                              try clear hfz10_3
                              try clear hfz10_4
                              try clear hfz10_5
                              try clear hfz10_6
                              try clear hfz10_7
                              try clear hfz10_8
                              try clear hfz10_9
                              try clear hfz12_0
                              try clear hfz12_1
                              try clear hfz12_10
                              try clear hfz12_11
                              try clear hfz12_12
                              try clear hfz12_2
                              try clear hfz12_3
                              try clear hfz12_4
                              try clear hfz12_5
                              try clear hfz12_6
                              try clear hfz12_7
                              try clear hfz12_8
                              try clear hfz12_9
                              try clear hfz14_0
                              try clear hfz14_1
                              try clear hfz14_10
                              try clear hfz14_11
                              try clear hfz14_12
                              try clear hfz14_2
                              try clear hfz14_3
                              try clear hfz14_4
                              try clear hfz14_5
                              try clear hfz14_6
                              try clear hfz14_7
                              try clear hfz14_8
                              try clear hfz14_9
                              try clear hfz15_0
                              try clear hfz15_1
                              try clear hfz15_10
                              try clear hfz15_11
                              try clear hfz15_12
                              try clear hfz15_2
                              try clear hfz15_3
                              try clear hfz15_4
                              try clear hfz15_5
                              try clear hfz15_6
                              try clear hfz15_7
                              try clear hfz15_8
                              try clear hfz15_9
                              try clear hfz33_0
                              try clear hfz33_1
                              try clear hfz33_10
                              try clear hfz33_11
                              try clear hfz33_12
                              try clear hfz33_2
                              try clear hfz33_3
                              try clear hfz33_4
                              try clear hfz33_5
                              try clear hfz33_6
                              try clear hfz33_7
                              try clear hfz33_8
                              try clear hfz33_9
                              try clear hfz34_0
                              try clear hfz34_1
                              try clear hfz34_10
                              try clear hfz34_11
                              try clear hfz34_12
                              try clear hfz34_2
                              try clear hfz34_3
                              try clear hfz34_4
                              try clear hfz34_5
                              try clear hfz34_6
                              try clear hfz34_7
                              try clear hfz34_8
                              try clear hfz34_9
                              try clear hfz38_0
                              try clear hfz38_1
                              try clear hfz38_10
                              try clear hfz38_11
                              try clear hfz38_12
                              try clear hfz38_2
                              try clear hfz38_3
                              try clear hfz38_4
                              try clear hfz38_5
                              try clear hfz38_6
                              try clear hfz38_7
                              try clear hfz38_8
                              try clear hfz38_9
                              try clear hfz45_0
                              try clear hfz45_1
                              try clear hfz45_10
                              try clear hfz45_11
                              try clear hfz45_12
                              try clear hfz45_2
                              try clear hfz45_3
                              try clear hfz45_4
                              try clear hfz45_5
                              try clear hfz45_6
                              try clear hfz45_7
                              try clear hfz45_8
                              try clear hfz45_9
                              try clear hfz46_0
                              try clear hfz46_1
                              try clear hfz46_10
                              try clear hfz46_11
                              try clear hfz46_12
                              try clear hfz46_2
                              try clear hfz46_3
                              try clear hfz46_4
                              try clear hfz46_5
                              try clear hfz46_6
                              try clear hfz46_7
                              try clear hfz46_8
                              try clear hfz46_9
                              try clear hfz50_0
                              try clear hfz50_1
                              try clear hfz50_10
                              try clear hfz50_11
                              try clear hfz50_12
                              try clear hfz50_2
                              try clear hfz50_3
                              try clear hfz50_4
                              try clear hfz50_5
                              try clear hfz50_6
                              try clear hfz50_7
                              try clear hfz50_8
                              try clear hfz50_9
                              try clear hfz53_0
                              try clear hfz53_1
                              try clear hfz53_10
                              try clear hfz53_11
                              try clear hfz53_12
                              try clear hfz53_2
                              try clear hfz53_3
                              try clear hfz53_4
                              try clear hfz53_5
                              try clear hfz53_6
                              try clear hfz53_7
                              try clear hfz53_8
                              try clear hfz53_9
                              try clear hfz56_0
                              try clear hfz56_1
                              try clear hfz56_10
                              try clear hfz56_11
                              try clear hfz56_12
                              try clear hfz56_2
                              try clear hfz56_3
                              try clear hfz56_4
                              try clear hfz56_5
                              try clear hfz56_6
                              try clear hfz56_7
                              try clear hfz56_8
                              try clear hfz56_9
                              try clear hfz7_0
                              try clear hfz7_1
                              try clear hfz7_10
                              try clear hfz7_11
                              try clear hfz7_12
                              try clear hfz7_2
                              try clear hfz7_3
                              try clear hfz7_4
                              try clear hfz7_5
                              try clear hfz7_6
                              try clear hfz7_7
                              try clear hfz7_8
                              try clear hfz7_9
                              try clear p2
                              obtain ⟨kq, x7_51, HA, HJ51, HO_7, BK165, HB⟩ := hcut
                              cases kq with
                              | zero => exact absurd HA.out (by simp [easelref05_Put.j6])
                              | succ kj51 =>
                                have H := HA.out
                                clear HA
                                simp only [easelref05_Put.j6] at H
                                by_cases c58 : a0_8 = true
                                · subst c58
                                  have H1 : ((easelref05_bit.f a0_10 32).bind fun t192 => (if x7_51.length < 140737488355328 then ((some (x7_51 ++ [(((((a0_9 * 64) % 256) + t192) % 256) + a0_12) % 256] : List Int)).bind fun y193 => (if y193.length + l1.length < 140737488355328 then (some ((y193 ++ l1), 0)) else (none))) else (none))) = some (r1, r2) := by rw [if_pos rfl] at H; exact H
                                  clear H
                                  have H := H1
                                  clear H1
                                  replace H := Option.bind_eq_some_iff.mp H
                                  obtain ⟨t192, A590, H⟩ := H
                                  replace H : (if x7_51.length < 140737488355328 then ((some (x7_51 ++ [(((((a0_9 * 64) % 256) + t192) % 256) + a0_12) % 256] : List Int)).bind fun y193 => (if y193.length + l1.length < 140737488355328 then (some ((y193 ++ l1), 0)) else (none))) else (none)) = some (r1, r2) := H
                                  have A59 := Aside0.mk A590
                                  clear A590
                                  by_cases c60 : x7_51.length < 140737488355328
                                  · rw [if_pos c60] at H
                                    have LMc60 := Aside0.mk c60
                                    clear c60
                                    obtain ⟨y193, hy193⟩ : ∃ y_ : List Int, y_ = (x7_51 ++ [(((((a0_9 * 64) % 256) + t192) % 256) + a0_12) % 256]) := ⟨_, rfl⟩
                                    replace H : (if y193.length + l1.length < 140737488355328 then (some ((y193 ++ l1), 0)) else (none)) = some (r1, r2) := by first | (rw [hy193]; with_reducible exact H) | (have H2_ := (Option.bind_some _ _).symm.trans H; rw [hy193]; with_reducible exact H2_) | (have H2_ := (Option.bind_some _ _).symm.trans H; with_reducible exact H2_) | with_reducible exact H | (rw [hy193]; exact H) | exact H
                                    have Ny193 := Aside0.mk hy193
                                    clear hy193
                                    by_cases c61 : y193.length + l1.length < 140737488355328
                                    · rw [if_pos c61] at H
                                      have LMc61 := Aside0.mk c61
                                      clear c61
                                      obtain ⟨y196, hy196⟩ : ∃ y_ : List Int, y_ = (y193 ++ l1) := ⟨_, rfl⟩
                                      replace H : (some (y196, 0)) = some (r1, r2) := by first | (rw [hy196]; with_reducible exact H) | (have H2_ := (Option.bind_some _ _).symm.trans H; rw [hy196]; with_reducible exact H2_) | (have H2_ := (Option.bind_some _ _).symm.trans H; with_reducible exact H2_) | with_reducible exact H | (rw [hy196]; exact H) | exact H
                                      have Ny196 := Aside0.mk hy196
                                      clear hy196
                                      simp only [Option.some.injEq, Prod.mk.injEq] at H
                                      obtain ⟨rfl, rfl⟩ := H
                                      have hcz62_0 : wc.cell? ⟨gb165, 0, none⟩ = some (.bool a0_0) := (blk_cell BK165.out 0).trans rfl
                                      have hcz62_1 : wc.cell? ⟨gb165, 1, none⟩ = some (.bool a0_1) := (blk_cell BK165.out 1).trans rfl
                                      have hcz62_2 : wc.cell? ⟨gb165, 2, none⟩ = some (.int .u8 a0_2) := (blk_cell BK165.out 2).trans rfl
                                      have hcz62_3 : wc.cell? ⟨gb165, 3, none⟩ = some (.bool a0_3) := (blk_cell BK165.out 3).trans rfl
                                      have hcz62_4 : wc.cell? ⟨gb165, 4, none⟩ = some (.bool a0_4) := (blk_cell BK165.out 4).trans rfl
                                      have hcz62_5 : wc.cell? ⟨gb165, 5, none⟩ = some (.int .u16 a0_5) := (blk_cell BK165.out 5).trans rfl
                                      have hcz62_6 : wc.cell? ⟨gb165, 6, none⟩ = some (.bool a0_6) := (blk_cell BK165.out 6).trans rfl
                                      have hcz62_7 : wc.cell? ⟨gb165, 7, none⟩ = some (.int .u8 a0_7) := (blk_cell BK165.out 7).trans rfl
                                      have hcz62_8 : wc.cell? ⟨gb165, 8, none⟩ = some (.bool true) := (blk_cell BK165.out 8).trans rfl
                                      have hcz62_9 : wc.cell? ⟨gb165, 9, none⟩ = some (.int .u8 a0_9) := (blk_cell BK165.out 9).trans rfl
                                      have hcz62_10 : wc.cell? ⟨gb165, 10, none⟩ = some (.bool a0_10) := (blk_cell BK165.out 10).trans rfl
                                      have hcz62_11 : wc.cell? ⟨gb165, 11, none⟩ = some (.bool a0_11) := (blk_cell BK165.out 11).trans rfl
                                      have hcz62_12 : wc.cell? ⟨gb165, 12, none⟩ = some (.int .u8 a0_12) := (blk_cell BK165.out 12).trans rfl
                                      have hfz62_0 := blk_frozen BK165.out 0
                                      have hfz62_1 := blk_frozen BK165.out 1
                                      have hfz62_2 := blk_frozen BK165.out 2
                                      have hfz62_3 := blk_frozen BK165.out 3
                                      have hfz62_4 := blk_frozen BK165.out 4
                                      have hfz62_5 := blk_frozen BK165.out 5
                                      have hfz62_6 := blk_frozen BK165.out 6
                                      have hfz62_7 := blk_frozen BK165.out 7
                                      have hfz62_8 := blk_frozen BK165.out 8
                                      have hfz62_9 := blk_frozen BK165.out 9
                                      have hfz62_10 := blk_frozen BK165.out 10
                                      have hfz62_11 := blk_frozen BK165.out 11
                                      have hfz62_12 := blk_frozen BK165.out 12
                                      try go_wp2
                                      have n0_ := Aside0.mk (Kd.R_drew HO_7.out)
                                      have n1_ := Aside0.mk (blk_drew BK165.out)
                                      have n2_ := Aside0.mk (below_drew1 HB.out)
                                      clear HO_7
                                      clear BK165
                                      clear HB
                                      have HO_7 := n0_
                                      have BK165 := n1_
                                      have HB := n2_
                                      clear n0_ n1_ n2_
                                      refine start_ (n := 14) (S := fun w' => w'.cell? ⟨gb165, 0, none⟩ = some (.bool a0_0) ∧ w'.cell? ⟨gb165, 1, none⟩ = some (.bool a0_1) ∧ w'.cell? ⟨gb165, 2, none⟩ = some (.int .u8 a0_2) ∧ w'.cell? ⟨gb165, 3, none⟩ = some (.bool a0_3) ∧ w'.cell? ⟨gb165, 4, none⟩ = some (.bool a0_4) ∧ w'.cell? ⟨gb165, 5, none⟩ = some (.int .u16 a0_5) ∧ w'.cell? ⟨gb165, 6, none⟩ = some (.bool a0_6) ∧ w'.cell? ⟨gb165, 7, none⟩ = some (.int .u8 a0_7) ∧ w'.cell? ⟨gb165, 8, none⟩ = some (.bool true) ∧ w'.cell? ⟨gb165, 9, none⟩ = some (.int .u8 a0_9) ∧ w'.cell? ⟨gb165, 10, none⟩ = some (.bool a0_10) ∧ w'.cell? ⟨gb165, 11, none⟩ = some (.bool a0_11) ∧ w'.cell? ⟨gb165, 12, none⟩ = some (.int .u8 a0_12)) (ds := []) #[false, false, false, false, false, false, false, false, false, false, false, false, false, false] (by kernel_rfl) rfl rfl ⟨(blk_cell BK165.out 0).trans rfl, (blk_cell BK165.out 1).trans rfl, (blk_cell BK165.out 2).trans rfl, (blk_cell BK165.out 3).trans rfl, (blk_cell BK165.out 4).trans rfl, (blk_cell BK165.out 5).trans rfl, (blk_cell BK165.out 6).trans rfl, (blk_cell BK165.out 7).trans rfl, (blk_cell BK165.out 8).trans rfl, (blk_cell BK165.out 9).trans rfl, (blk_cell BK165.out 10).trans rfl, (blk_cell BK165.out 11).trans rfl, (blk_cell BK165.out 12).trans rfl⟩ (fun hHeld => ?_); refine with_tabW easelref05_Put.tab14 easelref05_Put.bits14 (fun HT_ HW_ => ?_)
                                      generalize wc.drew = w63 at HO_7 BK165 HB hHeld ⊢
                                      refine pure_ (i := 0) (N := some 102) (v := ?_) (a' := ?_) #[true, false, false, false, false, false, false, false, false, false, false, false, false, false] rfl rfl (any_of HT_.out (by kernel_rfl)) (fun _ _ _ h => h) (Or.inl ⟨by rfl, ?_⟩) ?_ ?_
                                      rotate_left
                                      · intro w'
                                        go_simp
                                        with_reducible rfl
                                      rotate_left
                                      · simp only [Act.put, List.setIfInBounds_toArray, List.set_cons_zero, List.set_cons_succ, i64_w, i32_w]
                                        rfl
                                      refine pure_ (i := 1) (N := some 103) (v := ?_) (a' := ?_) #[true, true, false, false, false, false, false, false, false, false, false, false, false, false] rfl rfl (any_of HT_.out (by kernel_rfl)) (fun _ _ _ h => h) (Or.inl ⟨by rfl, ?_⟩) ?_ ?_
                                      rotate_left
                                      · intro w'
                                        go_simp
                                        with_reducible rfl
                                      rotate_left
                                      · simp only [Act.put, List.setIfInBounds_toArray, List.set_cons_zero, List.set_cons_succ, i64_w, i32_w]
                                        rfl
                                      refine pure_ (i := 4) (N := some 106) (v := ?_) (a' := ?_) #[true, true, false, false, true, false, false, false, false, false, false, false, false, false] rfl rfl (any_of HT_.out (by kernel_rfl)) (fun _ _ _ h => h) (Or.inl ⟨by rfl, ?_⟩) ?_ ?_
                                      rotate_left
                                      · intro w'
                                        go_simp
                                        with_reducible rfl
                                      rotate_left
                                      · simp only [Act.put, List.setIfInBounds_toArray, List.set_cons_zero, List.set_cons_succ, i64_w, i32_w]
                                        rfl
                                      refine pure_ (i := 8) (N := some 110) (v := ?_) (a' := ?_) #[true, true, false, false, true, false, false, false, true, false, false, false, false, false] rfl rfl (any_of HT_.out (by kernel_rfl)) (fun _ _ _ h => h) (Or.inl ⟨by rfl, ?_⟩) ?_ ?_
                                      rotate_left
                                      · intro w'
                                        go_simp
                                        with_reducible rfl
                                      rotate_left
                                      · simp only [Act.put, List.setIfInBounds_toArray, List.set_cons_zero, List.set_cons_succ, i64_w, i32_w]
                                        rfl
                                      refine take_ (i := 2) (N := some 104) (v := ?_) (a' := ?_) #[true, true, true, false, true, false, false, false, true, false, false, false, false, false] rfl rfl (take_ofW HT_.out HW_.out (by kernel_rfl)) (fun _ _ _ h => h) (Or.inl ⟨by rfl, ?_⟩) hHeld ?_ ?_
                                      rotate_left
                                      · rintro w' ⟨s0, s1, s2, s3, s4, s5, s6, s7, s8, s9, s10, s11, s12⟩
                                        go_simp
                                        with_reducible rfl
                                      rotate_left
                                      · simp only [Act.put, List.setIfInBounds_toArray, List.set_cons_zero, List.set_cons_succ, i64_w, i32_w]
                                        rfl
                                      refine pure_ (i := 3) (N := some 105) (v := ?_) (a' := ?_) #[true, true, true, true, true, false, false, false, true, false, false, false, false, false] rfl rfl (any_of HT_.out (by kernel_rfl)) (fun _ _ _ h => h) (Or.inl ⟨by rfl, ?_⟩) ?_ ?_
                                      rotate_left
                                      · intro w'
                                        go_simp
                                        with_reducible rfl
                                      rotate_left
                                      · simp only [Act.put, List.setIfInBounds_toArray, List.set_cons_zero, List.set_cons_succ, i64_w, i32_w]
                                        rfl
                                      refine take_ (i := 5) (N := some 107) (v := ?_) (a' := ?_) #[true, true, true, true, true, true, false, false, true, false, false, false, false, false] rfl rfl (take_ofW HT_.out HW_.out (by kernel_rfl)) (fun _ _ _ h => h) (Or.inl ⟨by rfl, ?_⟩) hHeld ?_ ?_
                                      rotate_left
                                      · rintro w' ⟨s0, s1, s2, s3, s4, s5, s6, s7, s8, s9, s10, s11, s12⟩
                                        go_simp
                                        with_reducible rfl
                                      rotate_left
                                      · simp only [Act.put, List.setIfInBounds_toArray, List.set_cons_zero, List.set_cons_succ, i64_w, i32_w]
                                        rfl
                                      refine take_ (i := 9) (N := some 111) (v := ?_) (a' := ?_) #[true, true, true, true, true, true, false, false, true, true, false, false, false, false] rfl rfl (take_ofW HT_.out HW_.out (by kernel_rfl)) (fun _ _ _ h => h) (Or.inl ⟨by rfl, ?_⟩) hHeld ?_ ?_
                                      rotate_left
                                      · rintro w' ⟨s0, s1, s2, s3, s4, s5, s6, s7, s8, s9, s10, s11, s12⟩
                                        go_simp
                                        with_reducible rfl
                                      rotate_left
                                      · simp only [Act.put, List.setIfInBounds_toArray, List.set_cons_zero, List.set_cons_succ, i64_w, i32_w]
                                        rfl
                                      refine one_ (i := 6) (N := some 108) #[true, true, true, true, true, true, true, false, true, true, false, false, false, false] rfl rfl (one_of HT_.out (by kernel_rfl)) (by decide) (fun K hK => ?_)
                                      refine goes_ Try.func53 (by kernel_rfl) rfl #[.bool a0_10, .int .u8 32] (by rfl) rfl rfl (by (try simp only [List.map_toArray, List.map_cons, List.map_nil]); first | done | rfl | (simp only [List.length_drop, List.length_take]; rfl)) ?_
                                      with_reducible refine (easelref05_bit.calls a0_10 32 t192 _ A59.out).mono ?_
                                      rintro e w' ⟨rfl, ⟨nd, rfl⟩⟩
                                      refine ⟨_, rfl, ?_⟩
                                      refine hK.out _ _ ⟨(blk_cell BK165.out 0).trans rfl, (blk_cell BK165.out 1).trans rfl, (blk_cell BK165.out 2).trans rfl, (blk_cell BK165.out 3).trans rfl, (blk_cell BK165.out 4).trans rfl, (blk_cell BK165.out 5).trans rfl, (blk_cell BK165.out 6).trans rfl, (blk_cell BK165.out 7).trans rfl, (blk_cell BK165.out 8).trans rfl, (blk_cell BK165.out 9).trans rfl, (blk_cell BK165.out 10).trans rfl, (blk_cell BK165.out 11).trans rfl, (blk_cell BK165.out 12).trans rfl⟩ (fun hHeld => ?_)
                                      clear hK K
                                      refine norm_ (a' := ?_) ?_ ?_
                                      rotate_left
                                      · show Act.put _ (some 108) _ = _
                                        simp only [Act.put, List.setIfInBounds_toArray, List.set_cons_zero, List.set_cons_succ, i64_w, i32_w]
                                        rfl
                                      refine pure_ (i := 7) (N := some 109) (v := ?_) (a' := ?_) #[true, true, true, true, true, true, true, true, true, true, false, false, false, false] rfl rfl (any_of HT_.out (by kernel_rfl)) (fun _ _ _ h => h) (Or.inl ⟨by rfl, ?_⟩) ?_ ?_
                                      rotate_left
                                      · intro w'
                                        go_simp
                                        with_reducible rfl
                                      rotate_left
                                      · simp only [Act.put, List.setIfInBounds_toArray, List.set_cons_zero, List.set_cons_succ, i64_w, i32_w]
                                        rfl
                                      refine pure_ (i := 10) (N := some 112) (v := ?_) (a' := ?_) #[true, true, true, true, true, true, true, true, true, true, true, false, false, false] rfl rfl (any_of HT_.out (by kernel_rfl)) (fun _ _ _ h => h) (Or.inl ⟨by rfl, ?_⟩) ?_ ?_
                                      rotate_left
                                      · intro w'
                                        go_simp
                                        with_reducible rfl
                                      rotate_left
                                      · simp only [Act.put, List.setIfInBounds_toArray, List.set_cons_zero, List.set_cons_succ, i64_w, i32_w]
                                        rfl
                                      refine one_ (i := 11) (N := some 113) #[true, true, true, true, true, true, true, true, true, true, true, true, false, false] rfl rfl (one_of HT_.out (by kernel_rfl)) (by decide) (fun K hK => ?_)
                                      refine value_ (w1 := ?_) (v := ?_) (by rfl) rfl ?_ ?_
                                      rotate_left 2
                                      · go_simp
                                        constructor
                                        · rfl
                                        · rfl
                                      refine hK.out _ _ ⟨(blk_cell (blk_alloc BK165.out _) 0).trans rfl, (blk_cell (blk_alloc BK165.out _) 1).trans rfl, (blk_cell (blk_alloc BK165.out _) 2).trans rfl, (blk_cell (blk_alloc BK165.out _) 3).trans rfl, (blk_cell (blk_alloc BK165.out _) 4).trans rfl, (blk_cell (blk_alloc BK165.out _) 5).trans rfl, (blk_cell (blk_alloc BK165.out _) 6).trans rfl, (blk_cell (blk_alloc BK165.out _) 7).trans rfl, (blk_cell (blk_alloc BK165.out _) 8).trans rfl, (blk_cell (blk_alloc BK165.out _) 9).trans rfl, (blk_cell (blk_alloc BK165.out _) 10).trans rfl, (blk_cell (blk_alloc BK165.out _) 11).trans rfl, (blk_cell (blk_alloc BK165.out _) 12).trans rfl⟩ (fun hHeld => ?_)
                                      clear hK K
                                      refine norm_ (a' := ?_) ?_ ?_
                                      rotate_left
                                      · show Act.put _ (some 113) _ = _
                                        simp only [Act.put, List.setIfInBounds_toArray, List.set_cons_zero, List.set_cons_succ, i64_w, i32_w]
                                        rfl
                                      refine one_ (i := 12) (N := some 114) #[true, true, true, true, true, true, true, true, true, true, true, true, true, false] rfl rfl (one_of HT_.out (by kernel_rfl)) (by decide) (fun K hK => ?_)
                                      refine Kd.R_append_step (Kd.int .u8) (w0 := w) w.heap.size (by rfl) (.tmp 102) (.tmp 113) 22 5 (.int .u8 0) 1 rfl Try.underlying22 info5 rfl (by decide) (by omega) u7 x7_51 ((((((a0_9 * 64) % 256) + t192) % 256) + a0_12) % 256) [.int .u8 ((((((a0_9 * 64) % 256) + t192) % 256) + a0_12) % 256)] (fun _ => True) (fun _ => False) rfl rfl ?aP (fun _ hk => hk.elim) ?aF ?aO ?aB ?aS ?aL ?_
                                      (case aP => exact rfl)
                                      (case aB => exact (by repeat (first | (with_reducible first | exact HB.out | apply below_alloc | apply pw_below_drewN | apply below_drew1 | refine below_set ?_ GE165.out) | exact HB.out)))
                                      (case aF => exact (fun _ _ => trivial))
                                      (case aO => exact (by (with_reducible repeat (first | apply Kd.R_alloc | apply Kd.R_drewN | apply Kd.R_drew)); exact HO_7.out))
                                      (case aS => exact (below_size (by repeat (first | (with_reducible first | exact HB.out | apply below_alloc | apply pw_below_drewN | apply below_drew1 | refine below_set ?_ GE165.out) | exact HB.out))))
                                      (case aL => have := LMc60.out; omega)
                                      intro v194 w64 ho hb hg hat
                                      rw [← Ny193.out] at ho
                                      have n0_ := Aside0.mk (blk_grown (g := gb165) (o := .cells #[.bool a0_0, .bool a0_1, .int .u8 a0_2, .bool a0_3, .bool a0_4, .int .u16 a0_5, .bool a0_6, .int .u8 a0_7, .bool true, .int .u8 a0_9, .bool a0_10, .bool a0_11, .int .u8 a0_12] 27 (0, 0)) (by (with_reducible repeat (first | refine blk_drewN ?_ _ | refine blk_drew ?_ | refine blk_alloc ?_ _)); exact BK165.out) hg (Kd.R_ne HO_7.out BK165.out (by decide)))
                                      have n1_ := Aside0.mk (hb)
                                      have n2_ := Aside0.mk (ho)
                                      clear BK165
                                      clear HB
                                      clear HO_7
                                      have BK165 := n0_
                                      have HB := n1_
                                      have HO195 := n2_
                                      clear n0_ n1_ n2_
                                      clear ho hb hg hat
                                      refine hK.out _ _ ⟨(blk_cell BK165.out 0).trans rfl, (blk_cell BK165.out 1).trans rfl, (blk_cell BK165.out 2).trans rfl, (blk_cell BK165.out 3).trans rfl, (blk_cell BK165.out 4).trans rfl, (blk_cell BK165.out 5).trans rfl, (blk_cell BK165.out 6).trans rfl, (blk_cell BK165.out 7).trans rfl, (blk_cell BK165.out 8).trans rfl, (blk_cell BK165.out 9).trans rfl, (blk_cell BK165.out 10).trans rfl, (blk_cell BK165.out 11).trans rfl, (blk_cell BK165.out 12).trans rfl⟩ (fun hHeld => ?_)
                                      clear hK K
                                      refine norm_ (a' := ?_) ?_ ?_
                                      rotate_left
                                      · show Act.put _ (some 114) _ = _
                                        simp only [Act.put, List.setIfInBounds_toArray, List.set_cons_zero, List.set_cons_succ, i64_w, i32_w]
                                        rfl
                                      refine pure_ (i := 13) (N := some 7) (v := ?_) (a' := ?_) #[true, true, true, true, true, true, true, true, true, true, true, true, true, true] rfl rfl (any_of HT_.out (by kernel_rfl)) (fun _ _ _ h => h) (Or.inl ⟨by rfl, ?_⟩) ?_ ?_
                                      rotate_left
                                      · intro w'
                                        go_simp
                                        with_reducible rfl
                                      rotate_left
                                      · simp only [Act.put, List.setIfInBounds_toArray, List.set_cons_zero, List.set_cons_succ, i64_w, i32_w]
                                        rfl
                                      refine done_ (done_of HT_.out (by kernel_rfl)) ?_
                                      try go_wp2_with (first | ((with_reducible refine gate_builtin (b := .append) (xs := #[.tmp 115, .tmp 116]) rfl ?_); at_builtin; refine Kd.R_append_rows (Kd.int .u8) (w0 := w) w.heap.size rfl (.tmp 115) (.tmp 116) 22 5 (.int .u8 0) 1 rfl Try.underlying22 info5 rfl (by decide) (by omega) v194 y193 l1 _ _ _ (fun _ => True) (fun _ => False) rfl rfl ?aO ?aR (fun _ _ h => h) (fun _ h => h.elim) ?aF ?aB ?aS ?aL ?_; (case aR => repeat (first | exact (Kd.C_below HR1.out HB.out) | (with_reducible refine Kd.C_alloc ?_ _) | (with_reducible refine Kd.C_drewN ?_ _) | (with_reducible refine Kd.C_drew ?_))); (case aB => exact (by repeat (first | (with_reducible first | exact HB.out | apply below_alloc | apply pw_below_drewN | apply below_drew1 | refine below_set ?_ GE165.out) | exact HB.out))); (case aF => exact (fun _ _ => trivial)); (case aO => exact (by (with_reducible repeat (first | apply Kd.R_alloc | apply Kd.R_drewN | apply Kd.R_drew)); exact HO195.out)); (case aS => exact (below_size (by repeat (first | (with_reducible first | exact HB.out | apply below_alloc | apply pw_below_drewN | apply below_drew1 | refine below_set ?_ GE165.out) | exact HB.out)))); (case aL => have := LMc61.out; omega); intro v197 w65 ho hb hg hat; rw [← Ny196.out] at ho; have n0_ := Aside0.mk (blk_grown (g := gb165) (o := .cells #[.bool a0_0, .bool a0_1, .int .u8 a0_2, .bool a0_3, .bool a0_4, .int .u16 a0_5, .bool a0_6, .int .u8 a0_7, .bool true, .int .u8 a0_9, .bool a0_10, .bool a0_11, .int .u8 a0_12] 27 (0, 0)) (by (with_reducible repeat (first | refine blk_drewN ?_ _ | refine blk_drew ?_ | refine blk_alloc ?_ _)); exact BK165.out) hg (Kd.R_ne HO195.out BK165.out (by decide))); have n1_ := Aside0.mk (hb); have n2_ := Aside0.mk (ho); clear BK165; clear HB; clear HO195; have BK165 := n0_; have HB := n1_; have HO198 := n2_; clear n0_ n1_ n2_; clear ho hb hg hat))
                                      go_ret2
                                      exact ⟨_, by first | rfl | (simp [errW_none, errW_some] <;> rfl) | (simp [*, errW_none, errW_some] <;> rfl), by (with_reducible repeat (first | apply Kd.R_alloc | apply Kd.R_drewN | apply Kd.R_drew)); exact HO198.out, by repeat (first | (with_reducible first | exact HB.out | apply below_alloc | apply pw_below_drewN | apply below_drew1 | refine below_set ?_ GE165.out) | exact HB.out)⟩
                                    · rw [if_neg c61] at H
                                      exact absurd H (by simp)
                                  · rw [if_neg c60] at H
                                    exact absurd H (by simp)
                                · replace c58 := Bool.eq_false_iff.mpr c58
                                  subst c58
                                  have H1 : (if a0_11 = true then ((easelref05_bit.f a0_10 32).bind fun t199 => (if x7_51.length < 140737488355328 then ((some (x7_51 ++ [(((((a0_9 * 64) % 256) + t199) % 256) + a0_12) % 256] : List Int)).bind fun y200 => (if y200.length + l1.length < 140737488355328 then (some ((y200 ++ l1), 0)) else (none))) else (none))) else (if x7_51.length + l1.length < 140737488355328 then (some ((x7_51 ++ l1), 0)) else (none))) = some (r1, r2) := by rw [if_neg (show ¬ (false = true) by decide)] at H; exact H
                                  clear H
                                  have H := H1
                                  clear H1
                                  by_cases c66 : a0_11 = true
                                  · subst c66
                                    have H1 : ((easelref05_bit.f a0_10 32).bind fun t199 => (if x7_51.length < 140737488355328 then ((some (x7_51 ++ [(((((a0_9 * 64) % 256) + t199) % 256) + a0_12) % 256] : List Int)).bind fun y200 => (if y200.length + l1.length < 140737488355328 then (some ((y200 ++ l1), 0)) else (none))) else (none))) = some (r1, r2) := by rw [if_pos rfl] at H; exact H
                                    clear H
                                    have H := H1
                                    clear H1
                                    replace H := Option.bind_eq_some_iff.mp H
                                    obtain ⟨t199, A670, H⟩ := H
                                    replace H : (if x7_51.length < 140737488355328 then ((some (x7_51 ++ [(((((a0_9 * 64) % 256) + t199) % 256) + a0_12) % 256] : List Int)).bind fun y200 => (if y200.length + l1.length < 140737488355328 then (some ((y200 ++ l1), 0)) else (none))) else (none)) = some (r1, r2) := H
                                    have A67 := Aside0.mk A670
                                    clear A670
                                    by_cases c68 : x7_51.length < 140737488355328
                                    · rw [if_pos c68] at H
                                      have LMc68 := Aside0.mk c68
                                      clear c68
                                      obtain ⟨y200, hy200⟩ : ∃ y_ : List Int, y_ = (x7_51 ++ [(((((a0_9 * 64) % 256) + t199) % 256) + a0_12) % 256]) := ⟨_, rfl⟩
                                      replace H : (if y200.length + l1.length < 140737488355328 then (some ((y200 ++ l1), 0)) else (none)) = some (r1, r2) := by first | (rw [hy200]; with_reducible exact H) | (have H2_ := (Option.bind_some _ _).symm.trans H; rw [hy200]; with_reducible exact H2_) | (have H2_ := (Option.bind_some _ _).symm.trans H; with_reducible exact H2_) | with_reducible exact H | (rw [hy200]; exact H) | exact H
                                      have Ny200 := Aside0.mk hy200
                                      clear hy200
                                      by_cases c69 : y200.length + l1.length < 140737488355328
                                      · rw [if_pos c69] at H
                                        have LMc69 := Aside0.mk c69
                                        clear c69
                                        obtain ⟨y203, hy203⟩ : ∃ y_ : List Int, y_ = (y200 ++ l1) := ⟨_, rfl⟩
                                        replace H : (some (y203, 0)) = some (r1, r2) := by first | (rw [hy203]; with_reducible exact H) | (have H2_ := (Option.bind_some _ _).symm.trans H; rw [hy203]; with_reducible exact H2_) | (have H2_ := (Option.bind_some _ _).symm.trans H; with_reducible exact H2_) | with_reducible exact H | (rw [hy203]; exact H) | exact H
                                        have Ny203 := Aside0.mk hy203
                                        clear hy203
                                        simp only [Option.some.injEq, Prod.mk.injEq] at H
                                        obtain ⟨rfl, rfl⟩ := H
                                        have hcz70_0 : wc.cell? ⟨gb165, 0, none⟩ = some (.bool a0_0) := (blk_cell BK165.out 0).trans rfl
                                        have hcz70_1 : wc.cell? ⟨gb165, 1, none⟩ = some (.bool a0_1) := (blk_cell BK165.out 1).trans rfl
                                        have hcz70_2 : wc.cell? ⟨gb165, 2, none⟩ = some (.int .u8 a0_2) := (blk_cell BK165.out 2).trans rfl
                                        have hcz70_3 : wc.cell? ⟨gb165, 3, none⟩ = some (.bool a0_3) := (blk_cell BK165.out 3).trans rfl
                                        have hcz70_4 : wc.cell? ⟨gb165, 4, none⟩ = some (.bool a0_4) := (blk_cell BK165.out 4).trans rfl
                                        have hcz70_5 : wc.cell? ⟨gb165, 5, none⟩ = some (.int .u16 a0_5) := (blk_cell BK165.out 5).trans rfl
                                        have hcz70_6 : wc.cell? ⟨gb165, 6, none⟩ = some (.bool a0_6) := (blk_cell BK165.out 6).trans rfl
                                        have hcz70_7 : wc.cell? ⟨gb165, 7, none⟩ = some (.int .u8 a0_7) := (blk_cell BK165.out 7).trans rfl
                                        have hcz70_8 : wc.cell? ⟨gb165, 8, none⟩ = some (.bool false) := (blk_cell BK165.out 8).trans rfl
                                        have hcz70_9 : wc.cell? ⟨gb165, 9, none⟩ = some (.int .u8 a0_9) := (blk_cell BK165.out 9).trans rfl
                                        have hcz70_10 : wc.cell? ⟨gb165, 10, none⟩ = some (.bool a0_10) := (blk_cell BK165.out 10).trans rfl
                                        have hcz70_11 : wc.cell? ⟨gb165, 11, none⟩ = some (.bool true) := (blk_cell BK165.out 11).trans rfl
                                        have hcz70_12 : wc.cell? ⟨gb165, 12, none⟩ = some (.int .u8 a0_12) := (blk_cell BK165.out 12).trans rfl
                                        have hfz70_0 := blk_frozen BK165.out 0
                                        have hfz70_1 := blk_frozen BK165.out 1
                                        have hfz70_2 := blk_frozen BK165.out 2
                                        have hfz70_3 := blk_frozen BK165.out 3
                                        have hfz70_4 := blk_frozen BK165.out 4
                                        have hfz70_5 := blk_frozen BK165.out 5
                                        have hfz70_6 := blk_frozen BK165.out 6
                                        have hfz70_7 := blk_frozen BK165.out 7
                                        have hfz70_8 := blk_frozen BK165.out 8
                                        have hfz70_9 := blk_frozen BK165.out 9
                                        have hfz70_10 := blk_frozen BK165.out 10
                                        have hfz70_11 := blk_frozen BK165.out 11
                                        have hfz70_12 := blk_frozen BK165.out 12
                                        try go_wp2
                                        have n0_ := Aside0.mk (Kd.R_drew HO_7.out)
                                        have n1_ := Aside0.mk (blk_drew BK165.out)
                                        have n2_ := Aside0.mk (below_drew1 HB.out)
                                        clear HO_7
                                        clear BK165
                                        clear HB
                                        have HO_7 := n0_
                                        have BK165 := n1_
                                        have HB := n2_
                                        clear n0_ n1_ n2_
                                        refine start_ (n := 14) (S := fun w' => w'.cell? ⟨gb165, 0, none⟩ = some (.bool a0_0) ∧ w'.cell? ⟨gb165, 1, none⟩ = some (.bool a0_1) ∧ w'.cell? ⟨gb165, 2, none⟩ = some (.int .u8 a0_2) ∧ w'.cell? ⟨gb165, 3, none⟩ = some (.bool a0_3) ∧ w'.cell? ⟨gb165, 4, none⟩ = some (.bool a0_4) ∧ w'.cell? ⟨gb165, 5, none⟩ = some (.int .u16 a0_5) ∧ w'.cell? ⟨gb165, 6, none⟩ = some (.bool a0_6) ∧ w'.cell? ⟨gb165, 7, none⟩ = some (.int .u8 a0_7) ∧ w'.cell? ⟨gb165, 8, none⟩ = some (.bool false) ∧ w'.cell? ⟨gb165, 9, none⟩ = some (.int .u8 a0_9) ∧ w'.cell? ⟨gb165, 10, none⟩ = some (.bool a0_10) ∧ w'.cell? ⟨gb165, 11, none⟩ = some (.bool true) ∧ w'.cell? ⟨gb165, 12, none⟩ = some (.int .u8 a0_12)) (ds := []) #[false, false, false, false, false, false, false, false, false, false, false, false, false, false] (by kernel_rfl) rfl rfl ⟨(blk_cell BK165.out 0).trans rfl, (blk_cell BK165.out 1).trans rfl, (blk_cell BK165.out 2).trans rfl, (blk_cell BK165.out 3).trans rfl, (blk_cell BK165.out 4).trans rfl, (blk_cell BK165.out 5).trans rfl, (blk_cell BK165.out 6).trans rfl, (blk_cell BK165.out 7).trans rfl, (blk_cell BK165.out 8).trans rfl, (blk_cell BK165.out 9).trans rfl, (blk_cell BK165.out 10).trans rfl, (blk_cell BK165.out 11).trans rfl, (blk_cell BK165.out 12).trans rfl⟩ (fun hHeld => ?_); refine with_tabW easelref05_Put.tab14 easelref05_Put.bits14 (fun HT_ HW_ => ?_)
                                        generalize wc.drew = w71 at HO_7 BK165 HB hHeld ⊢
                                        refine pure_ (i := 0) (N := some 102) (v := ?_) (a' := ?_) #[true, false, false, false, false, false, false, false, false, false, false, false, false, false] rfl rfl (any_of HT_.out (by kernel_rfl)) (fun _ _ _ h => h) (Or.inl ⟨by rfl, ?_⟩) ?_ ?_
                                        rotate_left
                                        · intro w'
                                          go_simp
                                          with_reducible rfl
                                        rotate_left
                                        · simp only [Act.put, List.setIfInBounds_toArray, List.set_cons_zero, List.set_cons_succ, i64_w, i32_w]
                                          rfl
                                        refine pure_ (i := 1) (N := some 103) (v := ?_) (a' := ?_) #[true, true, false, false, false, false, false, false, false, false, false, false, false, false] rfl rfl (any_of HT_.out (by kernel_rfl)) (fun _ _ _ h => h) (Or.inl ⟨by rfl, ?_⟩) ?_ ?_
                                        rotate_left
                                        · intro w'
                                          go_simp
                                          with_reducible rfl
                                        rotate_left
                                        · simp only [Act.put, List.setIfInBounds_toArray, List.set_cons_zero, List.set_cons_succ, i64_w, i32_w]
                                          rfl
                                        refine pure_ (i := 4) (N := some 106) (v := ?_) (a' := ?_) #[true, true, false, false, true, false, false, false, false, false, false, false, false, false] rfl rfl (any_of HT_.out (by kernel_rfl)) (fun _ _ _ h => h) (Or.inl ⟨by rfl, ?_⟩) ?_ ?_
                                        rotate_left
                                        · intro w'
                                          go_simp
                                          with_reducible rfl
                                        rotate_left
                                        · simp only [Act.put, List.setIfInBounds_toArray, List.set_cons_zero, List.set_cons_succ, i64_w, i32_w]
                                          rfl
                                        refine pure_ (i := 8) (N := some 110) (v := ?_) (a' := ?_) #[true, true, false, false, true, false, false, false, true, false, false, false, false, false] rfl rfl (any_of HT_.out (by kernel_rfl)) (fun _ _ _ h => h) (Or.inl ⟨by rfl, ?_⟩) ?_ ?_
                                        rotate_left
                                        · intro w'
                                          go_simp
                                          with_reducible rfl
                                        rotate_left
                                        · simp only [Act.put, List.setIfInBounds_toArray, List.set_cons_zero, List.set_cons_succ, i64_w, i32_w]
                                          rfl
                                        refine take_ (i := 2) (N := some 104) (v := ?_) (a' := ?_) #[true, true, true, false, true, false, false, false, true, false, false, false, false, false] rfl rfl (take_ofW HT_.out HW_.out (by kernel_rfl)) (fun _ _ _ h => h) (Or.inl ⟨by rfl, ?_⟩) hHeld ?_ ?_
                                        rotate_left
                                        · rintro w' ⟨s0, s1, s2, s3, s4, s5, s6, s7, s8, s9, s10, s11, s12⟩
                                          go_simp
                                          with_reducible rfl
                                        rotate_left
                                        · simp only [Act.put, List.setIfInBounds_toArray, List.set_cons_zero, List.set_cons_succ, i64_w, i32_w]
                                          rfl
                                        refine pure_ (i := 3) (N := some 105) (v := ?_) (a' := ?_) #[true, true, true, true, true, false, false, false, true, false, false, false, false, false] rfl rfl (any_of HT_.out (by kernel_rfl)) (fun _ _ _ h => h) (Or.inl ⟨by rfl, ?_⟩) ?_ ?_
                                        rotate_left
                                        · intro w'
                                          go_simp
                                          with_reducible rfl
                                        rotate_left
                                        · simp only [Act.put, List.setIfInBounds_toArray, List.set_cons_zero, List.set_cons_succ, i64_w, i32_w]
                                          rfl
                                        refine take_ (i := 5) (N := some 107) (v := ?_) (a' := ?_) #[true, true, true, true, true, true, false, false, true, false, false, false, false, false] rfl rfl (take_ofW HT_.out HW_.out (by kernel_rfl)) (fun _ _ _ h => h) (Or.inl ⟨by rfl, ?_⟩) hHeld ?_ ?_
                                        rotate_left
                                        · rintro w' ⟨s0, s1, s2, s3, s4, s5, s6, s7, s8, s9, s10, s11, s12⟩
                                          go_simp
                                          with_reducible rfl
                                        rotate_left
                                        · simp only [Act.put, List.setIfInBounds_toArray, List.set_cons_zero, List.set_cons_succ, i64_w, i32_w]
                                          rfl
                                        refine take_ (i := 9) (N := some 111) (v := ?_) (a' := ?_) #[true, true, true, true, true, true, false, false, true, true, false, false, false, false] rfl rfl (take_ofW HT_.out HW_.out (by kernel_rfl)) (fun _ _ _ h => h) (Or.inl ⟨by rfl, ?_⟩) hHeld ?_ ?_
                                        rotate_left
                                        · rintro w' ⟨s0, s1, s2, s3, s4, s5, s6, s7, s8, s9, s10, s11, s12⟩
                                          go_simp
                                          with_reducible rfl
                                        rotate_left
                                        · simp only [Act.put, List.setIfInBounds_toArray, List.set_cons_zero, List.set_cons_succ, i64_w, i32_w]
                                          rfl
                                        refine one_ (i := 6) (N := some 108) #[true, true, true, true, true, true, true, false, true, true, false, false, false, false] rfl rfl (one_of HT_.out (by kernel_rfl)) (by decide) (fun K hK => ?_)
                                        refine goes_ Try.func53 (by kernel_rfl) rfl #[.bool a0_10, .int .u8 32] (by rfl) rfl rfl (by (try simp only [List.map_toArray, List.map_cons, List.map_nil]); first | done | rfl | (simp only [List.length_drop, List.length_take]; rfl)) ?_
                                        with_reducible refine (easelref05_bit.calls a0_10 32 t199 _ A67.out).mono ?_
                                        rintro e w' ⟨rfl, ⟨nd, rfl⟩⟩
                                        refine ⟨_, rfl, ?_⟩
                                        refine hK.out _ _ ⟨(blk_cell BK165.out 0).trans rfl, (blk_cell BK165.out 1).trans rfl, (blk_cell BK165.out 2).trans rfl, (blk_cell BK165.out 3).trans rfl, (blk_cell BK165.out 4).trans rfl, (blk_cell BK165.out 5).trans rfl, (blk_cell BK165.out 6).trans rfl, (blk_cell BK165.out 7).trans rfl, (blk_cell BK165.out 8).trans rfl, (blk_cell BK165.out 9).trans rfl, (blk_cell BK165.out 10).trans rfl, (blk_cell BK165.out 11).trans rfl, (blk_cell BK165.out 12).trans rfl⟩ (fun hHeld => ?_)
                                        clear hK K
                                        refine norm_ (a' := ?_) ?_ ?_
                                        rotate_left
                                        · show Act.put _ (some 108) _ = _
                                          simp only [Act.put, List.setIfInBounds_toArray, List.set_cons_zero, List.set_cons_succ, i64_w, i32_w]
                                          rfl
                                        refine pure_ (i := 7) (N := some 109) (v := ?_) (a' := ?_) #[true, true, true, true, true, true, true, true, true, true, false, false, false, false] rfl rfl (any_of HT_.out (by kernel_rfl)) (fun _ _ _ h => h) (Or.inl ⟨by rfl, ?_⟩) ?_ ?_
                                        rotate_left
                                        · intro w'
                                          go_simp
                                          with_reducible rfl
                                        rotate_left
                                        · simp only [Act.put, List.setIfInBounds_toArray, List.set_cons_zero, List.set_cons_succ, i64_w, i32_w]
                                          rfl
                                        refine pure_ (i := 10) (N := some 112) (v := ?_) (a' := ?_) #[true, true, true, true, true, true, true, true, true, true, true, false, false, false] rfl rfl (any_of HT_.out (by kernel_rfl)) (fun _ _ _ h => h) (Or.inl ⟨by rfl, ?_⟩) ?_ ?_
                                        rotate_left
                                        · intro w'
                                          go_simp
                                          with_reducible rfl
                                        rotate_left
                                        · simp only [Act.put, List.setIfInBounds_toArray, List.set_cons_zero, List.set_cons_succ, i64_w, i32_w]
                                          rfl
                                        refine one_ (i := 11) (N := some 113) #[true, true, true, true, true, true, true, true, true, true, true, true, false, false] rfl rfl (one_of HT_.out (by kernel_rfl)) (by decide) (fun K hK => ?_)
                                        refine value_ (w1 := ?_) (v := ?_) (by rfl) rfl ?_ ?_
                                        rotate_left 2
                                        · go_simp
                                          constructor
                                          · rfl
                                          · rfl
                                        refine hK.out _ _ ⟨(blk_cell (blk_alloc BK165.out _) 0).trans rfl, (blk_cell (blk_alloc BK165.out _) 1).trans rfl, (blk_cell (blk_alloc BK165.out _) 2).trans rfl, (blk_cell (blk_alloc BK165.out _) 3).trans rfl, (blk_cell (blk_alloc BK165.out _) 4).trans rfl, (blk_cell (blk_alloc BK165.out _) 5).trans rfl, (blk_cell (blk_alloc BK165.out _) 6).trans rfl, (blk_cell (blk_alloc BK165.out _) 7).trans rfl, (blk_cell (blk_alloc BK165.out _) 8).trans rfl, (blk_cell (blk_alloc BK165.out _) 9).trans rfl, (blk_cell (blk_alloc BK165.out _) 10).trans rfl, (blk_cell (blk_alloc BK165.out _) 11).trans rfl, (blk_cell (blk_alloc BK165.out _) 12).trans rfl⟩ (fun hHeld => ?_)
                                        clear hK K
                                        refine norm_ (a' := ?_) ?_ ?_
                                        rotate_left
                                        · show Act.put _ (some 113) _ = _
                                          simp only [Act.put, List.setIfInBounds_toArray, List.set_cons_zero, List.set_cons_succ, i64_w, i32_w]
                                          rfl
                                        refine one_ (i := 12) (N := some 114) #[true, true, true, true, true, true, true, true, true, true, true, true, true, false] rfl rfl (one_of HT_.out (by kernel_rfl)) (by decide) (fun K hK => ?_)
                                        refine Kd.R_append_step (Kd.int .u8) (w0 := w) w.heap.size (by rfl) (.tmp 102) (.tmp 113) 22 5 (.int .u8 0) 1 rfl Try.underlying22 info5 rfl (by decide) (by omega) u7 x7_51 ((((((a0_9 * 64) % 256) + t199) % 256) + a0_12) % 256) [.int .u8 ((((((a0_9 * 64) % 256) + t199) % 256) + a0_12) % 256)] (fun _ => True) (fun _ => False) rfl rfl ?aP (fun _ hk => hk.elim) ?aF ?aO ?aB ?aS ?aL ?_
                                        (case aP => exact rfl)
                                        (case aB => exact (by repeat (first | (with_reducible first | exact HB.out | apply below_alloc | apply pw_below_drewN | apply below_drew1 | refine below_set ?_ GE165.out) | exact HB.out)))
                                        (case aF => exact (fun _ _ => trivial))
                                        (case aO => exact (by (with_reducible repeat (first | apply Kd.R_alloc | apply Kd.R_drewN | apply Kd.R_drew)); exact HO_7.out))
                                        (case aS => exact (below_size (by repeat (first | (with_reducible first | exact HB.out | apply below_alloc | apply pw_below_drewN | apply below_drew1 | refine below_set ?_ GE165.out) | exact HB.out))))
                                        (case aL => have := LMc68.out; omega)
                                        intro v201 w72 ho hb hg hat
                                        rw [← Ny200.out] at ho
                                        have n0_ := Aside0.mk (blk_grown (g := gb165) (o := .cells #[.bool a0_0, .bool a0_1, .int .u8 a0_2, .bool a0_3, .bool a0_4, .int .u16 a0_5, .bool a0_6, .int .u8 a0_7, .bool false, .int .u8 a0_9, .bool a0_10, .bool true, .int .u8 a0_12] 27 (0, 0)) (by (with_reducible repeat (first | refine blk_drewN ?_ _ | refine blk_drew ?_ | refine blk_alloc ?_ _)); exact BK165.out) hg (Kd.R_ne HO_7.out BK165.out (by decide)))
                                        have n1_ := Aside0.mk (hb)
                                        have n2_ := Aside0.mk (ho)
                                        clear BK165
                                        clear HB
                                        clear HO_7
                                        have BK165 := n0_
                                        have HB := n1_
                                        have HO202 := n2_
                                        clear n0_ n1_ n2_
                                        clear ho hb hg hat
                                        refine hK.out _ _ ⟨(blk_cell BK165.out 0).trans rfl, (blk_cell BK165.out 1).trans rfl, (blk_cell BK165.out 2).trans rfl, (blk_cell BK165.out 3).trans rfl, (blk_cell BK165.out 4).trans rfl, (blk_cell BK165.out 5).trans rfl, (blk_cell BK165.out 6).trans rfl, (blk_cell BK165.out 7).trans rfl, (blk_cell BK165.out 8).trans rfl, (blk_cell BK165.out 9).trans rfl, (blk_cell BK165.out 10).trans rfl, (blk_cell BK165.out 11).trans rfl, (blk_cell BK165.out 12).trans rfl⟩ (fun hHeld => ?_)
                                        clear hK K
                                        refine norm_ (a' := ?_) ?_ ?_
                                        rotate_left
                                        · show Act.put _ (some 114) _ = _
                                          simp only [Act.put, List.setIfInBounds_toArray, List.set_cons_zero, List.set_cons_succ, i64_w, i32_w]
                                          rfl
                                        refine pure_ (i := 13) (N := some 7) (v := ?_) (a' := ?_) #[true, true, true, true, true, true, true, true, true, true, true, true, true, true] rfl rfl (any_of HT_.out (by kernel_rfl)) (fun _ _ _ h => h) (Or.inl ⟨by rfl, ?_⟩) ?_ ?_
                                        rotate_left
                                        · intro w'
                                          go_simp
                                          with_reducible rfl
                                        rotate_left
                                        · simp only [Act.put, List.setIfInBounds_toArray, List.set_cons_zero, List.set_cons_succ, i64_w, i32_w]
                                          rfl
                                        refine done_ (done_of HT_.out (by kernel_rfl)) ?_
                                        try go_wp2_with (first | ((with_reducible refine gate_builtin (b := .append) (xs := #[.tmp 115, .tmp 116]) rfl ?_); at_builtin; refine Kd.R_append_rows (Kd.int .u8) (w0 := w) w.heap.size rfl (.tmp 115) (.tmp 116) 22 5 (.int .u8 0) 1 rfl Try.underlying22 info5 rfl (by decide) (by omega) v201 y200 l1 _ _ _ (fun _ => True) (fun _ => False) rfl rfl ?aO ?aR (fun _ _ h => h) (fun _ h => h.elim) ?aF ?aB ?aS ?aL ?_; (case aR => repeat (first | exact (Kd.C_below HR1.out HB.out) | (with_reducible refine Kd.C_alloc ?_ _) | (with_reducible refine Kd.C_drewN ?_ _) | (with_reducible refine Kd.C_drew ?_))); (case aB => exact (by repeat (first | (with_reducible first | exact HB.out | apply below_alloc | apply pw_below_drewN | apply below_drew1 | refine below_set ?_ GE165.out) | exact HB.out))); (case aF => exact (fun _ _ => trivial)); (case aO => exact (by (with_reducible repeat (first | apply Kd.R_alloc | apply Kd.R_drewN | apply Kd.R_drew)); exact HO202.out)); (case aS => exact (below_size (by repeat (first | (with_reducible first | exact HB.out | apply below_alloc | apply pw_below_drewN | apply below_drew1 | refine below_set ?_ GE165.out) | exact HB.out)))); (case aL => have := LMc69.out; omega); intro v204 w73 ho hb hg hat; rw [← Ny203.out] at ho; have n0_ := Aside0.mk (blk_grown (g := gb165) (o := .cells #[.bool a0_0, .bool a0_1, .int .u8 a0_2, .bool a0_3, .bool a0_4, .int .u16 a0_5, .bool a0_6, .int .u8 a0_7, .bool false, .int .u8 a0_9, .bool a0_10, .bool true, .int .u8 a0_12] 27 (0, 0)) (by (with_reducible repeat (first | refine blk_drewN ?_ _ | refine blk_drew ?_ | refine blk_alloc ?_ _)); exact BK165.out) hg (Kd.R_ne HO202.out BK165.out (by decide))); have n1_ := Aside0.mk (hb); have n2_ := Aside0.mk (ho); clear BK165; clear HB; clear HO202; have BK165 := n0_; have HB := n1_; have HO205 := n2_; clear n0_ n1_ n2_; clear ho hb hg hat))
                                        go_ret2
                                        exact ⟨_, by first | rfl | (simp [errW_none, errW_some] <;> rfl) | (simp [*, errW_none, errW_some] <;> rfl), by (with_reducible repeat (first | apply Kd.R_alloc | apply Kd.R_drewN | apply Kd.R_drew)); exact HO205.out, by repeat (first | (with_reducible first | exact HB.out | apply below_alloc | apply pw_below_drewN | apply below_drew1 | refine below_set ?_ GE165.out) | exact HB.out)⟩
                                      · rw [if_neg c69] at H
                                        exact absurd H (by simp)
                                    · rw [if_neg c68] at H
                                      exact absurd H (by simp)
                                  · replace c66 := Bool.eq_false_iff.mpr c66
                                    subst c66
                                    have H1 : (if x7_51.length + l1.length < 140737488355328 then (some ((x7_51 ++ l1), 0)) else (none)) = some (r1, r2) := by rw [if_neg (show ¬ (false = true) by decide)] at H; exact H
                                    clear H
                                    have H := H1
                                    clear H1
                                    by_cases c74 : x7_51.length + l1.length < 140737488355328
                                    · rw [if_pos c74] at H
                                      have LMc74 := Aside0.mk c74
                                      clear c74
                                      obtain ⟨y206, hy206⟩ : ∃ y_ : List Int, y_ = (x7_51 ++ l1) := ⟨_, rfl⟩
                                      replace H : (some (y206, 0)) = some (r1, r2) := by first | (rw [hy206]; with_reducible exact H) | (have H2_ := (Option.bind_some _ _).symm.trans H; rw [hy206]; with_reducible exact H2_) | (have H2_ := (Option.bind_some _ _).symm.trans H; with_reducible exact H2_) | with_reducible exact H | (rw [hy206]; exact H) | exact H
                                      have Ny206 := Aside0.mk hy206
                                      clear hy206
                                      simp only [Option.some.injEq, Prod.mk.injEq] at H
                                      obtain ⟨rfl, rfl⟩ := H
                                      have hcz75_0 : wc.cell? ⟨gb165, 0, none⟩ = some (.bool a0_0) := (blk_cell BK165.out 0).trans rfl
                                      have hcz75_1 : wc.cell? ⟨gb165, 1, none⟩ = some (.bool a0_1) := (blk_cell BK165.out 1).trans rfl
                                      have hcz75_2 : wc.cell? ⟨gb165, 2, none⟩ = some (.int .u8 a0_2) := (blk_cell BK165.out 2).trans rfl
                                      have hcz75_3 : wc.cell? ⟨gb165, 3, none⟩ = some (.bool a0_3) := (blk_cell BK165.out 3).trans rfl
                                      have hcz75_4 : wc.cell? ⟨gb165, 4, none⟩ = some (.bool a0_4) := (blk_cell BK165.out 4).trans rfl
                                      have hcz75_5 : wc.cell? ⟨gb165, 5, none⟩ = some (.int .u16 a0_5) := (blk_cell BK165.out 5).trans rfl
                                      have hcz75_6 : wc.cell? ⟨gb165, 6, none⟩ = some (.bool a0_6) := (blk_cell BK165.out 6).trans rfl
                                      have hcz75_7 : wc.cell? ⟨gb165, 7, none⟩ = some (.int .u8 a0_7) := (blk_cell BK165.out 7).trans rfl
                                      have hcz75_8 : wc.cell? ⟨gb165, 8, none⟩ = some (.bool false) := (blk_cell BK165.out 8).trans rfl
                                      have hcz75_9 : wc.cell? ⟨gb165, 9, none⟩ = some (.int .u8 a0_9) := (blk_cell BK165.out 9).trans rfl
                                      have hcz75_10 : wc.cell? ⟨gb165, 10, none⟩ = some (.bool a0_10) := (blk_cell BK165.out 10).trans rfl
                                      have hcz75_11 : wc.cell? ⟨gb165, 11, none⟩ = some (.bool false) := (blk_cell BK165.out 11).trans rfl
                                      have hcz75_12 : wc.cell? ⟨gb165, 12, none⟩ = some (.int .u8 a0_12) := (blk_cell BK165.out 12).trans rfl
                                      have hfz75_0 := blk_frozen BK165.out 0
                                      have hfz75_1 := blk_frozen BK165.out 1
                                      have hfz75_2 := blk_frozen BK165.out 2
                                      have hfz75_3 := blk_frozen BK165.out 3
                                      have hfz75_4 := blk_frozen BK165.out 4
                                      have hfz75_5 := blk_frozen BK165.out 5
                                      have hfz75_6 := blk_frozen BK165.out 6
                                      have hfz75_7 := blk_frozen BK165.out 7
                                      have hfz75_8 := blk_frozen BK165.out 8
                                      have hfz75_9 := blk_frozen BK165.out 9
                                      have hfz75_10 := blk_frozen BK165.out 10
                                      have hfz75_11 := blk_frozen BK165.out 11
                                      have hfz75_12 := blk_frozen BK165.out 12
                                      go_wp2_with (first | ((with_reducible refine gate_builtin (b := .append) (xs := #[.tmp 115, .tmp 116]) rfl ?_); at_builtin; refine Kd.R_append_rows (Kd.int .u8) (w0 := w) w.heap.size rfl (.tmp 115) (.tmp 116) 22 5 (.int .u8 0) 1 rfl Try.underlying22 info5 rfl (by decide) (by omega) u7 x7_51 l1 _ _ _ (fun _ => True) (fun _ => False) rfl rfl ?aO ?aR (fun _ _ h => h) (fun _ h => h.elim) ?aF ?aB ?aS ?aL ?_; (case aR => repeat (first | exact (Kd.C_below HR1.out HB.out) | (with_reducible refine Kd.C_alloc ?_ _) | (with_reducible refine Kd.C_drewN ?_ _) | (with_reducible refine Kd.C_drew ?_))); (case aB => exact (by repeat (first | (with_reducible first | exact HB.out | apply below_alloc | apply pw_below_drewN | apply below_drew1 | refine below_set ?_ GE165.out) | exact HB.out))); (case aF => exact (fun _ _ => trivial)); (case aO => exact (by (with_reducible repeat (first | apply Kd.R_alloc | apply Kd.R_drewN | apply Kd.R_drew)); exact HO_7.out)); (case aS => exact (below_size (by repeat (first | (with_reducible first | exact HB.out | apply below_alloc | apply pw_below_drewN | apply below_drew1 | refine below_set ?_ GE165.out) | exact HB.out)))); (case aL => have := LMc74.out; omega); intro v207 w76 ho hb hg hat; rw [← Ny206.out] at ho; have n0_ := Aside0.mk (blk_grown (g := gb165) (o := .cells #[.bool a0_0, .bool a0_1, .int .u8 a0_2, .bool a0_3, .bool a0_4, .int .u16 a0_5, .bool a0_6, .int .u8 a0_7, .bool false, .int .u8 a0_9, .bool a0_10, .bool false, .int .u8 a0_12] 27 (0, 0)) (by (with_reducible repeat (first | refine blk_drewN ?_ _ | refine blk_drew ?_ | refine blk_alloc ?_ _)); exact BK165.out) hg (Kd.R_ne HO_7.out BK165.out (by decide))); have n1_ := Aside0.mk (hb); have n2_ := Aside0.mk (ho); clear BK165; clear HB; clear HO_7; have BK165 := n0_; have HB := n1_; have HO208 := n2_; clear n0_ n1_ n2_; clear ho hb hg hat))
                                      go_ret2
                                      exact ⟨_, by first | rfl | (simp [errW_none, errW_some] <;> rfl) | (simp [*, errW_none, errW_some] <;> rfl), by (with_reducible repeat (first | apply Kd.R_alloc | apply Kd.R_drewN | apply Kd.R_drew)); exact HO208.out, by repeat (first | (with_reducible first | exact HB.out | apply below_alloc | apply pw_below_drewN | apply below_drew1 | refine below_set ?_ GE165.out) | exact HB.out)⟩
                                    · rw [if_neg c74] at H
                                      exact absurd H (by simp)
  · replace c4 := Bool.eq_false_iff.mpr c4
    subst c4
    have H1 : (some (([] : List Int), 50)) = some (r1, r2) := by rw [if_neg (show ¬ (false = true) by decide)] at H; exact H
    clear H
    have H := H1
    clear H1
    simp only [Option.some.injEq, Prod.mk.injEq] at H
    obtain ⟨rfl, rfl⟩ := H
    go_enter Try.func21, Try.ntmps21
    go_wp2_with (first | ((with_reducible refine gate_dst (N := 2) rfl ?_); refine box_event ?hg (N := 2) ?hd (cs := #[.bool a0_0, .bool a0_1, .int .u8 a0_2, .bool a0_3, .bool a0_4, .int .u16 a0_5, .bool a0_6, .int .u8 a0_7, .bool a0_8, .int .u8 a0_9, .bool a0_10, .bool a0_11, .int .u8 a0_12]) (t := 27) ?hr ?_; (case hd => rfl); (case hg => rfl); (case hr => first | (go_simp; done) | (go_simp; rfl) | (go_simp; simp only [IntKind.wrap_u8, Int.emod_add_emod, Int.add_emod_emod, Int.emod_emod_of_dvd, Int.emod_emod]; done) | (go_simp; simp only [IntKind.wrap_u8, Int.emod_add_emod, Int.add_emod_emod, Int.emod_emod_of_dvd, Int.emod_emod]; rfl)); intro gb165 hg w77 hbox hb; have n0_ := Aside0.mk (below_step (by repeat (first | (with_reducible first | exact HB.out | apply below_alloc | apply pw_below_drewN | apply below_drew1) | exact HB.out)) hb); have n1_ := Aside0.mk (hbox); have n2_ := Aside0.mk ((by rw [hg]; exact (below_size (by repeat (first | (with_reducible first | exact HB.out | apply below_alloc | apply pw_below_drewN | apply below_drew1) | exact HB.out))) : w.heap.size ≤ gb165)); have n3_ := Aside0.mk ((by rw [hg]; exact (below_size (by repeat (first | (with_reducible first | exact HB.out | apply below_alloc | apply pw_below_drewN | apply below_drew1) | exact HB.out))) : w.heap.size ≤ gb165)); clear HB; have HB := n0_; have BK165 := n1_; have GW165 := n2_; have GE165 := n3_; clear n0_ n1_ n2_ n3_; clear hb hbox hg; have hcz78_0 : w77.cell? ⟨gb165, 0, none⟩ = some (.bool a0_0) := (blk_cell BK165.out 0).trans rfl; have hcz78_1 : w77.cell? ⟨gb165, 1, none⟩ = some (.bool a0_1) := (blk_cell BK165.out 1).trans rfl; have hcz78_2 : w77.cell? ⟨gb165, 2, none⟩ = some (.int .u8 a0_2) := (blk_cell BK165.out 2).trans rfl; have hcz78_3 : w77.cell? ⟨gb165, 3, none⟩ = some (.bool a0_3) := (blk_cell BK165.out 3).trans rfl; have hcz78_4 : w77.cell? ⟨gb165, 4, none⟩ = some (.bool a0_4) := (blk_cell BK165.out 4).trans rfl; have hcz78_5 : w77.cell? ⟨gb165, 5, none⟩ = some (.int .u16 a0_5) := (blk_cell BK165.out 5).trans rfl; have hcz78_6 : w77.cell? ⟨gb165, 6, none⟩ = some (.bool a0_6) := (blk_cell BK165.out 6).trans rfl; have hcz78_7 : w77.cell? ⟨gb165, 7, none⟩ = some (.int .u8 a0_7) := (blk_cell BK165.out 7).trans rfl; have hcz78_8 : w77.cell? ⟨gb165, 8, none⟩ = some (.bool a0_8) := (blk_cell BK165.out 8).trans rfl; have hcz78_9 : w77.cell? ⟨gb165, 9, none⟩ = some (.int .u8 a0_9) := (blk_cell BK165.out 9).trans rfl; have hcz78_10 : w77.cell? ⟨gb165, 10, none⟩ = some (.bool a0_10) := (blk_cell BK165.out 10).trans rfl; have hcz78_11 : w77.cell? ⟨gb165, 11, none⟩ = some (.bool a0_11) := (blk_cell BK165.out 11).trans rfl; have hcz78_12 : w77.cell? ⟨gb165, 12, none⟩ = some (.int .u8 a0_12) := (blk_cell BK165.out 12).trans rfl; have hfz78_0 := blk_frozen BK165.out 0; have hfz78_1 := blk_frozen BK165.out 1; have hfz78_2 := blk_frozen BK165.out 2; have hfz78_3 := blk_frozen BK165.out 3; have hfz78_4 := blk_frozen BK165.out 4; have hfz78_5 := blk_frozen BK165.out 5; have hfz78_6 := blk_frozen BK165.out 6; have hfz78_7 := blk_frozen BK165.out 7; have hfz78_8 := blk_frozen BK165.out 8; have hfz78_9 := blk_frozen BK165.out 9; have hfz78_10 := blk_frozen BK165.out 10; have hfz78_11 := blk_frozen BK165.out 11; have hfz78_12 := blk_frozen BK165.out 12) | ((with_reducible refine gate_callee (f := 25) rfl ?_); refine goesL_ (some 9) rfl rfl Try.func25 (by kernel_rfl) rfl #[.agg #[.bool a0_0, .bool a0_1, .int .u8 a0_2, .bool a0_3, .bool a0_4, .int .u16 a0_5, .bool a0_6, .int .u8 a0_7, .bool a0_8, .int .u8 a0_9, .bool a0_10, .bool a0_11, .int .u8 a0_12]] rfl (by (try simp only [List.map_toArray, List.map_cons, List.map_nil]); first | done | rfl | (simp only [List.length_drop, List.length_take]; rfl)) ?_; (with_reducible refine (easelref05_Right.calls k a0_0 a0_1 a0_2 a0_3 a0_4 a0_5 a0_6 a0_7 a0_8 a0_9 a0_10 a0_11 a0_12 false _ A3.out).mono ?_); rintro e w79 ⟨rfl, hb⟩; refine ⟨_, rfl, ?_⟩; have n0_ := Aside0.mk (blk_below (g := gb165) (o := .cells #[.bool a0_0, .bool a0_1, .int .u8 a0_2, .bool a0_3, .bool a0_4, .int .u16 a0_5, .bool a0_6, .int .u8 a0_7, .bool a0_8, .int .u8 a0_9, .bool a0_10, .bool a0_11, .int .u8 a0_12] 27 (0, 0)) (by (with_reducible repeat (first | refine blk_drewN ?_ _ | refine blk_drew ?_ | refine blk_alloc ?_ _)); exact BK165.out) hb); have n1_ := Aside0.mk (below_step (by repeat (first | (with_reducible first | exact HB.out | apply below_alloc | apply pw_below_drewN | apply below_drew1 | refine below_set ?_ GE165.out) | exact HB.out)) hb); clear BK165; clear HB; have BK165 := n0_; have HB := n1_; clear n0_ n1_; (try clear hb); (try clear hb2); (try clear hk); (try clear hi)))
    go_ret2
    exact ⟨_, by first | rfl | (simp [errW_none, errW_some] <;> rfl) | (simp [*, errW_none, errW_some] <;> rfl), by first | exact Kd.R_nil _ _ _ _ _ | exact Kd.N_nil _ _ _ _ _ | exact Kd.V_nil _ _ _ _ _ | exact Kd.Q_nil _ _ _ _ _ | exact Kd.S_nil _ _ _ _ _, by repeat (first | (with_reducible first | exact HB.out | apply below_alloc | apply pw_below_drewN | apply below_drew1 | refine below_set ?_ GE165.out) | exact HB.out)⟩

end Go.Proofs.Ythgjhdcifdfhoaa.K5
