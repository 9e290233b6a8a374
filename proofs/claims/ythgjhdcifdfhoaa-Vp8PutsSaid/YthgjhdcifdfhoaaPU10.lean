/- Texts of this session, one behind the other, what the row does not use left out: walks and laws over plain data. -/
import Derived.Test.YthgjhdcifdfhoaaProg
import Derived.Below
import Derived.Deep.Draws
import Derived.Deep.AppendLies
import Derived.Maps.AppendAt
import Derived.OwnWalk
import Derived.Laws.BytesArg
import Derived.Laws.MakeOwn
import Derived.Laws.OwnMore
import Derived.Deep.OwnRows
import Derived.Tactics
import Derived.Lib.ConvBytes
import Derived.Laws.Slices
import Derived.WalkKit
import Derived.KernelRfl
import Derived.RowKit3
import Derived.Deep.LoopGhost
import Derived.Deep.QuietTactic
import Derived.BigQuiet
import Derived.WideLaws
import Derived.Deep.DeepCutAuto
import Derived.Deep.CutBlock
import Derived.Deep.RegionHeld3
import Derived.Laws.Rows
import Derived.Lib.AppendStr
import Derived.ArgAppend
import Derived.Laws.IdiomCopy
import Derived.OrdersHeld
import Derived.Laws.BitsLemmas
import Derived.RowKit
import Derived.Test.YthgjhdcifdfhoaaWWords
import Derived.Test.YthgjhdcifdfhoaaWLast
import Derived.Test.YthgjhdcifdfhoaaWTab
import Derived.Test.YthgjhdcifdfhoaaWApart
import Derived.Test.YthgjhdcifdfhoaaWArr
import Derived.Test.YthgjhdcifdfhoaaWFoot
import Derived.Test.YthgjhdcifdfhoaaWKept
import Derived.Test.YthgjhdcifdfhoaaWShare
import Derived.Test.YthgjhdcifdfhoaaWN
import Derived.Test.YthgjhdcifdfhoaaWEqStruct
import Derived.Test.YthgjhdcifdfhoaaWRepsOne
import Derived.Test.YthgjhdcifdfhoaaWInv
import Derived.Test.YthgjhdcifdfhoaaWMore

namespace Go.Proofs.Ythgjhdcifdfhoaa.K5
open Go.RowKit Go.Proofs.YthgjhdcifdfhoaaW.PrintWords Go.Proofs.YthgjhdcifdfhoaaW.PrintLast Go.Proofs.YthgjhdcifdfhoaaW.PrintMore
attribute [local go_sem] max2_int min2_int max_two min_two max_three min_three max_four min_four   -- for this text's walks alone
set_option linter.unusedVariables false
set_option linter.unusedSimpArgs false



def errW : Option Int → Value
  | none => .nilIface
  | some c => .iface 0 (.int .i64 c)
theorem errW_none : errW none = .nilIface := rfl
theorem errW_some (c : Int) : errW (some c) = .iface 0 (.int .i64 c) := rfl

theorem info5 : (Try.prog.info? 5).map (fun i => (i.zero, i.size, i.bytes)) = some (some (.int .u8 0), 1, 1) := by kernel_rfl
-- the values' own types
structure S31 where
  f0 : Bool
  f1 : Bool
  f2 : Int
  f3 : Bool
  f4 : Bool
  f5 : Int
  f6 : Bool
  f7 : Int
  f8 : Bool
  f9 : Int
  f10 : Bool
  f11 : Bool
  f12 : Int
def k31 : Kd S31 := Kd.iso (Kd.pair Kd.bool (Kd.pair Kd.bool (Kd.pair (Kd.int .u8) (Kd.pair Kd.bool (Kd.pair Kd.bool (Kd.pair (Kd.int .u16) (Kd.pair Kd.bool (Kd.pair (Kd.int .u8) (Kd.pair Kd.bool (Kd.pair (Kd.int .u8) (Kd.pair Kd.bool (Kd.pair Kd.bool (Kd.int .u8))))))))))))) (fun x : S31 => (x.f0, x.f1, x.f2, x.f3, x.f4, x.f5, x.f6, x.f7, x.f8, x.f9, x.f10, x.f11, x.f12))
theorem k31_open {w : World} {x : S31} {cs : List Value} (h : k31.K w x cs) : cs = [.bool x.f0, .bool x.f1, .int .u8 x.f2, .bool x.f3, .bool x.f4, .int .u16 x.f5, .bool x.f6, .int .u8 x.f7, .bool x.f8, .int .u8 x.f9, .bool x.f10, .bool x.f11, .int .u8 x.f12] := by
  obtain ⟨_, _, rfl, rfl, ⟨_, _, rfl, rfl, ⟨_, _, rfl, rfl, ⟨_, _, rfl, rfl, ⟨_, _, rfl, rfl, ⟨_, _, rfl, rfl, ⟨_, _, rfl, rfl, ⟨_, _, rfl, rfl, ⟨_, _, rfl, rfl, ⟨_, _, rfl, rfl, ⟨_, _, rfl, rfl, ⟨_, _, rfl, rfl, rfl⟩⟩⟩⟩⟩⟩⟩⟩⟩⟩⟩⟩ := h
  exact rfl
end Go.Proofs.Ythgjhdcifdfhoaa.K5

namespace Go.Proofs.Ythgjhdcifdfhoaa.K5
open Go.RowKit Go.Proofs.YthgjhdcifdfhoaaW.PrintWords Go.Proofs.YthgjhdcifdfhoaaW.PrintLast Go.Proofs.YthgjhdcifdfhoaaW.PrintMore
attribute [local go_sem] max2_int min2_int max_two min_two max_three min_three max_four min_four   -- for this text's walks alone
set_option linter.unusedVariables false
set_option linter.unusedSimpArgs false

def easelref05_Right.j0 : Nat → Bool → Bool → Bool → Int → Bool → Bool → Int → Bool → Int → Bool → Int → Bool → Bool → Int → Option (Bool)
  | 0, _, _, _, _, _, _, _, _, _, _, _, _, _, _ => none
  | k + 1, x30, x165000, x165001, x165002, x165003, x165004, x165005, x165006, x165007, x165008, x165009, x165010, x165011, x165012 => if x30 = true then (some false) else (if x165003 = true then (if x165006 = true then (if x165008 = true then (if x165011 = true then (some true) else (some (x165012 == 0))) else (if x165009 = 0 then (if x165010 = true then (some false) else (if x165011 = true then (some true) else (some (x165012 == 0)))) else (some false))) else (if x165007 = 0 then (if x165008 = true then (if x165011 = true then (some true) else (some (x165012 == 0))) else (if x165009 = 0 then (if x165010 = true then (some false) else (if x165011 = true then (some true) else (some (x165012 == 0)))) else (some false))) else (some false))) else (if x165004 = true then (some false) else (if x165005 = 0 then (if x165006 = true then (if x165008 = true then (if x165011 = true then (some true) else (some (x165012 == 0))) else (if x165009 = 0 then (if x165010 = true then (some false) else (if x165011 = true then (some true) else (some (x165012 == 0)))) else (some false))) else (if x165007 = 0 then (if x165008 = true then (if x165011 = true then (some true) else (some (x165012 == 0))) else (if x165009 = 0 then (if x165010 = true then (some false) else (if x165011 = true then (some true) else (some (x165012 == 0)))) else (some false))) else (some false))) else (some false))))
def easelref05_Right.f (k : Nat) (a0_0 : Bool) (a0_1 : Bool) (a0_2 : Int) (a0_3 : Bool) (a0_4 : Bool) (a0_5 : Int) (a0_6 : Bool) (a0_7 : Int) (a0_8 : Bool) (a0_9 : Int) (a0_10 : Bool) (a0_11 : Bool) (a0_12 : Int) : Option (Bool) := if a0_2 > 7 then (easelref05_Right.j0 k true a0_0 a0_1 a0_2 a0_3 a0_4 a0_5 a0_6 a0_7 a0_8 a0_9 a0_10 a0_11 a0_12) else (if a0_5 > 32767 then (easelref05_Right.j0 k true a0_0 a0_1 a0_2 a0_3 a0_4 a0_5 a0_6 a0_7 a0_8 a0_9 a0_10 a0_11 a0_12) else (if a0_4 = true then (if a0_9 > 3 then (easelref05_Right.j0 k true a0_0 a0_1 a0_2 a0_3 a0_4 a0_5 a0_6 a0_7 a0_8 a0_9 a0_10 a0_11 a0_12) else (easelref05_Right.j0 k (decide (a0_12 > 31)) a0_0 a0_1 a0_2 a0_3 a0_4 a0_5 a0_6 a0_7 a0_8 a0_9 a0_10 a0_11 a0_12)) else (if a0_5 > 127 then (easelref05_Right.j0 k true a0_0 a0_1 a0_2 a0_3 a0_4 a0_5 a0_6 a0_7 a0_8 a0_9 a0_10 a0_11 a0_12) else (if a0_9 > 3 then (easelref05_Right.j0 k true a0_0 a0_1 a0_2 a0_3 a0_4 a0_5 a0_6 a0_7 a0_8 a0_9 a0_10 a0_11 a0_12) else (easelref05_Right.j0 k (decide (a0_12 > 31)) a0_0 a0_1 a0_2 a0_3 a0_4 a0_5 a0_6 a0_7 a0_8 a0_9 a0_10 a0_11 a0_12)))))
set_option maxHeartbeats 8000000 in
set_option maxRecDepth 100000 in
theorem easelref05_Right.calls (k : Nat) (a0_0 : Bool) (a0_1 : Bool) (a0_2 : Int) (a0_3 : Bool) (a0_4 : Bool) (a0_5 : Int) (a0_6 : Bool) (a0_7 : Int) (a0_8 : Bool) (a0_9 : Int) (a0_10 : Bool) (a0_11 : Bool) (a0_12 : Int) (r : Bool) (w : World) (h : easelref05_Right.f k a0_0 a0_1 a0_2 a0_3 a0_4 a0_5 a0_6 a0_7 a0_8 a0_9 a0_10 a0_11 a0_12 = some r) :
    Calls Try.prog 25 #[.agg #[.bool a0_0, .bool a0_1, .int .u8 a0_2, .bool a0_3, .bool a0_4, .int .u16 a0_5, .bool a0_6, .int .u8 a0_7, .bool a0_8, .int .u8 a0_9, .bool a0_10, .bool a0_11, .int .u8 a0_12]] w fun e w' => e = .returned (.bool r) ∧ Below w.heap.size w w' := by
  have hu27 := Try.underlying27
  have HB := Aside0.mk (Below.refl w.heap.size w)
  have H : (if a0_2 > 7 then (easelref05_Right.j0 k true a0_0 a0_1 a0_2 a0_3 a0_4 a0_5 a0_6 a0_7 a0_8 a0_9 a0_10 a0_11 a0_12) else (if a0_5 > 32767 then (easelref05_Right.j0 k true a0_0 a0_1 a0_2 a0_3 a0_4 a0_5 a0_6 a0_7 a0_8 a0_9 a0_10 a0_11 a0_12) else (if a0_4 = true then (if a0_9 > 3 then (easelref05_Right.j0 k true a0_0 a0_1 a0_2 a0_3 a0_4 a0_5 a0_6 a0_7 a0_8 a0_9 a0_10 a0_11 a0_12) else (easelref05_Right.j0 k (decide (a0_12 > 31)) a0_0 a0_1 a0_2 a0_3 a0_4 a0_5 a0_6 a0_7 a0_8 a0_9 a0_10 a0_11 a0_12)) else (if a0_5 > 127 then (easelref05_Right.j0 k true a0_0 a0_1 a0_2 a0_3 a0_4 a0_5 a0_6 a0_7 a0_8 a0_9 a0_10 a0_11 a0_12) else (if a0_9 > 3 then (easelref05_Right.j0 k true a0_0 a0_1 a0_2 a0_3 a0_4 a0_5 a0_6 a0_7 a0_8 a0_9 a0_10 a0_11 a0_12) else (easelref05_Right.j0 k (decide (a0_12 > 31)) a0_0 a0_1 a0_2 a0_3 a0_4 a0_5 a0_6 a0_7 a0_8 a0_9 a0_10 a0_11 a0_12)))))) = some r := h
  clear h
  have HC2 := Aside0.mk H
  clear H
  go_enter Try.func25, Try.ntmps25
  go_upto_region 1 with (first | ((with_reducible refine gate_dst (N := 1) rfl ?_); refine box_event ?hg (N := 1) ?hd (cs := #[.bool a0_0, .bool a0_1, .int .u8 a0_2, .bool a0_3, .bool a0_4, .int .u16 a0_5, .bool a0_6, .int .u8 a0_7, .bool a0_8, .int .u8 a0_9, .bool a0_10, .bool a0_11, .int .u8 a0_12]) (t := 27) ?hr ?_; (case hd => rfl); (case hg => rfl); (case hr => first | (go_simp; done) | (go_simp; rfl)); intro gb164 hg w3 hbox hb; have n0_ := Aside0.mk (below_step (by repeat (first | (with_reducible first | exact HB.out | apply below_alloc | apply pw_below_drewN | apply below_drew1) | exact HB.out)) hb); have n1_ := Aside0.mk (hbox); have n2_ := Aside0.mk ((by rw [hg]; exact (below_size (by repeat (first | (with_reducible first | exact HB.out | apply below_alloc | apply pw_below_drewN | apply below_drew1) | exact HB.out))) : w.heap.size ≤ gb164)); have n3_ := Aside0.mk ((by rw [hg]; exact (below_size (by repeat (first | (with_reducible first | exact HB.out | apply below_alloc | apply pw_below_drewN | apply below_drew1) | exact HB.out))) : w.heap.size ≤ gb164)); clear HB; have HB := n0_; have BK164 := n1_; have GW164 := n2_; have GE164 := n3_; clear n0_ n1_ n2_ n3_; clear hb hbox hg))
  (try simp only [Act.put, List.setIfInBounds_toArray, List.set_cons_zero, List.set_cons_succ])
  go_cut [30] (fun v30 wc => ∃ (kq : Nat) (x30_1 : Bool), v30 = .bool x30_1 ∧ Aside0 (easelref05_Right.j0 kq x30_1 a0_0 a0_1 a0_2 a0_3 a0_4 a0_5 a0_6 a0_7 a0_8 a0_9 a0_10 a0_11 a0_12 = some r) ∧ Aside0 (kq ≤ k) ∧ Aside0 (wc.heap[gb164]? = some (.cells #[.bool a0_0, .bool a0_1, .int .u8 a0_2, .bool a0_3, .bool a0_4, .int .u16 a0_5, .bool a0_6, .int .u8 a0_7, .bool a0_8, .int .u8 a0_9, .bool a0_10, .bool a0_11, .int .u8 a0_12] 27 (0, 0))) ∧ Aside0 (Below w.heap.size w wc))
  case first =>
    have H := HC2.out
    clear HC2
    by_cases c4 : a0_2 > 7
    · rw [if_pos c4] at H
      have c4b0 : decide (7 < a0_2) = true := decide_eq_true c4
      clear c4
      (first | rw [c4b0] | (simp only [i64_w, i32_w]; rw [c4b0]) | skip)
      have H' := Aside0.mk H
      clear H
      have hcz5_0 : w3.cell? ⟨gb164, 0, none⟩ = some (.bool a0_0) := (blk_cell BK164.out 0).trans rfl
      have hcz5_1 : w3.cell? ⟨gb164, 1, none⟩ = some (.bool a0_1) := (blk_cell BK164.out 1).trans rfl
      have hcz5_2 : w3.cell? ⟨gb164, 2, none⟩ = some (.int .u8 a0_2) := (blk_cell BK164.out 2).trans rfl
      have hcz5_3 : w3.cell? ⟨gb164, 3, none⟩ = some (.bool a0_3) := (blk_cell BK164.out 3).trans rfl
      have hcz5_4 : w3.cell? ⟨gb164, 4, none⟩ = some (.bool a0_4) := (blk_cell BK164.out 4).trans rfl
      have hcz5_5 : w3.cell? ⟨gb164, 5, none⟩ = some (.int .u16 a0_5) := (blk_cell BK164.out 5).trans rfl
      have hcz5_6 : w3.cell? ⟨gb164, 6, none⟩ = some (.bool a0_6) := (blk_cell BK164.out 6).trans rfl
      have hcz5_7 : w3.cell? ⟨gb164, 7, none⟩ = some (.int .u8 a0_7) := (blk_cell BK164.out 7).trans rfl
      have hcz5_8 : w3.cell? ⟨gb164, 8, none⟩ = some (.bool a0_8) := (blk_cell BK164.out 8).trans rfl
      have hcz5_9 : w3.cell? ⟨gb164, 9, none⟩ = some (.int .u8 a0_9) := (blk_cell BK164.out 9).trans rfl
      have hcz5_10 : w3.cell? ⟨gb164, 10, none⟩ = some (.bool a0_10) := (blk_cell BK164.out 10).trans rfl
      have hcz5_11 : w3.cell? ⟨gb164, 11, none⟩ = some (.bool a0_11) := (blk_cell BK164.out 11).trans rfl
      have hcz5_12 : w3.cell? ⟨gb164, 12, none⟩ = some (.int .u8 a0_12) := (blk_cell BK164.out 12).trans rfl
      have hfz5_0 := blk_frozen BK164.out 0
      have hfz5_1 := blk_frozen BK164.out 1
      have hfz5_2 := blk_frozen BK164.out 2
      have hfz5_3 := blk_frozen BK164.out 3
      have hfz5_4 := blk_frozen BK164.out 4
      have hfz5_5 := blk_frozen BK164.out 5
      have hfz5_6 := blk_frozen BK164.out 6
      have hfz5_7 := blk_frozen BK164.out 7
      have hfz5_8 := blk_frozen BK164.out 8
      have hfz5_9 := blk_frozen BK164.out 9
      have hfz5_10 := blk_frozen BK164.out 10
      have hfz5_11 := blk_frozen BK164.out 11
      have hfz5_12 := blk_frozen BK164.out 12
      go_wp2
      go_meet
      case rel => exact ⟨_, (true), (by first | rfl | (simp; done) | (simp [*]; done)), H', ⟨by first | omega | exact Nat.le_refl _⟩, ⟨by (with_reducible repeat (first | refine blk_drewN ?_ _ | refine blk_drew ?_ | refine blk_alloc ?_ _)); exact BK164.out⟩, ⟨by repeat (first | (with_reducible first | exact HB.out | apply below_alloc | apply pw_below_drewN | apply below_drew1 | refine below_set ?_ GE164.out) | exact HB.out)⟩⟩
    · rw [if_neg c4] at H
      have c4b0 : decide (7 < a0_2) = false := decide_eq_false c4
      clear c4
      (first | rw [c4b0] | (simp only [i64_w, i32_w]; rw [c4b0]) | skip)
      by_cases c6 : a0_5 > 32767
      · rw [if_pos c6] at H
        have c6b0 : decide (32767 < a0_5) = true := decide_eq_true c6
        clear c6
        have H' := Aside0.mk H
        clear H
        have hcz7_0 : w3.cell? ⟨gb164, 0, none⟩ = some (.bool a0_0) := (blk_cell BK164.out 0).trans rfl
        have hcz7_1 : w3.cell? ⟨gb164, 1, none⟩ = some (.bool a0_1) := (blk_cell BK164.out 1).trans rfl
        have hcz7_2 : w3.cell? ⟨gb164, 2, none⟩ = some (.int .u8 a0_2) := (blk_cell BK164.out 2).trans rfl
        have hcz7_3 : w3.cell? ⟨gb164, 3, none⟩ = some (.bool a0_3) := (blk_cell BK164.out 3).trans rfl
        have hcz7_4 : w3.cell? ⟨gb164, 4, none⟩ = some (.bool a0_4) := (blk_cell BK164.out 4).trans rfl
        have hcz7_5 : w3.cell? ⟨gb164, 5, none⟩ = some (.int .u16 a0_5) := (blk_cell BK164.out 5).trans rfl
        have hcz7_6 : w3.cell? ⟨gb164, 6, none⟩ = some (.bool a0_6) := (blk_cell BK164.out 6).trans rfl
        have hcz7_7 : w3.cell? ⟨gb164, 7, none⟩ = some (.int .u8 a0_7) := (blk_cell BK164.out 7).trans rfl
        have hcz7_8 : w3.cell? ⟨gb164, 8, none⟩ = some (.bool a0_8) := (blk_cell BK164.out 8).trans rfl
        have hcz7_9 : w3.cell? ⟨gb164, 9, none⟩ = some (.int .u8 a0_9) := (blk_cell BK164.out 9).trans rfl
        have hcz7_10 : w3.cell? ⟨gb164, 10, none⟩ = some (.bool a0_10) := (blk_cell BK164.out 10).trans rfl
        have hcz7_11 : w3.cell? ⟨gb164, 11, none⟩ = some (.bool a0_11) := (blk_cell BK164.out 11).trans rfl
        have hcz7_12 : w3.cell? ⟨gb164, 12, none⟩ = some (.int .u8 a0_12) := (blk_cell BK164.out 12).trans rfl
        have hfz7_0 := blk_frozen BK164.out 0
        have hfz7_1 := blk_frozen BK164.out 1
        have hfz7_2 := blk_frozen BK164.out 2
        have hfz7_3 := blk_frozen BK164.out 3
        have hfz7_4 := blk_frozen BK164.out 4
        have hfz7_5 := blk_frozen BK164.out 5
        have hfz7_6 := blk_frozen BK164.out 6
        have hfz7_7 := blk_frozen BK164.out 7
        have hfz7_8 := blk_frozen BK164.out 8
        have hfz7_9 := blk_frozen BK164.out 9
        have hfz7_10 := blk_frozen BK164.out 10
        have hfz7_11 := blk_frozen BK164.out 11
        have hfz7_12 := blk_frozen BK164.out 12
        go_wp2
        go_meet
        case rel => exact ⟨_, (true), (by first | rfl | (simp; done) | (simp [*]; done)), H', ⟨by first | omega | exact Nat.le_refl _⟩, ⟨by (with_reducible repeat (first | refine blk_drewN ?_ _ | refine blk_drew ?_ | refine blk_alloc ?_ _)); exact BK164.out⟩, ⟨by repeat (first | (with_reducible first | exact HB.out | apply below_alloc | apply pw_below_drewN | apply below_drew1 | refine below_set ?_ GE164.out) | exact HB.out)⟩⟩
      · rw [if_neg c6] at H
        have c6b0 : decide (32767 < a0_5) = false := decide_eq_false c6
        clear c6
        by_cases c8 : a0_4 = true
        · subst c8
          have H1 : (if a0_9 > 3 then (easelref05_Right.j0 k true a0_0 a0_1 a0_2 a0_3 true a0_5 a0_6 a0_7 a0_8 a0_9 a0_10 a0_11 a0_12) else (easelref05_Right.j0 k (decide (a0_12 > 31)) a0_0 a0_1 a0_2 a0_3 true a0_5 a0_6 a0_7 a0_8 a0_9 a0_10 a0_11 a0_12)) = some r := by rw [if_pos rfl] at H; exact H
          clear H
          have H := H1
          clear H1
          by_cases c9 : a0_9 > 3
          · rw [if_pos c9] at H
            have c9b0 : decide (3 < a0_9) = true := decide_eq_true c9
            clear c9
            have H' := Aside0.mk H
            clear H
            have hcz10_0 : w3.cell? ⟨gb164, 0, none⟩ = some (.bool a0_0) := (blk_cell BK164.out 0).trans rfl
            have hcz10_1 : w3.cell? ⟨gb164, 1, none⟩ = some (.bool a0_1) := (blk_cell BK164.out 1).trans rfl
            have hcz10_2 : w3.cell? ⟨gb164, 2, none⟩ = some (.int .u8 a0_2) := (blk_cell BK164.out 2).trans rfl
            have hcz10_3 : w3.cell? ⟨gb164, 3, none⟩ = some (.bool a0_3) := (blk_cell BK164.out 3).trans rfl
            have hcz10_4 : w3.cell? ⟨gb164, 4, none⟩ = some (.bool true) := (blk_cell BK164.out 4).trans rfl
            have hcz10_5 : w3.cell? ⟨gb164, 5, none⟩ = some (.int .u16 a0_5) := (blk_cell BK164.out 5).trans rfl
            have hcz10_6 : w3.cell? ⟨gb164, 6, none⟩ = some (.bool a0_6) := (blk_cell BK164.out 6).trans rfl
            have hcz10_7 : w3.cell? ⟨gb164, 7, none⟩ = some (.int .u8 a0_7) := (blk_cell BK164.out 7).trans rfl
            have hcz10_8 : w3.cell? ⟨gb164, 8, none⟩ = some (.bool a0_8) := (blk_cell BK164.out 8).trans rfl
            have hcz10_9 : w3.cell? ⟨gb164, 9, none⟩ = some (.int .u8 a0_9) := (blk_cell BK164.out 9).trans rfl
            have hcz10_10 : w3.cell? ⟨gb164, 10, none⟩ = some (.bool a0_10) := (blk_cell BK164.out 10).trans rfl
            have hcz10_11 : w3.cell? ⟨gb164, 11, none⟩ = some (.bool a0_11) := (blk_cell BK164.out 11).trans rfl
            have hcz10_12 : w3.cell? ⟨gb164, 12, none⟩ = some (.int .u8 a0_12) := (blk_cell BK164.out 12).trans rfl
            have hfz10_0 := blk_frozen BK164.out 0
            have hfz10_1 := blk_frozen BK164.out 1
            have hfz10_2 := blk_frozen BK164.out 2
            have hfz10_3 := blk_frozen BK164.out 3
            have hfz10_4 := blk_frozen BK164.out 4
            have hfz10_5 := blk_frozen BK164.out 5
            have hfz10_6 := blk_frozen BK164.out 6
            have hfz10_7 := blk_frozen BK164.out 7
            have hfz10_8 := blk_frozen BK164.out 8
            have hfz10_9 := blk_frozen BK164.out 9
            have hfz10_10 := blk_frozen BK164.out 10
            have hfz10_11 := blk_frozen BK164.out 11
            have hfz10_12 := blk_frozen BK164.out 12
            go_wp2
            go_meet
            case rel => exact ⟨_, (true), (by first | rfl | (simp; done) | (simp [*]; done)), H', ⟨by first | omega | exact Nat.le_refl _⟩, ⟨by (with_reducible repeat (first | refine blk_drewN ?_ _ | refine blk_drew ?_ | refine blk_alloc ?_ _)); exact BK164.out⟩, ⟨by repeat (first | (with_reducible first | exact HB.out | apply below_alloc | apply pw_below_drewN | apply below_drew1 | refine below_set ?_ GE164.out) | exact HB.out)⟩⟩
          · rw [if_neg c9] at H
            have c9b0 : decide (3 < a0_9) = false := decide_eq_false c9
            clear c9
            have H' := Aside0.mk H
            clear H
            have hcz11_0 : w3.cell? ⟨gb164, 0, none⟩ = some (.bool a0_0) := (blk_cell BK164.out 0).trans rfl
            have hcz11_1 : w3.cell? ⟨gb164, 1, none⟩ = some (.bool a0_1) := (blk_cell BK164.out 1).trans rfl
            have hcz11_2 : w3.cell? ⟨gb164, 2, none⟩ = some (.int .u8 a0_2) := (blk_cell BK164.out 2).trans rfl
            have hcz11_3 : w3.cell? ⟨gb164, 3, none⟩ = some (.bool a0_3) := (blk_cell BK164.out 3).trans rfl
            have hcz11_4 : w3.cell? ⟨gb164, 4, none⟩ = some (.bool true) := (blk_cell BK164.out 4).trans rfl
            have hcz11_5 : w3.cell? ⟨gb164, 5, none⟩ = some (.int .u16 a0_5) := (blk_cell BK164.out 5).trans rfl
            have hcz11_6 : w3.cell? ⟨gb164, 6, none⟩ = some (.bool a0_6) := (blk_cell BK164.out 6).trans rfl
            have hcz11_7 : w3.cell? ⟨gb164, 7, none⟩ = some (.int .u8 a0_7) := (blk_cell BK164.out 7).trans rfl
            have hcz11_8 : w3.cell? ⟨gb164, 8, none⟩ = some (.bool a0_8) := (blk_cell BK164.out 8).trans rfl
            have hcz11_9 : w3.cell? ⟨gb164, 9, none⟩ = some (.int .u8 a0_9) := (blk_cell BK164.out 9).trans rfl
            have hcz11_10 : w3.cell? ⟨gb164, 10, none⟩ = some (.bool a0_10) := (blk_cell BK164.out 10).trans rfl
            have hcz11_11 : w3.cell? ⟨gb164, 11, none⟩ = some (.bool a0_11) := (blk_cell BK164.out 11).trans rfl
            have hcz11_12 : w3.cell? ⟨gb164, 12, none⟩ = some (.int .u8 a0_12) := (blk_cell BK164.out 12).trans rfl
            have hfz11_0 := blk_frozen BK164.out 0
            have hfz11_1 := blk_frozen BK164.out 1
            have hfz11_2 := blk_frozen BK164.out 2
            have hfz11_3 := blk_frozen BK164.out 3
            have hfz11_4 := blk_frozen BK164.out 4
            have hfz11_5 := blk_frozen BK164.out 5
            have hfz11_6 := blk_frozen BK164.out 6
            have hfz11_7 := blk_frozen BK164.out 7
            have hfz11_8 := blk_frozen BK164.out 8
            have hfz11_9 := blk_frozen BK164.out 9
            have hfz11_10 := blk_frozen BK164.out 10
            have hfz11_11 := blk_frozen BK164.out 11
            have hfz11_12 := blk_frozen BK164.out 12
            go_wp2
            go_meet
            case rel => exact ⟨_, (decide (a0_12 > 31)), (by first | rfl | (simp; done) | (simp [*]; done)), H', ⟨by first | omega | exact Nat.le_refl _⟩, ⟨by (with_reducible repeat (first | refine blk_drewN ?_ _ | refine blk_drew ?_ | refine blk_alloc ?_ _)); exact BK164.out⟩, ⟨by repeat (first | (with_reducible first | exact HB.out | apply below_alloc | apply pw_below_drewN | apply below_drew1 | refine below_set ?_ GE164.out) | exact HB.out)⟩⟩
        · replace c8 := Bool.eq_false_iff.mpr c8
          subst c8
          have H1 : (if a0_5 > 127 then (easelref05_Right.j0 k true a0_0 a0_1 a0_2 a0_3 false a0_5 a0_6 a0_7 a0_8 a0_9 a0_10 a0_11 a0_12) else (if a0_9 > 3 then (easelref05_Right.j0 k true a0_0 a0_1 a0_2 a0_3 false a0_5 a0_6 a0_7 a0_8 a0_9 a0_10 a0_11 a0_12) else (easelref05_Right.j0 k (decide (a0_12 > 31)) a0_0 a0_1 a0_2 a0_3 false a0_5 a0_6 a0_7 a0_8 a0_9 a0_10 a0_11 a0_12))) = some r := by rw [if_neg (show ¬ (false = true) by decide)] at H; exact H
          clear H
          have H := H1
          clear H1
          by_cases c12 : a0_5 > 127
          · rw [if_pos c12] at H
            have c12b0 : decide (127 < a0_5) = true := decide_eq_true c12
            clear c12
            have H' := Aside0.mk H
            clear H
            have hcz13_0 : w3.cell? ⟨gb164, 0, none⟩ = some (.bool a0_0) := (blk_cell BK164.out 0).trans rfl
            have hcz13_1 : w3.cell? ⟨gb164, 1, none⟩ = some (.bool a0_1) := (blk_cell BK164.out 1).trans rfl
            have hcz13_2 : w3.cell? ⟨gb164, 2, none⟩ = some (.int .u8 a0_2) := (blk_cell BK164.out 2).trans rfl
            have hcz13_3 : w3.cell? ⟨gb164, 3, none⟩ = some (.bool a0_3) := (blk_cell BK164.out 3).trans rfl
            have hcz13_4 : w3.cell? ⟨gb164, 4, none⟩ = some (.bool false) := (blk_cell BK164.out 4).trans rfl
            have hcz13_5 : w3.cell? ⟨gb164, 5, none⟩ = some (.int .u16 a0_5) := (blk_cell BK164.out 5).trans rfl
            have hcz13_6 : w3.cell? ⟨gb164, 6, none⟩ = some (.bool a0_6) := (blk_cell BK164.out 6).trans rfl
            have hcz13_7 : w3.cell? ⟨gb164, 7, none⟩ = some (.int .u8 a0_7) := (blk_cell BK164.out 7).trans rfl
            have hcz13_8 : w3.cell? ⟨gb164, 8, none⟩ = some (.bool a0_8) := (blk_cell BK164.out 8).trans rfl
            have hcz13_9 : w3.cell? ⟨gb164, 9, none⟩ = some (.int .u8 a0_9) := (blk_cell BK164.out 9).trans rfl
            have hcz13_10 : w3.cell? ⟨gb164, 10, none⟩ = some (.bool a0_10) := (blk_cell BK164.out 10).trans rfl
            have hcz13_11 : w3.cell? ⟨gb164, 11, none⟩ = some (.bool a0_11) := (blk_cell BK164.out 11).trans rfl
            have hcz13_12 : w3.cell? ⟨gb164, 12, none⟩ = some (.int .u8 a0_12) := (blk_cell BK164.out 12).trans rfl
            have hfz13_0 := blk_frozen BK164.out 0
            have hfz13_1 := blk_frozen BK164.out 1
            have hfz13_2 := blk_frozen BK164.out 2
            have hfz13_3 := blk_frozen BK164.out 3
            have hfz13_4 := blk_frozen BK164.out 4
            have hfz13_5 := blk_frozen BK164.out 5
            have hfz13_6 := blk_frozen BK164.out 6
            have hfz13_7 := blk_frozen BK164.out 7
            have hfz13_8 := blk_frozen BK164.out 8
            have hfz13_9 := blk_frozen BK164.out 9
            have hfz13_10 := blk_frozen BK164.out 10
            have hfz13_11 := blk_frozen BK164.out 11
            have hfz13_12 := blk_frozen BK164.out 12
            go_wp2
            go_meet
            case rel => exact ⟨_, (true), (by first | rfl | (simp; done) | (simp [*]; done)), H', ⟨by first | omega | exact Nat.le_refl _⟩, ⟨by (with_reducible repeat (first | refine blk_drewN ?_ _ | refine blk_drew ?_ | refine blk_alloc ?_ _)); exact BK164.out⟩, ⟨by repeat (first | (with_reducible first | exact HB.out | apply below_alloc | apply pw_below_drewN | apply below_drew1 | refine below_set ?_ GE164.out) | exact HB.out)⟩⟩
          · rw [if_neg c12] at H
            have c12b0 : decide (127 < a0_5) = false := decide_eq_false c12
            clear c12
            by_cases c14 : a0_9 > 3
            · rw [if_pos c14] at H
              have c14b0 : decide (3 < a0_9) = true := decide_eq_true c14
              clear c14
              have H' := Aside0.mk H
              clear H
              have hcz15_0 : w3.cell? ⟨gb164, 0, none⟩ = some (.bool a0_0) := (blk_cell BK164.out 0).trans rfl
              have hcz15_1 : w3.cell? ⟨gb164, 1, none⟩ = some (.bool a0_1) := (blk_cell BK164.out 1).trans rfl
              have hcz15_2 : w3.cell? ⟨gb164, 2, none⟩ = some (.int .u8 a0_2) := (blk_cell BK164.out 2).trans rfl
              have hcz15_3 : w3.cell? ⟨gb164, 3, none⟩ = some (.bool a0_3) := (blk_cell BK164.out 3).trans rfl
              have hcz15_4 : w3.cell? ⟨gb164, 4, none⟩ = some (.bool false) := (blk_cell BK164.out 4).trans rfl
              have hcz15_5 : w3.cell? ⟨gb164, 5, none⟩ = some (.int .u16 a0_5) := (blk_cell BK164.out 5).trans rfl
              have hcz15_6 : w3.cell? ⟨gb164, 6, none⟩ = some (.bool a0_6) := (blk_cell BK164.out 6).trans rfl
              have hcz15_7 : w3.cell? ⟨gb164, 7, none⟩ = some (.int .u8 a0_7) := (blk_cell BK164.out 7).trans rfl
              have hcz15_8 : w3.cell? ⟨gb164, 8, none⟩ = some (.bool a0_8) := (blk_cell BK164.out 8).trans rfl
              have hcz15_9 : w3.cell? ⟨gb164, 9, none⟩ = some (.int .u8 a0_9) := (blk_cell BK164.out 9).trans rfl
              have hcz15_10 : w3.cell? ⟨gb164, 10, none⟩ = some (.bool a0_10) := (blk_cell BK164.out 10).trans rfl
              have hcz15_11 : w3.cell? ⟨gb164, 11, none⟩ = some (.bool a0_11) := (blk_cell BK164.out 11).trans rfl
              have hcz15_12 : w3.cell? ⟨gb164, 12, none⟩ = some (.int .u8 a0_12) := (blk_cell BK164.out 12).trans rfl
              have hfz15_0 := blk_frozen BK164.out 0
              have hfz15_1 := blk_frozen BK164.out 1
              have hfz15_2 := blk_frozen BK164.out 2
              have hfz15_3 := blk_frozen BK164.out 3
              have hfz15_4 := blk_frozen BK164.out 4
              have hfz15_5 := blk_frozen BK164.out 5
              have hfz15_6 := blk_frozen BK164.out 6
              have hfz15_7 := blk_frozen BK164.out 7
              have hfz15_8 := blk_frozen BK164.out 8
              have hfz15_9 := blk_frozen BK164.out 9
              have hfz15_10 := blk_frozen BK164.out 10
              have hfz15_11 := blk_frozen BK164.out 11
              have hfz15_12 := blk_frozen BK164.out 12
              go_wp2
              go_meet
              case rel => exact ⟨_, (true), (by first | rfl | (simp; done) | (simp [*]; done)), H', ⟨by first | omega | exact Nat.le_refl _⟩, ⟨by (with_reducible repeat (first | refine blk_drewN ?_ _ | refine blk_drew ?_ | refine blk_alloc ?_ _)); exact BK164.out⟩, ⟨by repeat (first | (with_reducible first | exact HB.out | apply below_alloc | apply pw_below_drewN | apply below_drew1 | refine below_set ?_ GE164.out) | exact HB.out)⟩⟩
            · rw [if_neg c14] at H
              have c14b0 : decide (3 < a0_9) = false := decide_eq_false c14
              clear c14
              have H' := Aside0.mk H
              clear H
              have hcz16_0 : w3.cell? ⟨gb164, 0, none⟩ = some (.bool a0_0) := (blk_cell BK164.out 0).trans rfl
              have hcz16_1 : w3.cell? ⟨gb164, 1, none⟩ = some (.bool a0_1) := (blk_cell BK164.out 1).trans rfl
              have hcz16_2 : w3.cell? ⟨gb164, 2, none⟩ = some (.int .u8 a0_2) := (blk_cell BK164.out 2).trans rfl
              have hcz16_3 : w3.cell? ⟨gb164, 3, none⟩ = some (.bool a0_3) := (blk_cell BK164.out 3).trans rfl
              have hcz16_4 : w3.cell? ⟨gb164, 4, none⟩ = some (.bool false) := (blk_cell BK164.out 4).trans rfl
              have hcz16_5 : w3.cell? ⟨gb164, 5, none⟩ = some (.int .u16 a0_5) := (blk_cell BK164.out 5).trans rfl
              have hcz16_6 : w3.cell? ⟨gb164, 6, none⟩ = some (.bool a0_6) := (blk_cell BK164.out 6).trans rfl
              have hcz16_7 : w3.cell? ⟨gb164, 7, none⟩ = some (.int .u8 a0_7) := (blk_cell BK164.out 7).trans rfl
              have hcz16_8 : w3.cell? ⟨gb164, 8, none⟩ = some (.bool a0_8) := (blk_cell BK164.out 8).trans rfl
              have hcz16_9 : w3.cell? ⟨gb164, 9, none⟩ = some (.int .u8 a0_9) := (blk_cell BK164.out 9).trans rfl
              have hcz16_10 : w3.cell? ⟨gb164, 10, none⟩ = some (.bool a0_10) := (blk_cell BK164.out 10).trans rfl
              have hcz16_11 : w3.cell? ⟨gb164, 11, none⟩ = some (.bool a0_11) := (blk_cell BK164.out 11).trans rfl
              have hcz16_12 : w3.cell? ⟨gb164, 12, none⟩ = some (.int .u8 a0_12) := (blk_cell BK164.out 12).trans rfl
              have hfz16_0 := blk_frozen BK164.out 0
              have hfz16_1 := blk_frozen BK164.out 1
              have hfz16_2 := blk_frozen BK164.out 2
              have hfz16_3 := blk_frozen BK164.out 3
              have hfz16_4 := blk_frozen BK164.out 4
              have hfz16_5 := blk_frozen BK164.out 5
              have hfz16_6 := blk_frozen BK164.out 6
              have hfz16_7 := blk_frozen BK164.out 7
              have hfz16_8 := blk_frozen BK164.out 8
              have hfz16_9 := blk_frozen BK164.out 9
              have hfz16_10 := blk_frozen BK164.out 10
              have hfz16_11 := blk_frozen BK164.out 11
              have hfz16_12 := blk_frozen BK164.out 12
              go_wp2
              go_meet
              case rel => exact ⟨_, (decide (a0_12 > 31)), (by first | rfl | (simp; done) | (simp [*]; done)), H', ⟨by first | omega | exact Nat.le_refl _⟩, ⟨by (with_reducible repeat (first | refine blk_drewN ?_ _ | refine blk_drew ?_ | refine blk_alloc ?_ _)); exact BK164.out⟩, ⟨by repeat (first | (with_reducible first | exact HB.out | apply below_alloc | apply pw_below_drewN | apply below_drew1 | refine below_set ?_ GE164.out) | exact HB.out)⟩⟩
  case rest =>
    clear HC2
    try clear c1
    try clear c2
    try clear p2
    try clear c4
    try clear c4b0
    try clear c6
    try clear c6b0
    try clear c8
    try clear c9
    try clear c9b0
    try clear c12
    try clear c12b0
    try clear c14
    try clear c14b0
    try clear hcz10_0
    try clear hcz10_1
    try clear hcz10_10
    try clear hcz10_11
    try clear hcz10_12
    try clear hcz10_2
    try clear hcz10_3
    try clear hcz10_4
    try clear hcz10_5
    try clear hcz10_6
    try clear hcz10_7
    try clear hcz10_8
    try clear hcz10_9
    try clear hcz11_0
    try clear hcz11_1
    try clear hcz11_10
    try clear hcz11_11
    try clear hcz11_12
    try clear hcz11_2
    try clear hcz11_3
    try clear hcz11_4
    try clear hcz11_5
    try clear hcz11_6
    try clear hcz11_7
    try clear hcz11_8
    try clear hcz11_9
    try clear hcz13_0
    try clear hcz13_1
    try clear hcz13_10
    try clear hcz13_11
    try clear hcz13_12
    try clear hcz13_2
    try clear hcz13_3
    try clear hcz13_4
    try clear hcz13_5
    try clear hcz13_6
    try clear hcz13_7
    try clear hcz13_8
    try clear hcz13_9
    try clear hcz15_0
    try clear hcz15_1
    try clear hcz15_10
    try clear hcz15_11
    try clear hcz15_12
    try clear hcz15_2
    try clear hcz15_3
    try clear hcz15_4
    try clear hcz15_5
    try clear hcz15_6
    try clear hcz15_7
    try clear hcz15_8
    try clear hcz15_9
    try clear hcz16_0
    try clear hcz16_1
    try clear hcz16_10
    try clear hcz16_11
    try clear hcz16_12
    try clear hcz16_2
    try clear hcz16_3
    try clear hcz16_4
    try clear hcz16_5
    try clear hcz16_6
    try clear hcz16_7
    try clear hcz16_8
    try clear hcz16_9
    try clear hcz5_0
    try clear hcz5_1
    try clear hcz5_10
    try clear hcz5_11
    try clear hcz5_12
    try clear hcz5_2
    try clear hcz5_3
    try clear hcz5_4
    try clear hcz5_5
    try clear hcz5_6
    try clear hcz5_7
    try clear hcz5_8
    try clear hcz5_9
    try clear hcz7_0
    try clear hcz7_1
    try clear hcz7_10
    try clear hcz7_11
    try clear hcz7_12
    try clear hcz7_2
    try clear hcz7_3
    try clear hcz7_4
    try clear hcz7_5
    try clear hcz7_6
    try clear hcz7_7
    try clear hcz7_8
    try clear hcz7_9
    try clear hfz10_0
    try clear hfz10_1
    try clear hfz10_10
    try clear hfz10_11
    try clear hfz10_12
    try clear hfz10_2
    try clear hfz10_3
    try clear hfz10_4
    try clear hfz10_5
    try clear hfz10_6
    try clear hfz10_7
    try clear hfz10_8
    try clear hfz10_9
    try clear hfz11_0
    try clear hfz11_1
    try clear hfz11_10
    try clear hfz11_11
    try clear hfz11_12
    try clear hfz11_2
    try clear hfz11_3
    try clear hfz11_4
    try clear hfz11_5
    try clear hfz11_6
    try clear hfz11_7
    try clear hfz11_8
    try clear hfz11_9
    try clear hfz13_0
    try clear hfz13_1
    try clear hfz13_10
    try clear hfz13_11
    try clear hfz13_12
    try clear hfz13_2
    try clear hfz13_3
    try clear hfz13_4
    try clear hfz13_5
    try clear hfz13_6
    try clear hfz13_7
    try clear hfz13_8
    try clear hfz13_9
    try clear hfz15_0
    try clear hfz15_1
    try clear hfz15_10
    try clear hfz15_11
    try clear hfz15_12
    try clear hfz15_2
    try clear hfz15_3
    try clear hfz15_4
    try clear hfz15_5
    try clear hfz15_6
    try clear hfz15_7
    try clear hfz15_8
    try clear hfz15_9
    try clear hfz16_0
    try clear hfz16_1
    try clear hfz16_10
    try clear hfz16_11
    try clear hfz16_12
    try clear hfz16_2
    try clear hfz16_3
    try clear hfz16_4
    try clear hfz16_5
    try clear hfz16_6
    try clear hfz16_7
    try clear hfz16_8
    try clear hfz16_9
    try clear hfz5_0
    try clear hfz5_1
    try clear hfz5_10
    try clear hfz5_11
    try clear hfz5_12
    try clear hfz5_2
    try clear hfz5_3
    try clear hfz5_4
    try clear hfz5_5
    try clear hfz5_6
    try clear hfz5_7
    try clear hfz5_8
    try clear hfz5_9
    try clear hfz7_0
    try clear hfz7_1
    try clear hfz7_10
    try clear hfz7_11
    try clear hfz7_12
    try clear hfz7_2
    try clear hfz7_3
    try clear hfz7_4
    try clear hfz7_5
    try clear hfz7_6
    try clear hfz7_7
    try clear hfz7_8
    try clear hfz7_9
    obtain ⟨kq, x30_1, rfl, HA, HJ1, BK164, HB⟩ := hcut
    cases kq with
    | zero => exact absurd HA.out (by simp [easelref05_Right.j0])
    | succ kj1 =>
      have H := HA.out
      clear HA
      simp only [easelref05_Right.j0] at H
      by_cases c17 : x30_1 = true
      · subst c17
        have H1 : (some false) = some r := by rw [if_pos rfl] at H; exact H
        clear H
        have H := H1
        clear H1
        obtain rfl := Option.some.inj H
        go_wp2
        go_ret
        exact ⟨by first | rfl | (simp [errW_none, errW_some] <;> rfl) | (simp [*, errW_none, errW_some] <;> rfl), by repeat (first | (with_reducible first | exact HB.out | apply below_alloc | apply pw_below_drewN | apply below_drew1 | refine below_set ?_ GE164.out) | exact HB.out)⟩
      · replace c17 := Bool.eq_false_iff.mpr c17
        subst c17
        have H1 : (if a0_3 = true then (if a0_6 = true then (if a0_8 = true then (if a0_11 = true then (some true) else (some (a0_12 == 0))) else (if a0_9 = 0 then (if a0_10 = true then (some false) else (if a0_11 = true then (some true) else (some (a0_12 == 0)))) else (some false))) else (if a0_7 = 0 then (if a0_8 = true then (if a0_11 = true then (some true) else (some (a0_12 == 0))) else (if a0_9 = 0 then (if a0_10 = true then (some false) else (if a0_11 = true then (some true) else (some (a0_12 == 0)))) else (some false))) else (some false))) else (if a0_4 = true then (some false) else (if a0_5 = 0 then (if a0_6 = true then (if a0_8 = true then (if a0_11 = true then (some true) else (some (a0_12 == 0))) else (if a0_9 = 0 then (if a0_10 = true then (some false) else (if a0_11 = true then (some true) else (some (a0_12 == 0)))) else (some false))) else (if a0_7 = 0 then (if a0_8 = true then (if a0_11 = true then (some true) else (some (a0_12 == 0))) else (if a0_9 = 0 then (if a0_10 = true then (some false) else (if a0_11 = true then (some true) else (some (a0_12 == 0)))) else (some false))) else (some false))) else (some false)))) = some r := by rw [if_neg (show ¬ (false = true) by decide)] at H; exact H
        clear H
        have H := H1
        clear H1
        by_cases c18 : a0_3 = true
        · subst c18
          have H1 : (if a0_6 = true then (if a0_8 = true then (if a0_11 = true then (some true) else (some (a0_12 == 0))) else (if a0_9 = 0 then (if a0_10 = true then (some false) else (if a0_11 = true then (some true) else (some (a0_12 == 0)))) else (some false))) else (if a0_7 = 0 then (if a0_8 = true then (if a0_11 = true then (some true) else (some (a0_12 == 0))) else (if a0_9 = 0 then (if a0_10 = true then (some false) else (if a0_11 = true then (some true) else (some (a0_12 == 0)))) else (some false))) else (some false))) = some r := by rw [if_pos rfl] at H; exact H
          clear H
          have H := H1
          clear H1
          by_cases c19 : a0_6 = true
          · subst c19
            have H1 : (if a0_8 = true then (if a0_11 = true then (some true) else (some (a0_12 == 0))) else (if a0_9 = 0 then (if a0_10 = true then (some false) else (if a0_11 = true then (some true) else (some (a0_12 == 0)))) else (some false))) = some r := by rw [if_pos rfl] at H; exact H
            clear H
            have H := H1
            clear H1
            by_cases c20 : a0_8 = true
            · subst c20
              have H1 : (if a0_11 = true then (some true) else (some (a0_12 == 0))) = some r := by rw [if_pos rfl] at H; exact H
              clear H
              have H := H1
              clear H1
              by_cases c21 : a0_11 = true
              · subst c21
                have H1 : (some true) = some r := by rw [if_pos rfl] at H; exact H
                clear H
                have H := H1
                clear H1
                obtain rfl := Option.some.inj H
                have hcz22_0 : wc.cell? ⟨gb164, 0, none⟩ = some (.bool a0_0) := (blk_cell BK164.out 0).trans rfl
                have hcz22_1 : wc.cell? ⟨gb164, 1, none⟩ = some (.bool a0_1) := (blk_cell BK164.out 1).trans rfl
                have hcz22_2 : wc.cell? ⟨gb164, 2, none⟩ = some (.int .u8 a0_2) := (blk_cell BK164.out 2).trans rfl
                have hcz22_3 : wc.cell? ⟨gb164, 3, none⟩ = some (.bool true) := (blk_cell BK164.out 3).trans rfl
                have hcz22_4 : wc.cell? ⟨gb164, 4, none⟩ = some (.bool a0_4) := (blk_cell BK164.out 4).trans rfl
                have hcz22_5 : wc.cell? ⟨gb164, 5, none⟩ = some (.int .u16 a0_5) := (blk_cell BK164.out 5).trans rfl
                have hcz22_6 : wc.cell? ⟨gb164, 6, none⟩ = some (.bool true) := (blk_cell BK164.out 6).trans rfl
                have hcz22_7 : wc.cell? ⟨gb164, 7, none⟩ = some (.int .u8 a0_7) := (blk_cell BK164.out 7).trans rfl
                have hcz22_8 : wc.cell? ⟨gb164, 8, none⟩ = some (.bool true) := (blk_cell BK164.out 8).trans rfl
                have hcz22_9 : wc.cell? ⟨gb164, 9, none⟩ = some (.int .u8 a0_9) := (blk_cell BK164.out 9).trans rfl
                have hcz22_10 : wc.cell? ⟨gb164, 10, none⟩ = some (.bool a0_10) := (blk_cell BK164.out 10).trans rfl
                have hcz22_11 : wc.cell? ⟨gb164, 11, none⟩ = some (.bool true) := (blk_cell BK164.out 11).trans rfl
                have hcz22_12 : wc.cell? ⟨gb164, 12, none⟩ = some (.int .u8 a0_12) := (blk_cell BK164.out 12).trans rfl
                have hfz22_0 := blk_frozen BK164.out 0
                have hfz22_1 := blk_frozen BK164.out 1
                have hfz22_2 := blk_frozen BK164.out 2
                have hfz22_3 := blk_frozen BK164.out 3
                have hfz22_4 := blk_frozen BK164.out 4
                have hfz22_5 := blk_frozen BK164.out 5
                have hfz22_6 := blk_frozen BK164.out 6
                have hfz22_7 := blk_frozen BK164.out 7
                have hfz22_8 := blk_frozen BK164.out 8
                have hfz22_9 := blk_frozen BK164.out 9
                have hfz22_10 := blk_frozen BK164.out 10
                have hfz22_11 := blk_frozen BK164.out 11
                have hfz22_12 := blk_frozen BK164.out 12
                go_wp2
                go_ret
                exact ⟨by first | rfl | (simp [errW_none, errW_some] <;> rfl) | (simp [*, errW_none, errW_some] <;> rfl), by repeat (first | (with_reducible first | exact HB.out | apply below_alloc | apply pw_below_drewN | apply below_drew1 | refine below_set ?_ GE164.out) | exact HB.out)⟩
              · replace c21 := Bool.eq_false_iff.mpr c21
                subst c21
                have H1 : (some (a0_12 == 0)) = some r := by rw [if_neg (show ¬ (false = true) by decide)] at H; exact H
                clear H
                have H := H1
                clear H1
                obtain rfl := Option.some.inj H
                have hcz23_0 : wc.cell? ⟨gb164, 0, none⟩ = some (.bool a0_0) := (blk_cell BK164.out 0).trans rfl
                have hcz23_1 : wc.cell? ⟨gb164, 1, none⟩ = some (.bool a0_1) := (blk_cell BK164.out 1).trans rfl
                have hcz23_2 : wc.cell? ⟨gb164, 2, none⟩ = some (.int .u8 a0_2) := (blk_cell BK164.out 2).trans rfl
                have hcz23_3 : wc.cell? ⟨gb164, 3, none⟩ = some (.bool true) := (blk_cell BK164.out 3).trans rfl
                have hcz23_4 : wc.cell? ⟨gb164, 4, none⟩ = some (.bool a0_4) := (blk_cell BK164.out 4).trans rfl
                have hcz23_5 : wc.cell? ⟨gb164, 5, none⟩ = some (.int .u16 a0_5) := (blk_cell BK164.out 5).trans rfl
                have hcz23_6 : wc.cell? ⟨gb164, 6, none⟩ = some (.bool true) := (blk_cell BK164.out 6).trans rfl
                have hcz23_7 : wc.cell? ⟨gb164, 7, none⟩ = some (.int .u8 a0_7) := (blk_cell BK164.out 7).trans rfl
                have hcz23_8 : wc.cell? ⟨gb164, 8, none⟩ = some (.bool true) := (blk_cell BK164.out 8).trans rfl
                have hcz23_9 : wc.cell? ⟨gb164, 9, none⟩ = some (.int .u8 a0_9) := (blk_cell BK164.out 9).trans rfl
                have hcz23_10 : wc.cell? ⟨gb164, 10, none⟩ = some (.bool a0_10) := (blk_cell BK164.out 10).trans rfl
                have hcz23_11 : wc.cell? ⟨gb164, 11, none⟩ = some (.bool false) := (blk_cell BK164.out 11).trans rfl
                have hcz23_12 : wc.cell? ⟨gb164, 12, none⟩ = some (.int .u8 a0_12) := (blk_cell BK164.out 12).trans rfl
                have hfz23_0 := blk_frozen BK164.out 0
                have hfz23_1 := blk_frozen BK164.out 1
                have hfz23_2 := blk_frozen BK164.out 2
                have hfz23_3 := blk_frozen BK164.out 3
                have hfz23_4 := blk_frozen BK164.out 4
                have hfz23_5 := blk_frozen BK164.out 5
                have hfz23_6 := blk_frozen BK164.out 6
                have hfz23_7 := blk_frozen BK164.out 7
                have hfz23_8 := blk_frozen BK164.out 8
                have hfz23_9 := blk_frozen BK164.out 9
                have hfz23_10 := blk_frozen BK164.out 10
                have hfz23_11 := blk_frozen BK164.out 11
                have hfz23_12 := blk_frozen BK164.out 12
                go_wp2
                go_ret
                exact ⟨by first | rfl | (simp [errW_none, errW_some] <;> rfl) | (simp [*, errW_none, errW_some] <;> rfl), by repeat (first | (with_reducible first | exact HB.out | apply below_alloc | apply pw_below_drewN | apply below_drew1 | refine below_set ?_ GE164.out) | exact HB.out)⟩
            · replace c20 := Bool.eq_false_iff.mpr c20
              subst c20
              have H1 : (if a0_9 = 0 then (if a0_10 = true then (some false) else (if a0_11 = true then (some true) else (some (a0_12 == 0)))) else (some false)) = some r := by rw [if_neg (show ¬ (false = true) by decide)] at H; exact H
              clear H
              have H := H1
              clear H1
              by_cases c24 : a0_9 = 0
              · rw [if_pos c24] at H
                have c24b0 : (a0_9 == 0) = true := beq_iff_eq.mpr c24
                have c24b1 : (a0_9 != 0) = false := bne_eq_false_iff_eq.mpr c24
                clear c24
                by_cases c25 : a0_10 = true
                · subst c25
                  have H1 : (some false) = some r := by rw [if_pos rfl] at H; exact H
                  clear H
                  have H := H1
                  clear H1
                  obtain rfl := Option.some.inj H
                  have hcz26_0 : wc.cell? ⟨gb164, 0, none⟩ = some (.bool a0_0) := (blk_cell BK164.out 0).trans rfl
                  have hcz26_1 : wc.cell? ⟨gb164, 1, none⟩ = some (.bool a0_1) := (blk_cell BK164.out 1).trans rfl
                  have hcz26_2 : wc.cell? ⟨gb164, 2, none⟩ = some (.int .u8 a0_2) := (blk_cell BK164.out 2).trans rfl
                  have hcz26_3 : wc.cell? ⟨gb164, 3, none⟩ = some (.bool true) := (blk_cell BK164.out 3).trans rfl
                  have hcz26_4 : wc.cell? ⟨gb164, 4, none⟩ = some (.bool a0_4) := (blk_cell BK164.out 4).trans rfl
                  have hcz26_5 : wc.cell? ⟨gb164, 5, none⟩ = some (.int .u16 a0_5) := (blk_cell BK164.out 5).trans rfl
                  have hcz26_6 : wc.cell? ⟨gb164, 6, none⟩ = some (.bool true) := (blk_cell BK164.out 6).trans rfl
                  have hcz26_7 : wc.cell? ⟨gb164, 7, none⟩ = some (.int .u8 a0_7) := (blk_cell BK164.out 7).trans rfl
                  have hcz26_8 : wc.cell? ⟨gb164, 8, none⟩ = some (.bool false) := (blk_cell BK164.out 8).trans rfl
                  have hcz26_9 : wc.cell? ⟨gb164, 9, none⟩ = some (.int .u8 a0_9) := (blk_cell BK164.out 9).trans rfl
                  have hcz26_10 : wc.cell? ⟨gb164, 10, none⟩ = some (.bool true) := (blk_cell BK164.out 10).trans rfl
                  have hcz26_11 : wc.cell? ⟨gb164, 11, none⟩ = some (.bool a0_11) := (blk_cell BK164.out 11).trans rfl
                  have hcz26_12 : wc.cell? ⟨gb164, 12, none⟩ = some (.int .u8 a0_12) := (blk_cell BK164.out 12).trans rfl
                  have hfz26_0 := blk_frozen BK164.out 0
                  have hfz26_1 := blk_frozen BK164.out 1
                  have hfz26_2 := blk_frozen BK164.out 2
                  have hfz26_3 := blk_frozen BK164.out 3
                  have hfz26_4 := blk_frozen BK164.out 4
                  have hfz26_5 := blk_frozen BK164.out 5
                  have hfz26_6 := blk_frozen BK164.out 6
                  have hfz26_7 := blk_frozen BK164.out 7
                  have hfz26_8 := blk_frozen BK164.out 8
                  have hfz26_9 := blk_frozen BK164.out 9
                  have hfz26_10 := blk_frozen BK164.out 10
                  have hfz26_11 := blk_frozen BK164.out 11
                  have hfz26_12 := blk_frozen BK164.out 12
                  go_wp2
                  go_ret
                  exact ⟨by first | rfl | (simp [errW_none, errW_some] <;> rfl) | (simp [*, errW_none, errW_some] <;> rfl), by repeat (first | (with_reducible first | exact HB.out | apply below_alloc | apply pw_below_drewN | apply below_drew1 | refine below_set ?_ GE164.out) | exact HB.out)⟩
                · replace c25 := Bool.eq_false_iff.mpr c25
                  subst c25
                  have H1 : (if a0_11 = true then (some true) else (some (a0_12 == 0))) = some r := by rw [if_neg (show ¬ (false = true) by decide)] at H; exact H
                  clear H
                  have H := H1
                  clear H1
                  by_cases c27 : a0_11 = true
                  · subst c27
                    have H1 : (some true) = some r := by rw [if_pos rfl] at H; exact H
                    clear H
                    have H := H1
                    clear H1
                    obtain rfl := Option.some.inj H
                    have hcz28_0 : wc.cell? ⟨gb164, 0, none⟩ = some (.bool a0_0) := (blk_cell BK164.out 0).trans rfl
                    have hcz28_1 : wc.cell? ⟨gb164, 1, none⟩ = some (.bool a0_1) := (blk_cell BK164.out 1).trans rfl
                    have hcz28_2 : wc.cell? ⟨gb164, 2, none⟩ = some (.int .u8 a0_2) := (blk_cell BK164.out 2).trans rfl
                    have hcz28_3 : wc.cell? ⟨gb164, 3, none⟩ = some (.bool true) := (blk_cell BK164.out 3).trans rfl
                    have hcz28_4 : wc.cell? ⟨gb164, 4, none⟩ = some (.bool a0_4) := (blk_cell BK164.out 4).trans rfl
                    have hcz28_5 : wc.cell? ⟨gb164, 5, none⟩ = some (.int .u16 a0_5) := (blk_cell BK164.out 5).trans rfl
                    have hcz28_6 : wc.cell? ⟨gb164, 6, none⟩ = some (.bool true) := (blk_cell BK164.out 6).trans rfl
                    have hcz28_7 : wc.cell? ⟨gb164, 7, none⟩ = some (.int .u8 a0_7) := (blk_cell BK164.out 7).trans rfl
                    have hcz28_8 : wc.cell? ⟨gb164, 8, none⟩ = some (.bool false) := (blk_cell BK164.out 8).trans rfl
                    have hcz28_9 : wc.cell? ⟨gb164, 9, none⟩ = some (.int .u8 a0_9) := (blk_cell BK164.out 9).trans rfl
                    have hcz28_10 : wc.cell? ⟨gb164, 10, none⟩ = some (.bool false) := (blk_cell BK164.out 10).trans rfl
                    have hcz28_11 : wc.cell? ⟨gb164, 11, none⟩ = some (.bool true) := (blk_cell BK164.out 11).trans rfl
                    have hcz28_12 : wc.cell? ⟨gb164, 12, none⟩ = some (.int .u8 a0_12) := (blk_cell BK164.out 12).trans rfl
                    have hfz28_0 := blk_frozen BK164.out 0
                    have hfz28_1 := blk_frozen BK164.out 1
                    have hfz28_2 := blk_frozen BK164.out 2
                    have hfz28_3 := blk_frozen BK164.out 3
                    have hfz28_4 := blk_frozen BK164.out 4
                    have hfz28_5 := blk_frozen BK164.out 5
                    have hfz28_6 := blk_frozen BK164.out 6
                    have hfz28_7 := blk_frozen BK164.out 7
                    have hfz28_8 := blk_frozen BK164.out 8
                    have hfz28_9 := blk_frozen BK164.out 9
                    have hfz28_10 := blk_frozen BK164.out 10
                    have hfz28_11 := blk_frozen BK164.out 11
                    have hfz28_12 := blk_frozen BK164.out 12
                    go_wp2
                    go_ret
                    exact ⟨by first | rfl | (simp [errW_none, errW_some] <;> rfl) | (simp [*, errW_none, errW_some] <;> rfl), by repeat (first | (with_reducible first | exact HB.out | apply below_alloc | apply pw_below_drewN | apply below_drew1 | refine below_set ?_ GE164.out) | exact HB.out)⟩
                  · replace c27 := Bool.eq_false_iff.mpr c27
                    subst c27
                    have H1 : (some (a0_12 == 0)) = some r := by rw [if_neg (show ¬ (false = true) by decide)] at H; exact H
                    clear H
                    have H := H1
                    clear H1
                    obtain rfl := Option.some.inj H
                    have hcz29_0 : wc.cell? ⟨gb164, 0, none⟩ = some (.bool a0_0) := (blk_cell BK164.out 0).trans rfl
                    have hcz29_1 : wc.cell? ⟨gb164, 1, none⟩ = some (.bool a0_1) := (blk_cell BK164.out 1).trans rfl
                    have hcz29_2 : wc.cell? ⟨gb164, 2, none⟩ = some (.int .u8 a0_2) := (blk_cell BK164.out 2).trans rfl
                    have hcz29_3 : wc.cell? ⟨gb164, 3, none⟩ = some (.bool true) := (blk_cell BK164.out 3).trans rfl
                    have hcz29_4 : wc.cell? ⟨gb164, 4, none⟩ = some (.bool a0_4) := (blk_cell BK164.out 4).trans rfl
                    have hcz29_5 : wc.cell? ⟨gb164, 5, none⟩ = some (.int .u16 a0_5) := (blk_cell BK164.out 5).trans rfl
                    have hcz29_6 : wc.cell? ⟨gb164, 6, none⟩ = some (.bool true) := (blk_cell BK164.out 6).trans rfl
                    have hcz29_7 : wc.cell? ⟨gb164, 7, none⟩ = some (.int .u8 a0_7) := (blk_cell BK164.out 7).trans rfl
                    have hcz29_8 : wc.cell? ⟨gb164, 8, none⟩ = some (.bool false) := (blk_cell BK164.out 8).trans rfl
                    have hcz29_9 : wc.cell? ⟨gb164, 9, none⟩ = some (.int .u8 a0_9) := (blk_cell BK164.out 9).trans rfl
                    have hcz29_10 : wc.cell? ⟨gb164, 10, none⟩ = some (.bool false) := (blk_cell BK164.out 10).trans rfl
                    have hcz29_11 : wc.cell? ⟨gb164, 11, none⟩ = some (.bool false) := (blk_cell BK164.out 11).trans rfl
                    have hcz29_12 : wc.cell? ⟨gb164, 12, none⟩ = some (.int .u8 a0_12) := (blk_cell BK164.out 12).trans rfl
                    have hfz29_0 := blk_frozen BK164.out 0
                    have hfz29_1 := blk_frozen BK164.out 1
                    have hfz29_2 := blk_frozen BK164.out 2
                    have hfz29_3 := blk_frozen BK164.out 3
                    have hfz29_4 := blk_frozen BK164.out 4
                    have hfz29_5 := blk_frozen BK164.out 5
                    have hfz29_6 := blk_frozen BK164.out 6
                    have hfz29_7 := blk_frozen BK164.out 7
                    have hfz29_8 := blk_frozen BK164.out 8
                    have hfz29_9 := blk_frozen BK164.out 9
                    have hfz29_10 := blk_frozen BK164.out 10
                    have hfz29_11 := blk_frozen BK164.out 11
                    have hfz29_12 := blk_frozen BK164.out 12
                    go_wp2
                    go_ret
                    exact ⟨by first | rfl | (simp [errW_none, errW_some] <;> rfl) | (simp [*, errW_none, errW_some] <;> rfl), by repeat (first | (with_reducible first | exact HB.out | apply below_alloc | apply pw_below_drewN | apply below_drew1 | refine below_set ?_ GE164.out) | exact HB.out)⟩
              · rw [if_neg c24] at H
                have c24b0 : (a0_9 == 0) = false := beq_eq_false_iff_ne.mpr c24
                have c24b1 : (a0_9 != 0) = true := bne_iff_ne.mpr c24
                obtain rfl := Option.some.inj H
                have hcz30_0 : wc.cell? ⟨gb164, 0, none⟩ = some (.bool a0_0) := (blk_cell BK164.out 0).trans rfl
                have hcz30_1 : wc.cell? ⟨gb164, 1, none⟩ = some (.bool a0_1) := (blk_cell BK164.out 1).trans rfl
                have hcz30_2 : wc.cell? ⟨gb164, 2, none⟩ = some (.int .u8 a0_2) := (blk_cell BK164.out 2).trans rfl
                have hcz30_3 : wc.cell? ⟨gb164, 3, none⟩ = some (.bool true) := (blk_cell BK164.out 3).trans rfl
                have hcz30_4 : wc.cell? ⟨gb164, 4, none⟩ = some (.bool a0_4) := (blk_cell BK164.out 4).trans rfl
                have hcz30_5 : wc.cell? ⟨gb164, 5, none⟩ = some (.int .u16 a0_5) := (blk_cell BK164.out 5).trans rfl
                have hcz30_6 : wc.cell? ⟨gb164, 6, none⟩ = some (.bool true) := (blk_cell BK164.out 6).trans rfl
                have hcz30_7 : wc.cell? ⟨gb164, 7, none⟩ = some (.int .u8 a0_7) := (blk_cell BK164.out 7).trans rfl
                have hcz30_8 : wc.cell? ⟨gb164, 8, none⟩ = some (.bool false) := (blk_cell BK164.out 8).trans rfl
                have hcz30_9 : wc.cell? ⟨gb164, 9, none⟩ = some (.int .u8 a0_9) := (blk_cell BK164.out 9).trans rfl
                have hcz30_10 : wc.cell? ⟨gb164, 10, none⟩ = some (.bool a0_10) := (blk_cell BK164.out 10).trans rfl
                have hcz30_11 : wc.cell? ⟨gb164, 11, none⟩ = some (.bool a0_11) := (blk_cell BK164.out 11).trans rfl
                have hcz30_12 : wc.cell? ⟨gb164, 12, none⟩ = some (.int .u8 a0_12) := (blk_cell BK164.out 12).trans rfl
                have hfz30_0 := blk_frozen BK164.out 0
                have hfz30_1 := blk_frozen BK164.out 1
                have hfz30_2 := blk_frozen BK164.out 2
                have hfz30_3 := blk_frozen BK164.out 3
                have hfz30_4 := blk_frozen BK164.out 4
                have hfz30_5 := blk_frozen BK164.out 5
                have hfz30_6 := blk_frozen BK164.out 6
                have hfz30_7 := blk_frozen BK164.out 7
                have hfz30_8 := blk_frozen BK164.out 8
                have hfz30_9 := blk_frozen BK164.out 9
                have hfz30_10 := blk_frozen BK164.out 10
                have hfz30_11 := blk_frozen BK164.out 11
                have hfz30_12 := blk_frozen BK164.out 12
                go_wp2
                go_ret
                exact ⟨by first | rfl | (simp [errW_none, errW_some] <;> rfl) | (simp [*, errW_none, errW_some] <;> rfl), by repeat (first | (with_reducible first | exact HB.out | apply below_alloc | apply pw_below_drewN | apply below_drew1 | refine below_set ?_ GE164.out) | exact HB.out)⟩
          · replace c19 := Bool.eq_false_iff.mpr c19
            subst c19
            have H1 : (if a0_7 = 0 then (if a0_8 = true then (if a0_11 = true then (some true) else (some (a0_12 == 0))) else (if a0_9 = 0 then (if a0_10 = true then (some false) else (if a0_11 = true then (some true) else (some (a0_12 == 0)))) else (some false))) else (some false)) = some r := by rw [if_neg (show ¬ (false = true) by decide)] at H; exact H
            clear H
            have H := H1
            clear H1
            by_cases c31 : a0_7 = 0
            · rw [if_pos c31] at H
              have c31b0 : (a0_7 == 0) = true := beq_iff_eq.mpr c31
              have c31b1 : (a0_7 != 0) = false := bne_eq_false_iff_eq.mpr c31
              clear c31
              by_cases c32 : a0_8 = true
              · subst c32
                have H1 : (if a0_11 = true then (some true) else (some (a0_12 == 0))) = some r := by rw [if_pos rfl] at H; exact H
                clear H
                have H := H1
                clear H1
                by_cases c33 : a0_11 = true
                · subst c33
                  have H1 : (some true) = some r := by rw [if_pos rfl] at H; exact H
                  clear H
                  have H := H1
                  clear H1
                  obtain rfl := Option.some.inj H
                  have hcz34_0 : wc.cell? ⟨gb164, 0, none⟩ = some (.bool a0_0) := (blk_cell BK164.out 0).trans rfl
                  have hcz34_1 : wc.cell? ⟨gb164, 1, none⟩ = some (.bool a0_1) := (blk_cell BK164.out 1).trans rfl
                  have hcz34_2 : wc.cell? ⟨gb164, 2, none⟩ = some (.int .u8 a0_2) := (blk_cell BK164.out 2).trans rfl
                  have hcz34_3 : wc.cell? ⟨gb164, 3, none⟩ = some (.bool true) := (blk_cell BK164.out 3).trans rfl
                  have hcz34_4 : wc.cell? ⟨gb164, 4, none⟩ = some (.bool a0_4) := (blk_cell BK164.out 4).trans rfl
                  have hcz34_5 : wc.cell? ⟨gb164, 5, none⟩ = some (.int .u16 a0_5) := (blk_cell BK164.out 5).trans rfl
                  have hcz34_6 : wc.cell? ⟨gb164, 6, none⟩ = some (.bool false) := (blk_cell BK164.out 6).trans rfl
                  have hcz34_7 : wc.cell? ⟨gb164, 7, none⟩ = some (.int .u8 a0_7) := (blk_cell BK164.out 7).trans rfl
                  have hcz34_8 : wc.cell? ⟨gb164, 8, none⟩ = some (.bool true) := (blk_cell BK164.out 8).trans rfl
                  have hcz34_9 : wc.cell? ⟨gb164, 9, none⟩ = some (.int .u8 a0_9) := (blk_cell BK164.out 9).trans rfl
                  have hcz34_10 : wc.cell? ⟨gb164, 10, none⟩ = some (.bool a0_10) := (blk_cell BK164.out 10).trans rfl
                  have hcz34_11 : wc.cell? ⟨gb164, 11, none⟩ = some (.bool true) := (blk_cell BK164.out 11).trans rfl
                  have hcz34_12 : wc.cell? ⟨gb164, 12, none⟩ = some (.int .u8 a0_12) := (blk_cell BK164.out 12).trans rfl
                  have hfz34_0 := blk_frozen BK164.out 0
                  have hfz34_1 := blk_frozen BK164.out 1
                  have hfz34_2 := blk_frozen BK164.out 2
                  have hfz34_3 := blk_frozen BK164.out 3
                  have hfz34_4 := blk_frozen BK164.out 4
                  have hfz34_5 := blk_frozen BK164.out 5
                  have hfz34_6 := blk_frozen BK164.out 6
                  have hfz34_7 := blk_frozen BK164.out 7
                  have hfz34_8 := blk_frozen BK164.out 8
                  have hfz34_9 := blk_frozen BK164.out 9
                  have hfz34_10 := blk_frozen BK164.out 10
                  have hfz34_11 := blk_frozen BK164.out 11
                  have hfz34_12 := blk_frozen BK164.out 12
                  go_wp2
                  go_ret
                  exact ⟨by first | rfl | (simp [errW_none, errW_some] <;> rfl) | (simp [*, errW_none, errW_some] <;> rfl), by repeat (first | (with_reducible first | exact HB.out | apply below_alloc | apply pw_below_drewN | apply below_drew1 | refine below_set ?_ GE164.out) | exact HB.out)⟩
                · replace c33 := Bool.eq_false_iff.mpr c33
                  subst c33
                  have H1 : (some (a0_12 == 0)) = some r := by rw [if_neg (show ¬ (false = true) by decide)] at H; exact H
                  clear H
                  have H := H1
                  clear H1
                  obtain rfl := Option.some.inj H
                  have hcz35_0 : wc.cell? ⟨gb164, 0, none⟩ = some (.bool a0_0) := (blk_cell BK164.out 0).trans rfl
                  have hcz35_1 : wc.cell? ⟨gb164, 1, none⟩ = some (.bool a0_1) := (blk_cell BK164.out 1).trans rfl
                  have hcz35_2 : wc.cell? ⟨gb164, 2, none⟩ = some (.int .u8 a0_2) := (blk_cell BK164.out 2).trans rfl
                  have hcz35_3 : wc.cell? ⟨gb164, 3, none⟩ = some (.bool true) := (blk_cell BK164.out 3).trans rfl
                  have hcz35_4 : wc.cell? ⟨gb164, 4, none⟩ = some (.bool a0_4) := (blk_cell BK164.out 4).trans rfl
                  have hcz35_5 : wc.cell? ⟨gb164, 5, none⟩ = some (.int .u16 a0_5) := (blk_cell BK164.out 5).trans rfl
                  have hcz35_6 : wc.cell? ⟨gb164, 6, none⟩ = some (.bool false) := (blk_cell BK164.out 6).trans rfl
                  have hcz35_7 : wc.cell? ⟨gb164, 7, none⟩ = some (.int .u8 a0_7) := (blk_cell BK164.out 7).trans rfl
                  have hcz35_8 : wc.cell? ⟨gb164, 8, none⟩ = some (.bool true) := (blk_cell BK164.out 8).trans rfl
                  have hcz35_9 : wc.cell? ⟨gb164, 9, none⟩ = some (.int .u8 a0_9) := (blk_cell BK164.out 9).trans rfl
                  have hcz35_10 : wc.cell? ⟨gb164, 10, none⟩ = some (.bool a0_10) := (blk_cell BK164.out 10).trans rfl
                  have hcz35_11 : wc.cell? ⟨gb164, 11, none⟩ = some (.bool false) := (blk_cell BK164.out 11).trans rfl
                  have hcz35_12 : wc.cell? ⟨gb164, 12, none⟩ = some (.int .u8 a0_12) := (blk_cell BK164.out 12).trans rfl
                  have hfz35_0 := blk_frozen BK164.out 0
                  have hfz35_1 := blk_frozen BK164.out 1
                  have hfz35_2 := blk_frozen BK164.out 2
                  have hfz35_3 := blk_frozen BK164.out 3
                  have hfz35_4 := blk_frozen BK164.out 4
                  have hfz35_5 := blk_frozen BK164.out 5
                  have hfz35_6 := blk_frozen BK164.out 6
                  have hfz35_7 := blk_frozen BK164.out 7
                  have hfz35_8 := blk_frozen BK164.out 8
                  have hfz35_9 := blk_frozen BK164.out 9
                  have hfz35_10 := blk_frozen BK164.out 10
                  have hfz35_11 := blk_frozen BK164.out 11
                  have hfz35_12 := blk_frozen BK164.out 12
                  go_wp2
                  go_ret
                  exact ⟨by first | rfl | (simp [errW_none, errW_some] <;> rfl) | (simp [*, errW_none, errW_some] <;> rfl), by repeat (first | (with_reducible first | exact HB.out | apply below_alloc | apply pw_below_drewN | apply below_drew1 | refine below_set ?_ GE164.out) | exact HB.out)⟩
              · replace c32 := Bool.eq_false_iff.mpr c32
                subst c32
                have H1 : (if a0_9 = 0 then (if a0_10 = true then (some false) else (if a0_11 = true then (some true) else (some (a0_12 == 0)))) else (some false)) = some r := by rw [if_neg (show ¬ (false = true) by decide)] at H; exact H
                clear H
                have H := H1
                clear H1
                by_cases c36 : a0_9 = 0
                · rw [if_pos c36] at H
                  have c36b0 : (a0_9 == 0) = true := beq_iff_eq.mpr c36
                  have c36b1 : (a0_9 != 0) = false := bne_eq_false_iff_eq.mpr c36
                  clear c36
                  by_cases c37 : a0_10 = true
                  · subst c37
                    have H1 : (some false) = some r := by rw [if_pos rfl] at H; exact H
                    clear H
                    have H := H1
                    clear H1
                    obtain rfl := Option.some.inj H
                    have hcz38_0 : wc.cell? ⟨gb164, 0, none⟩ = some (.bool a0_0) := (blk_cell BK164.out 0).trans rfl
                    have hcz38_1 : wc.cell? ⟨gb164, 1, none⟩ = some (.bool a0_1) := (blk_cell BK164.out 1).trans rfl
                    have hcz38_2 : wc.cell? ⟨gb164, 2, none⟩ = some (.int .u8 a0_2) := (blk_cell BK164.out 2).trans rfl
                    have hcz38_3 : wc.cell? ⟨gb164, 3, none⟩ = some (.bool true) := (blk_cell BK164.out 3).trans rfl
                    have hcz38_4 : wc.cell? ⟨gb164, 4, none⟩ = some (.bool a0_4) := (blk_cell BK164.out 4).trans rfl
                    have hcz38_5 : wc.cell? ⟨gb164, 5, none⟩ = some (.int .u16 a0_5) := (blk_cell BK164.out 5).trans rfl
                    have hcz38_6 : wc.cell? ⟨gb164, 6, none⟩ = some (.bool false) := (blk_cell BK164.out 6).trans rfl
                    have hcz38_7 : wc.cell? ⟨gb164, 7, none⟩ = some (.int .u8 a0_7) := (blk_cell BK164.out 7).trans rfl
                    have hcz38_8 : wc.cell? ⟨gb164, 8, none⟩ = some (.bool false) := (blk_cell BK164.out 8).trans rfl
                    have hcz38_9 : wc.cell? ⟨gb164, 9, none⟩ = some (.int .u8 a0_9) := (blk_cell BK164.out 9).trans rfl
                    have hcz38_10 : wc.cell? ⟨gb164, 10, none⟩ = some (.bool true) := (blk_cell BK164.out 10).trans rfl
                    have hcz38_11 : wc.cell? ⟨gb164, 11, none⟩ = some (.bool a0_11) := (blk_cell BK164.out 11).trans rfl
                    have hcz38_12 : wc.cell? ⟨gb164, 12, none⟩ = some (.int .u8 a0_12) := (blk_cell BK164.out 12).trans rfl
                    have hfz38_0 := blk_frozen BK164.out 0
                    have hfz38_1 := blk_frozen BK164.out 1
                    have hfz38_2 := blk_frozen BK164.out 2
                    have hfz38_3 := blk_frozen BK164.out 3
                    have hfz38_4 := blk_frozen BK164.out 4
                    have hfz38_5 := blk_frozen BK164.out 5
                    have hfz38_6 := blk_frozen BK164.out 6
                    have hfz38_7 := blk_frozen BK164.out 7
                    have hfz38_8 := blk_frozen BK164.out 8
                    have hfz38_9 := blk_frozen BK164.out 9
                    have hfz38_10 := blk_frozen BK164.out 10
                    have hfz38_11 := blk_frozen BK164.out 11
                    have hfz38_12 := blk_frozen BK164.out 12
                    go_wp2
                    go_ret
                    exact ⟨by first | rfl | (simp [errW_none, errW_some] <;> rfl) | (simp [*, errW_none, errW_some] <;> rfl), by repeat (first | (with_reducible first | exact HB.out | apply below_alloc | apply pw_below_drewN | apply below_drew1 | refine below_set ?_ GE164.out) | exact HB.out)⟩
                  · replace c37 := Bool.eq_false_iff.mpr c37
                    subst c37
                    have H1 : (if a0_11 = true then (some true) else (some (a0_12 == 0))) = some r := by rw [if_neg (show ¬ (false = true) by decide)] at H; exact H
                    clear H
                    have H := H1
                    clear H1
                    by_cases c39 : a0_11 = true
                    · subst c39
                      have H1 : (some true) = some r := by rw [if_pos rfl] at H; exact H
                      clear H
                      have H := H1
                      clear H1
                      obtain rfl := Option.some.inj H
                      have hcz40_0 : wc.cell? ⟨gb164, 0, none⟩ = some (.bool a0_0) := (blk_cell BK164.out 0).trans rfl
                      have hcz40_1 : wc.cell? ⟨gb164, 1, none⟩ = some (.bool a0_1) := (blk_cell BK164.out 1).trans rfl
                      have hcz40_2 : wc.cell? ⟨gb164, 2, none⟩ = some (.int .u8 a0_2) := (blk_cell BK164.out 2).trans rfl
                      have hcz40_3 : wc.cell? ⟨gb164, 3, none⟩ = some (.bool true) := (blk_cell BK164.out 3).trans rfl
                      have hcz40_4 : wc.cell? ⟨gb164, 4, none⟩ = some (.bool a0_4) := (blk_cell BK164.out 4).trans rfl
                      have hcz40_5 : wc.cell? ⟨gb164, 5, none⟩ = some (.int .u16 a0_5) := (blk_cell BK164.out 5).trans rfl
                      have hcz40_6 : wc.cell? ⟨gb164, 6, none⟩ = some (.bool false) := (blk_cell BK164.out 6).trans rfl
                      have hcz40_7 : wc.cell? ⟨gb164, 7, none⟩ = some (.int .u8 a0_7) := (blk_cell BK164.out 7).trans rfl
                      have hcz40_8 : wc.cell? ⟨gb164, 8, none⟩ = some (.bool false) := (blk_cell BK164.out 8).trans rfl
                      have hcz40_9 : wc.cell? ⟨gb164, 9, none⟩ = some (.int .u8 a0_9) := (blk_cell BK164.out 9).trans rfl
                      have hcz40_10 : wc.cell? ⟨gb164, 10, none⟩ = some (.bool false) := (blk_cell BK164.out 10).trans rfl
                      have hcz40_11 : wc.cell? ⟨gb164, 11, none⟩ = some (.bool true) := (blk_cell BK164.out 11).trans rfl
                      have hcz40_12 : wc.cell? ⟨gb164, 12, none⟩ = some (.int .u8 a0_12) := (blk_cell BK164.out 12).trans rfl
                      have hfz40_0 := blk_frozen BK164.out 0
                      have hfz40_1 := blk_frozen BK164.out 1
                      have hfz40_2 := blk_frozen BK164.out 2
                      have hfz40_3 := blk_frozen BK164.out 3
                      have hfz40_4 := blk_frozen BK164.out 4
                      have hfz40_5 := blk_frozen BK164.out 5
                      have hfz40_6 := blk_frozen BK164.out 6
                      have hfz40_7 := blk_frozen BK164.out 7
                      have hfz40_8 := blk_frozen BK164.out 8
                      have hfz40_9 := blk_frozen BK164.out 9
                      have hfz40_10 := blk_frozen BK164.out 10
                      have hfz40_11 := blk_frozen BK164.out 11
                      have hfz40_12 := blk_frozen BK164.out 12
                      go_wp2
                      go_ret
                      exact ⟨by first | rfl | (simp [errW_none, errW_some] <;> rfl) | (simp [*, errW_none, errW_some] <;> rfl), by repeat (first | (with_reducible first | exact HB.out | apply below_alloc | apply pw_below_drewN | apply below_drew1 | refine below_set ?_ GE164.out) | exact HB.out)⟩
                    · replace c39 := Bool.eq_false_iff.mpr c39
                      subst c39
                      have H1 : (some (a0_12 == 0)) = some r := by rw [if_neg (show ¬ (false = true) by decide)] at H; exact H
                      clear H
                      have H := H1
                      clear H1
                      obtain rfl := Option.some.inj H
                      have hcz41_0 : wc.cell? ⟨gb164, 0, none⟩ = some (.bool a0_0) := (blk_cell BK164.out 0).trans rfl
                      have hcz41_1 : wc.cell? ⟨gb164, 1, none⟩ = some (.bool a0_1) := (blk_cell BK164.out 1).trans rfl
                      have hcz41_2 : wc.cell? ⟨gb164, 2, none⟩ = some (.int .u8 a0_2) := (blk_cell BK164.out 2).trans rfl
                      have hcz41_3 : wc.cell? ⟨gb164, 3, none⟩ = some (.bool true) := (blk_cell BK164.out 3).trans rfl
                      have hcz41_4 : wc.cell? ⟨gb164, 4, none⟩ = some (.bool a0_4) := (blk_cell BK164.out 4).trans rfl
                      have hcz41_5 : wc.cell? ⟨gb164, 5, none⟩ = some (.int .u16 a0_5) := (blk_cell BK164.out 5).trans rfl
                      have hcz41_6 : wc.cell? ⟨gb164, 6, none⟩ = some (.bool false) := (blk_cell BK164.out 6).trans rfl
                      have hcz41_7 : wc.cell? ⟨gb164, 7, none⟩ = some (.int .u8 a0_7) := (blk_cell BK164.out 7).trans rfl
                      have hcz41_8 : wc.cell? ⟨gb164, 8, none⟩ = some (.bool false) := (blk_cell BK164.out 8).trans rfl
                      have hcz41_9 : wc.cell? ⟨gb164, 9, none⟩ = some (.int .u8 a0_9) := (blk_cell BK164.out 9).trans rfl
                      have hcz41_10 : wc.cell? ⟨gb164, 10, none⟩ = some (.bool false) := (blk_cell BK164.out 10).trans rfl
                      have hcz41_11 : wc.cell? ⟨gb164, 11, none⟩ = some (.bool false) := (blk_cell BK164.out 11).trans rfl
                      have hcz41_12 : wc.cell? ⟨gb164, 12, none⟩ = some (.int .u8 a0_12) := (blk_cell BK164.out 12).trans rfl
                      have hfz41_0 := blk_frozen BK164.out 0
                      have hfz41_1 := blk_frozen BK164.out 1
                      have hfz41_2 := blk_frozen BK164.out 2
                      have hfz41_3 := blk_frozen BK164.out 3
                      have hfz41_4 := blk_frozen BK164.out 4
                      have hfz41_5 := blk_frozen BK164.out 5
                      have hfz41_6 := blk_frozen BK164.out 6
                      have hfz41_7 := blk_frozen BK164.out 7
                      have hfz41_8 := blk_frozen BK164.out 8
                      have hfz41_9 := blk_frozen BK164.out 9
                      have hfz41_10 := blk_frozen BK164.out 10
                      have hfz41_11 := blk_frozen BK164.out 11
                      have hfz41_12 := blk_frozen BK164.out 12
                      go_wp2
                      go_ret
                      exact ⟨by first | rfl | (simp [errW_none, errW_some] <;> rfl) | (simp [*, errW_none, errW_some] <;> rfl), by repeat (first | (with_reducible first | exact HB.out | apply below_alloc | apply pw_below_drewN | apply below_drew1 | refine below_set ?_ GE164.out) | exact HB.out)⟩
                · rw [if_neg c36] at H
                  have c36b0 : (a0_9 == 0) = false := beq_eq_false_iff_ne.mpr c36
                  have c36b1 : (a0_9 != 0) = true := bne_iff_ne.mpr c36
                  obtain rfl := Option.some.inj H
                  have hcz42_0 : wc.cell? ⟨gb164, 0, none⟩ = some (.bool a0_0) := (blk_cell BK164.out 0).trans rfl
                  have hcz42_1 : wc.cell? ⟨gb164, 1, none⟩ = some (.bool a0_1) := (blk_cell BK164.out 1).trans rfl
                  have hcz42_2 : wc.cell? ⟨gb164, 2, none⟩ = some (.int .u8 a0_2) := (blk_cell BK164.out 2).trans rfl
                  have hcz42_3 : wc.cell? ⟨gb164, 3, none⟩ = some (.bool true) := (blk_cell BK164.out 3).trans rfl
                  have hcz42_4 : wc.cell? ⟨gb164, 4, none⟩ = some (.bool a0_4) := (blk_cell BK164.out 4).trans rfl
                  have hcz42_5 : wc.cell? ⟨gb164, 5, none⟩ = some (.int .u16 a0_5) := (blk_cell BK164.out 5).trans rfl
                  have hcz42_6 : wc.cell? ⟨gb164, 6, none⟩ = some (.bool false) := (blk_cell BK164.out 6).trans rfl
                  have hcz42_7 : wc.cell? ⟨gb164, 7, none⟩ = some (.int .u8 a0_7) := (blk_cell BK164.out 7).trans rfl
                  have hcz42_8 : wc.cell? ⟨gb164, 8, none⟩ = some (.bool false) := (blk_cell BK164.out 8).trans rfl
                  have hcz42_9 : wc.cell? ⟨gb164, 9, none⟩ = some (.int .u8 a0_9) := (blk_cell BK164.out 9).trans rfl
                  have hcz42_10 : wc.cell? ⟨gb164, 10, none⟩ = some (.bool a0_10) := (blk_cell BK164.out 10).trans rfl
                  have hcz42_11 : wc.cell? ⟨gb164, 11, none⟩ = some (.bool a0_11) := (blk_cell BK164.out 11).trans rfl
                  have hcz42_12 : wc.cell? ⟨gb164, 12, none⟩ = some (.int .u8 a0_12) := (blk_cell BK164.out 12).trans rfl
                  have hfz42_0 := blk_frozen BK164.out 0
                  have hfz42_1 := blk_frozen BK164.out 1
                  have hfz42_2 := blk_frozen BK164.out 2
                  have hfz42_3 := blk_frozen BK164.out 3
                  have hfz42_4 := blk_frozen BK164.out 4
                  have hfz42_5 := blk_frozen BK164.out 5
                  have hfz42_6 := blk_frozen BK164.out 6
                  have hfz42_7 := blk_frozen BK164.out 7
                  have hfz42_8 := blk_frozen BK164.out 8
                  have hfz42_9 := blk_frozen BK164.out 9
                  have hfz42_10 := blk_frozen BK164.out 10
                  have hfz42_11 := blk_frozen BK164.out 11
                  have hfz42_12 := blk_frozen BK164.out 12
                  go_wp2
                  go_ret
                  exact ⟨by first | rfl | (simp [errW_none, errW_some] <;> rfl) | (simp [*, errW_none, errW_some] <;> rfl), by repeat (first | (with_reducible first | exact HB.out | apply below_alloc | apply pw_below_drewN | apply below_drew1 | refine below_set ?_ GE164.out) | exact HB.out)⟩
            · rw [if_neg c31] at H
              have c31b0 : (a0_7 == 0) = false := beq_eq_false_iff_ne.mpr c31
              have c31b1 : (a0_7 != 0) = true := bne_iff_ne.mpr c31
              obtain rfl := Option.some.inj H
              have hcz43_0 : wc.cell? ⟨gb164, 0, none⟩ = some (.bool a0_0) := (blk_cell BK164.out 0).trans rfl
              have hcz43_1 : wc.cell? ⟨gb164, 1, none⟩ = some (.bool a0_1) := (blk_cell BK164.out 1).trans rfl
              have hcz43_2 : wc.cell? ⟨gb164, 2, none⟩ = some (.int .u8 a0_2) := (blk_cell BK164.out 2).trans rfl
              have hcz43_3 : wc.cell? ⟨gb164, 3, none⟩ = some (.bool true) := (blk_cell BK164.out 3).trans rfl
              have hcz43_4 : wc.cell? ⟨gb164, 4, none⟩ = some (.bool a0_4) := (blk_cell BK164.out 4).trans rfl
              have hcz43_5 : wc.cell? ⟨gb164, 5, none⟩ = some (.int .u16 a0_5) := (blk_cell BK164.out 5).trans rfl
              have hcz43_6 : wc.cell? ⟨gb164, 6, none⟩ = some (.bool false) := (blk_cell BK164.out 6).trans rfl
              have hcz43_7 : wc.cell? ⟨gb164, 7, none⟩ = some (.int .u8 a0_7) := (blk_cell BK164.out 7).trans rfl
              have hcz43_8 : wc.cell? ⟨gb164, 8, none⟩ = some (.bool a0_8) := (blk_cell BK164.out 8).trans rfl
              have hcz43_9 : wc.cell? ⟨gb164, 9, none⟩ = some (.int .u8 a0_9) := (blk_cell BK164.out 9).trans rfl
              have hcz43_10 : wc.cell? ⟨gb164, 10, none⟩ = some (.bool a0_10) := (blk_cell BK164.out 10).trans rfl
              have hcz43_11 : wc.cell? ⟨gb164, 11, none⟩ = some (.bool a0_11) := (blk_cell BK164.out 11).trans rfl
              have hcz43_12 : wc.cell? ⟨gb164, 12, none⟩ = some (.int .u8 a0_12) := (blk_cell BK164.out 12).trans rfl
              have hfz43_0 := blk_frozen BK164.out 0
              have hfz43_1 := blk_frozen BK164.out 1
              have hfz43_2 := blk_frozen BK164.out 2
              have hfz43_3 := blk_frozen BK164.out 3
              have hfz43_4 := blk_frozen BK164.out 4
              have hfz43_5 := blk_frozen BK164.out 5
              have hfz43_6 := blk_frozen BK164.out 6
              have hfz43_7 := blk_frozen BK164.out 7
              have hfz43_8 := blk_frozen BK164.out 8
              have hfz43_9 := blk_frozen BK164.out 9
              have hfz43_10 := blk_frozen BK164.out 10
              have hfz43_11 := blk_frozen BK164.out 11
              have hfz43_12 := blk_frozen BK164.out 12
              go_wp2
              go_ret
              exact ⟨by first | rfl | (simp [errW_none, errW_some] <;> rfl) | (simp [*, errW_none, errW_some] <;> rfl), by repeat (first | (with_reducible first | exact HB.out | apply below_alloc | apply pw_below_drewN | apply below_drew1 | refine below_set ?_ GE164.out) | exact HB.out)⟩
        · replace c18 := Bool.eq_false_iff.mpr c18
          subst c18
          have H1 : (if a0_4 = true then (some false) else (if a0_5 = 0 then (if a0_6 = true then (if a0_8 = true then (if a0_11 = true then (some true) else (some (a0_12 == 0))) else (if a0_9 = 0 then (if a0_10 = true then (some false) else (if a0_11 = true then (some true) else (some (a0_12 == 0)))) else (some false))) else (if a0_7 = 0 then (if a0_8 = true then (if a0_11 = true then (some true) else (some (a0_12 == 0))) else (if a0_9 = 0 then (if a0_10 = true then (some false) else (if a0_11 = true then (some true) else (some (a0_12 == 0)))) else (some false))) else (some false))) else (some false))) = some r := by rw [if_neg (show ¬ (false = true) by decide)] at H; exact H
          clear H
          have H := H1
          clear H1
          by_cases c44 : a0_4 = true
          · subst c44
            have H1 : (some false) = some r := by rw [if_pos rfl] at H; exact H
            clear H
            have H := H1
            clear H1
            obtain rfl := Option.some.inj H
            have hcz45_0 : wc.cell? ⟨gb164, 0, none⟩ = some (.bool a0_0) := (blk_cell BK164.out 0).trans rfl
            have hcz45_1 : wc.cell? ⟨gb164, 1, none⟩ = some (.bool a0_1) := (blk_cell BK164.out 1).trans rfl
            have hcz45_2 : wc.cell? ⟨gb164, 2, none⟩ = some (.int .u8 a0_2) := (blk_cell BK164.out 2).trans rfl
            have hcz45_3 : wc.cell? ⟨gb164, 3, none⟩ = some (.bool false) := (blk_cell BK164.out 3).trans rfl
            have hcz45_4 : wc.cell? ⟨gb164, 4, none⟩ = some (.bool true) := (blk_cell BK164.out 4).trans rfl
            have hcz45_5 : wc.cell? ⟨gb164, 5, none⟩ = some (.int .u16 a0_5) := (blk_cell BK164.out 5).trans rfl
            have hcz45_6 : wc.cell? ⟨gb164, 6, none⟩ = some (.bool a0_6) := (blk_cell BK164.out 6).trans rfl
            have hcz45_7 : wc.cell? ⟨gb164, 7, none⟩ = some (.int .u8 a0_7) := (blk_cell BK164.out 7).trans rfl
            have hcz45_8 : wc.cell? ⟨gb164, 8, none⟩ = some (.bool a0_8) := (blk_cell BK164.out 8).trans rfl
            have hcz45_9 : wc.cell? ⟨gb164, 9, none⟩ = some (.int .u8 a0_9) := (blk_cell BK164.out 9).trans rfl
            have hcz45_10 : wc.cell? ⟨gb164, 10, none⟩ = some (.bool a0_10) := (blk_cell BK164.out 10).trans rfl
            have hcz45_11 : wc.cell? ⟨gb164, 11, none⟩ = some (.bool a0_11) := (blk_cell BK164.out 11).trans rfl
            have hcz45_12 : wc.cell? ⟨gb164, 12, none⟩ = some (.int .u8 a0_12) := (blk_cell BK164.out 12).trans rfl
            have hfz45_0 := blk_frozen BK164.out 0
            have hfz45_1 := blk_frozen BK164.out 1
            have hfz45_2 := blk_frozen BK164.out 2
            have hfz45_3 := blk_frozen BK164.out 3
            have hfz45_4 := blk_frozen BK164.out 4
            have hfz45_5 := blk_frozen BK164.out 5
            have hfz45_6 := blk_frozen BK164.out 6
            have hfz45_7 := blk_frozen BK164.out 7
            have hfz45_8 := blk_frozen BK164.out 8
            have hfz45_9 := blk_frozen BK164.out 9
            have hfz45_10 := blk_frozen BK164.out 10
            have hfz45_11 := blk_frozen BK164.out 11
            have hfz45_12 := blk_frozen BK164.out 12
            go_wp2
            go_ret
            exact ⟨by first | rfl | (simp [errW_none, errW_some] <;> rfl) | (simp [*, errW_none, errW_some] <;> rfl), by repeat (first | (with_reducible first | exact HB.out | apply below_alloc | apply pw_below_drewN | apply below_drew1 | refine below_set ?_ GE164.out) | exact HB.out)⟩
          · replace c44 := Bool.eq_false_iff.mpr c44
            subst c44
            have H1 : (if a0_5 = 0 then (if a0_6 = true then (if a0_8 = true then (if a0_11 = true then (some true) else (some (a0_12 == 0))) else (if a0_9 = 0 then (if a0_10 = true then (some false) else (if a0_11 = true then (some true) else (some (a0_12 == 0)))) else (some false))) else (if a0_7 = 0 then (if a0_8 = true then (if a0_11 = true then (some true) else (some (a0_12 == 0))) else (if a0_9 = 0 then (if a0_10 = true then (some false) else (if a0_11 = true then (some true) else (some (a0_12 == 0)))) else (some false))) else (some false))) else (some false)) = some r := by rw [if_neg (show ¬ (false = true) by decide)] at H; exact H
            clear H
            have H := H1
            clear H1
            by_cases c46 : a0_5 = 0
            · rw [if_pos c46] at H
              have c46b0 : (a0_5 == 0) = true := beq_iff_eq.mpr c46
              have c46b1 : (a0_5 != 0) = false := bne_eq_false_iff_eq.mpr c46
              clear c46
              by_cases c47 : a0_6 = true
              · subst c47
                have H1 : (if a0_8 = true then (if a0_11 = true then (some true) else (some (a0_12 == 0))) else (if a0_9 = 0 then (if a0_10 = true then (some false) else (if a0_11 = true then (some true) else (some (a0_12 == 0)))) else (some false))) = some r := by rw [if_pos rfl] at H; exact H
                clear H
                have H := H1
                clear H1
                by_cases c48 : a0_8 = true
                · subst c48
                  have H1 : (if a0_11 = true then (some true) else (some (a0_12 == 0))) = some r := by rw [if_pos rfl] at H; exact H
                  clear H
                  have H := H1
                  clear H1
                  by_cases c49 : a0_11 = true
                  · subst c49
                    have H1 : (some true) = some r := by rw [if_pos rfl] at H; exact H
                    clear H
                    have H := H1
                    clear H1
                    obtain rfl := Option.some.inj H
                    have hcz50_0 : wc.cell? ⟨gb164, 0, none⟩ = some (.bool a0_0) := (blk_cell BK164.out 0).trans rfl
                    have hcz50_1 : wc.cell? ⟨gb164, 1, none⟩ = some (.bool a0_1) := (blk_cell BK164.out 1).trans rfl
                    have hcz50_2 : wc.cell? ⟨gb164, 2, none⟩ = some (.int .u8 a0_2) := (blk_cell BK164.out 2).trans rfl
                    have hcz50_3 : wc.cell? ⟨gb164, 3, none⟩ = some (.bool false) := (blk_cell BK164.out 3).trans rfl
                    have hcz50_4 : wc.cell? ⟨gb164, 4, none⟩ = some (.bool false) := (blk_cell BK164.out 4).trans rfl
                    have hcz50_5 : wc.cell? ⟨gb164, 5, none⟩ = some (.int .u16 a0_5) := (blk_cell BK164.out 5).trans rfl
                    have hcz50_6 : wc.cell? ⟨gb164, 6, none⟩ = some (.bool true) := (blk_cell BK164.out 6).trans rfl
                    have hcz50_7 : wc.cell? ⟨gb164, 7, none⟩ = some (.int .u8 a0_7) := (blk_cell BK164.out 7).trans rfl
                    have hcz50_8 : wc.cell? ⟨gb164, 8, none⟩ = some (.bool true) := (blk_cell BK164.out 8).trans rfl
                    have hcz50_9 : wc.cell? ⟨gb164, 9, none⟩ = some (.int .u8 a0_9) := (blk_cell BK164.out 9).trans rfl
                    have hcz50_10 : wc.cell? ⟨gb164, 10, none⟩ = some (.bool a0_10) := (blk_cell BK164.out 10).trans rfl
                    have hcz50_11 : wc.cell? ⟨gb164, 11, none⟩ = some (.bool true) := (blk_cell BK164.out 11).trans rfl
                    have hcz50_12 : wc.cell? ⟨gb164, 12, none⟩ = some (.int .u8 a0_12) := (blk_cell BK164.out 12).trans rfl
                    have hfz50_0 := blk_frozen BK164.out 0
                    have hfz50_1 := blk_frozen BK164.out 1
                    have hfz50_2 := blk_frozen BK164.out 2
                    have hfz50_3 := blk_frozen BK164.out 3
                    have hfz50_4 := blk_frozen BK164.out 4
                    have hfz50_5 := blk_frozen BK164.out 5
                    have hfz50_6 := blk_frozen BK164.out 6
                    have hfz50_7 := blk_frozen BK164.out 7
                    have hfz50_8 := blk_frozen BK164.out 8
                    have hfz50_9 := blk_frozen BK164.out 9
                    have hfz50_10 := blk_frozen BK164.out 10
                    have hfz50_11 := blk_frozen BK164.out 11
                    have hfz50_12 := blk_frozen BK164.out 12
                    go_wp2
                    go_ret
                    exact ⟨by first | rfl | (simp [errW_none, errW_some] <;> rfl) | (simp [*, errW_none, errW_some] <;> rfl), by repeat (first | (with_reducible first | exact HB.out | apply below_alloc | apply pw_below_drewN | apply below_drew1 | refine below_set ?_ GE164.out) | exact HB.out)⟩
                  · replace c49 := Bool.eq_false_iff.mpr c49
                    subst c49
                    have H1 : (some (a0_12 == 0)) = some r := by rw [if_neg (show ¬ (false = true) by decide)] at H; exact H
                    clear H
                    have H := H1
                    clear H1
                    obtain rfl := Option.some.inj H
                    have hcz51_0 : wc.cell? ⟨gb164, 0, none⟩ = some (.bool a0_0) := (blk_cell BK164.out 0).trans rfl
                    have hcz51_1 : wc.cell? ⟨gb164, 1, none⟩ = some (.bool a0_1) := (blk_cell BK164.out 1).trans rfl
                    have hcz51_2 : wc.cell? ⟨gb164, 2, none⟩ = some (.int .u8 a0_2) := (blk_cell BK164.out 2).trans rfl
                    have hcz51_3 : wc.cell? ⟨gb164, 3, none⟩ = some (.bool false) := (blk_cell BK164.out 3).trans rfl
                    have hcz51_4 : wc.cell? ⟨gb164, 4, none⟩ = some (.bool false) := (blk_cell BK164.out 4).trans rfl
                    have hcz51_5 : wc.cell? ⟨gb164, 5, none⟩ = some (.int .u16 a0_5) := (blk_cell BK164.out 5).trans rfl
                    have hcz51_6 : wc.cell? ⟨gb164, 6, none⟩ = some (.bool true) := (blk_cell BK164.out 6).trans rfl
                    have hcz51_7 : wc.cell? ⟨gb164, 7, none⟩ = some (.int .u8 a0_7) := (blk_cell BK164.out 7).trans rfl
                    have hcz51_8 : wc.cell? ⟨gb164, 8, none⟩ = some (.bool true) := (blk_cell BK164.out 8).trans rfl
                    have hcz51_9 : wc.cell? ⟨gb164, 9, none⟩ = some (.int .u8 a0_9) := (blk_cell BK164.out 9).trans rfl
                    have hcz51_10 : wc.cell? ⟨gb164, 10, none⟩ = some (.bool a0_10) := (blk_cell BK164.out 10).trans rfl
                    have hcz51_11 : wc.cell? ⟨gb164, 11, none⟩ = some (.bool false) := (blk_cell BK164.out 11).trans rfl
                    have hcz51_12 : wc.cell? ⟨gb164, 12, none⟩ = some (.int .u8 a0_12) := (blk_cell BK164.out 12).trans rfl
                    have hfz51_0 := blk_frozen BK164.out 0
                    have hfz51_1 := blk_frozen BK164.out 1
                    have hfz51_2 := blk_frozen BK164.out 2
                    have hfz51_3 := blk_frozen BK164.out 3
                    have hfz51_4 := blk_frozen BK164.out 4
                    have hfz51_5 := blk_frozen BK164.out 5
                    have hfz51_6 := blk_frozen BK164.out 6
                    have hfz51_7 := blk_frozen BK164.out 7
                    have hfz51_8 := blk_frozen BK164.out 8
                    have hfz51_9 := blk_frozen BK164.out 9
                    have hfz51_10 := blk_frozen BK164.out 10
                    have hfz51_11 := blk_frozen BK164.out 11
                    have hfz51_12 := blk_frozen BK164.out 12
                    go_wp2
                    go_ret
                    exact ⟨by first | rfl | (simp [errW_none, errW_some] <;> rfl) | (simp [*, errW_none, errW_some] <;> rfl), by repeat (first | (with_reducible first | exact HB.out | apply below_alloc | apply pw_below_drewN | apply below_drew1 | refine below_set ?_ GE164.out) | exact HB.out)⟩
                · replace c48 := Bool.eq_false_iff.mpr c48
                  subst c48
                  have H1 : (if a0_9 = 0 then (if a0_10 = true then (some false) else (if a0_11 = true then (some true) else (some (a0_12 == 0)))) else (some false)) = some r := by rw [if_neg (show ¬ (false = true) by decide)] at H; exact H
                  clear H
                  have H := H1
                  clear H1
                  by_cases c52 : a0_9 = 0
                  · rw [if_pos c52] at H
                    have c52b0 : (a0_9 == 0) = true := beq_iff_eq.mpr c52
                    have c52b1 : (a0_9 != 0) = false := bne_eq_false_iff_eq.mpr c52
                    clear c52
                    by_cases c53 : a0_10 = true
                    · subst c53
                      have H1 : (some false) = some r := by rw [if_pos rfl] at H; exact H
                      clear H
                      have H := H1
                      clear H1
                      obtain rfl := Option.some.inj H
                      have hcz54_0 : wc.cell? ⟨gb164, 0, none⟩ = some (.bool a0_0) := (blk_cell BK164.out 0).trans rfl
                      have hcz54_1 : wc.cell? ⟨gb164, 1, none⟩ = some (.bool a0_1) := (blk_cell BK164.out 1).trans rfl
                      have hcz54_2 : wc.cell? ⟨gb164, 2, none⟩ = some (.int .u8 a0_2) := (blk_cell BK164.out 2).trans rfl
                      have hcz54_3 : wc.cell? ⟨gb164, 3, none⟩ = some (.bool false) := (blk_cell BK164.out 3).trans rfl
                      have hcz54_4 : wc.cell? ⟨gb164, 4, none⟩ = some (.bool false) := (blk_cell BK164.out 4).trans rfl
                      have hcz54_5 : wc.cell? ⟨gb164, 5, none⟩ = some (.int .u16 a0_5) := (blk_cell BK164.out 5).trans rfl
                      have hcz54_6 : wc.cell? ⟨gb164, 6, none⟩ = some (.bool true) := (blk_cell BK164.out 6).trans rfl
                      have hcz54_7 : wc.cell? ⟨gb164, 7, none⟩ = some (.int .u8 a0_7) := (blk_cell BK164.out 7).trans rfl
                      have hcz54_8 : wc.cell? ⟨gb164, 8, none⟩ = some (.bool false) := (blk_cell BK164.out 8).trans rfl
                      have hcz54_9 : wc.cell? ⟨gb164, 9, none⟩ = some (.int .u8 a0_9) := (blk_cell BK164.out 9).trans rfl
                      have hcz54_10 : wc.cell? ⟨gb164, 10, none⟩ = some (.bool true) := (blk_cell BK164.out 10).trans rfl
                      have hcz54_11 : wc.cell? ⟨gb164, 11, none⟩ = some (.bool a0_11) := (blk_cell BK164.out 11).trans rfl
                      have hcz54_12 : wc.cell? ⟨gb164, 12, none⟩ = some (.int .u8 a0_12) := (blk_cell BK164.out 12).trans rfl
                      have hfz54_0 := blk_frozen BK164.out 0
                      have hfz54_1 := blk_frozen BK164.out 1
                      have hfz54_2 := blk_frozen BK164.out 2
                      have hfz54_3 := blk_frozen BK164.out 3
                      have hfz54_4 := blk_frozen BK164.out 4
                      have hfz54_5 := blk_frozen BK164.out 5
                      have hfz54_6 := blk_frozen BK164.out 6
                      have hfz54_7 := blk_frozen BK164.out 7
                      have hfz54_8 := blk_frozen BK164.out 8
                      have hfz54_9 := blk_frozen BK164.out 9
                      have hfz54_10 := blk_frozen BK164.out 10
                      have hfz54_11 := blk_frozen BK164.out 11
                      have hfz54_12 := blk_frozen BK164.out 12
                      go_wp2
                      go_ret
                      exact ⟨by first | rfl | (simp [errW_none, errW_some] <;> rfl) | (simp [*, errW_none, errW_some] <;> rfl), by repeat (first | (with_reducible first | exact HB.out | apply below_alloc | apply pw_below_drewN | apply below_drew1 | refine below_set ?_ GE164.out) | exact HB.out)⟩
                    · replace c53 := Bool.eq_false_iff.mpr c53
                      subst c53
                      have H1 : (if a0_11 = true then (some true) else (some (a0_12 == 0))) = some r := by rw [if_neg (show ¬ (false = true) by decide)] at H; exact H
                      clear H
                      have H := H1
                      clear H1
                      by_cases c55 : a0_11 = true
                      · subst c55
                        have H1 : (some true) = some r := by rw [if_pos rfl] at H; exact H
                        clear H
                        have H := H1
                        clear H1
                        obtain rfl := Option.some.inj H
                        have hcz56_0 : wc.cell? ⟨gb164, 0, none⟩ = some (.bool a0_0) := (blk_cell BK164.out 0).trans rfl
                        have hcz56_1 : wc.cell? ⟨gb164, 1, none⟩ = some (.bool a0_1) := (blk_cell BK164.out 1).trans rfl
                        have hcz56_2 : wc.cell? ⟨gb164, 2, none⟩ = some (.int .u8 a0_2) := (blk_cell BK164.out 2).trans rfl
                        have hcz56_3 : wc.cell? ⟨gb164, 3, none⟩ = some (.bool false) := (blk_cell BK164.out 3).trans rfl
                        have hcz56_4 : wc.cell? ⟨gb164, 4, none⟩ = some (.bool false) := (blk_cell BK164.out 4).trans rfl
                        have hcz56_5 : wc.cell? ⟨gb164, 5, none⟩ = some (.int .u16 a0_5) := (blk_cell BK164.out 5).trans rfl
                        have hcz56_6 : wc.cell? ⟨gb164, 6, none⟩ = some (.bool true) := (blk_cell BK164.out 6).trans rfl
                        have hcz56_7 : wc.cell? ⟨gb164, 7, none⟩ = some (.int .u8 a0_7) := (blk_cell BK164.out 7).trans rfl
                        have hcz56_8 : wc.cell? ⟨gb164, 8, none⟩ = some (.bool false) := (blk_cell BK164.out 8).trans rfl
                        have hcz56_9 : wc.cell? ⟨gb164, 9, none⟩ = some (.int .u8 a0_9) := (blk_cell BK164.out 9).trans rfl
                        have hcz56_10 : wc.cell? ⟨gb164, 10, none⟩ = some (.bool false) := (blk_cell BK164.out 10).trans rfl
                        have hcz56_11 : wc.cell? ⟨gb164, 11, none⟩ = some (.bool true) := (blk_cell BK164.out 11).trans rfl
                        have hcz56_12 : wc.cell? ⟨gb164, 12, none⟩ = some (.int .u8 a0_12) := (blk_cell BK164.out 12).trans rfl
                        have hfz56_0 := blk_frozen BK164.out 0
                        have hfz56_1 := blk_frozen BK164.out 1
                        have hfz56_2 := blk_frozen BK164.out 2
                        have hfz56_3 := blk_frozen BK164.out 3
                        have hfz56_4 := blk_frozen BK164.out 4
                        have hfz56_5 := blk_frozen BK164.out 5
                        have hfz56_6 := blk_frozen BK164.out 6
                        have hfz56_7 := blk_frozen BK164.out 7
                        have hfz56_8 := blk_frozen BK164.out 8
                        have hfz56_9 := blk_frozen BK164.out 9
                        have hfz56_10 := blk_frozen BK164.out 10
                        have hfz56_11 := blk_frozen BK164.out 11
                        have hfz56_12 := blk_frozen BK164.out 12
                        go_wp2
                        go_ret
                        exact ⟨by first | rfl | (simp [errW_none, errW_some] <;> rfl) | (simp [*, errW_none, errW_some] <;> rfl), by repeat (first | (with_reducible first | exact HB.out | apply below_alloc | apply pw_below_drewN | apply below_drew1 | refine below_set ?_ GE164.out) | exact HB.out)⟩
                      · replace c55 := Bool.eq_false_iff.mpr c55
                        subst c55
                        have H1 : (some (a0_12 == 0)) = some r := by rw [if_neg (show ¬ (false = true) by decide)] at H; exact H
                        clear H
                        have H := H1
                        clear H1
                        obtain rfl := Option.some.inj H
                        have hcz57_0 : wc.cell? ⟨gb164, 0, none⟩ = some (.bool a0_0) := (blk_cell BK164.out 0).trans rfl
                        have hcz57_1 : wc.cell? ⟨gb164, 1, none⟩ = some (.bool a0_1) := (blk_cell BK164.out 1).trans rfl
                        have hcz57_2 : wc.cell? ⟨gb164, 2, none⟩ = some (.int .u8 a0_2) := (blk_cell BK164.out 2).trans rfl
                        have hcz57_3 : wc.cell? ⟨gb164, 3, none⟩ = some (.bool false) := (blk_cell BK164.out 3).trans rfl
                        have hcz57_4 : wc.cell? ⟨gb164, 4, none⟩ = some (.bool false) := (blk_cell BK164.out 4).trans rfl
                        have hcz57_5 : wc.cell? ⟨gb164, 5, none⟩ = some (.int .u16 a0_5) := (blk_cell BK164.out 5).trans rfl
                        have hcz57_6 : wc.cell? ⟨gb164, 6, none⟩ = some (.bool true) := (blk_cell BK164.out 6).trans rfl
                        have hcz57_7 : wc.cell? ⟨gb164, 7, none⟩ = some (.int .u8 a0_7) := (blk_cell BK164.out 7).trans rfl
                        have hcz57_8 : wc.cell? ⟨gb164, 8, none⟩ = some (.bool false) := (blk_cell BK164.out 8).trans rfl
                        have hcz57_9 : wc.cell? ⟨gb164, 9, none⟩ = some (.int .u8 a0_9) := (blk_cell BK164.out 9).trans rfl
                        have hcz57_10 : wc.cell? ⟨gb164, 10, none⟩ = some (.bool false) := (blk_cell BK164.out 10).trans rfl
                        have hcz57_11 : wc.cell? ⟨gb164, 11, none⟩ = some (.bool false) := (blk_cell BK164.out 11).trans rfl
                        have hcz57_12 : wc.cell? ⟨gb164, 12, none⟩ = some (.int .u8 a0_12) := (blk_cell BK164.out 12).trans rfl
                        have hfz57_0 := blk_frozen BK164.out 0
                        have hfz57_1 := blk_frozen BK164.out 1
                        have hfz57_2 := blk_frozen BK164.out 2
                        have hfz57_3 := blk_frozen BK164.out 3
                        have hfz57_4 := blk_frozen BK164.out 4
                        have hfz57_5 := blk_frozen BK164.out 5
                        have hfz57_6 := blk_frozen BK164.out 6
                        have hfz57_7 := blk_frozen BK164.out 7
                        have hfz57_8 := blk_frozen BK164.out 8
                        have hfz57_9 := blk_frozen BK164.out 9
                        have hfz57_10 := blk_frozen BK164.out 10
                        have hfz57_11 := blk_frozen BK164.out 11
                        have hfz57_12 := blk_frozen BK164.out 12
                        go_wp2
                        go_ret
                        exact ⟨by first | rfl | (simp [errW_none, errW_some] <;> rfl) | (simp [*, errW_none, errW_some] <;> rfl), by repeat (first | (with_reducible first | exact HB.out | apply below_alloc | apply pw_below_drewN | apply below_drew1 | refine below_set ?_ GE164.out) | exact HB.out)⟩
                  · rw [if_neg c52] at H
                    have c52b0 : (a0_9 == 0) = false := beq_eq_false_iff_ne.mpr c52
                    have c52b1 : (a0_9 != 0) = true := bne_iff_ne.mpr c52
                    obtain rfl := Option.some.inj H
                    have hcz58_0 : wc.cell? ⟨gb164, 0, none⟩ = some (.bool a0_0) := (blk_cell BK164.out 0).trans rfl
                    have hcz58_1 : wc.cell? ⟨gb164, 1, none⟩ = some (.bool a0_1) := (blk_cell BK164.out 1).trans rfl
                    have hcz58_2 : wc.cell? ⟨gb164, 2, none⟩ = some (.int .u8 a0_2) := (blk_cell BK164.out 2).trans rfl
                    have hcz58_3 : wc.cell? ⟨gb164, 3, none⟩ = some (.bool false) := (blk_cell BK164.out 3).trans rfl
                    have hcz58_4 : wc.cell? ⟨gb164, 4, none⟩ = some (.bool false) := (blk_cell BK164.out 4).trans rfl
                    have hcz58_5 : wc.cell? ⟨gb164, 5, none⟩ = some (.int .u16 a0_5) := (blk_cell BK164.out 5).trans rfl
                    have hcz58_6 : wc.cell? ⟨gb164, 6, none⟩ = some (.bool true) := (blk_cell BK164.out 6).trans rfl
                    have hcz58_7 : wc.cell? ⟨gb164, 7, none⟩ = some (.int .u8 a0_7) := (blk_cell BK164.out 7).trans rfl
                    have hcz58_8 : wc.cell? ⟨gb164, 8, none⟩ = some (.bool false) := (blk_cell BK164.out 8).trans rfl
                    have hcz58_9 : wc.cell? ⟨gb164, 9, none⟩ = some (.int .u8 a0_9) := (blk_cell BK164.out 9).trans rfl
                    have hcz58_10 : wc.cell? ⟨gb164, 10, none⟩ = some (.bool a0_10) := (blk_cell BK164.out 10).trans rfl
                    have hcz58_11 : wc.cell? ⟨gb164, 11, none⟩ = some (.bool a0_11) := (blk_cell BK164.out 11).trans rfl
                    have hcz58_12 : wc.cell? ⟨gb164, 12, none⟩ = some (.int .u8 a0_12) := (blk_cell BK164.out 12).trans rfl
                    have hfz58_0 := blk_frozen BK164.out 0
                    have hfz58_1 := blk_frozen BK164.out 1
                    have hfz58_2 := blk_frozen BK164.out 2
                    have hfz58_3 := blk_frozen BK164.out 3
                    have hfz58_4 := blk_frozen BK164.out 4
                    have hfz58_5 := blk_frozen BK164.out 5
                    have hfz58_6 := blk_frozen BK164.out 6
                    have hfz58_7 := blk_frozen BK164.out 7
                    have hfz58_8 := blk_frozen BK164.out 8
                    have hfz58_9 := blk_frozen BK164.out 9
                    have hfz58_10 := blk_frozen BK164.out 10
                    have hfz58_11 := blk_frozen BK164.out 11
                    have hfz58_12 := blk_frozen BK164.out 12
                    go_wp2
                    go_ret
                    exact ⟨by first | rfl | (simp [errW_none, errW_some] <;> rfl) | (simp [*, errW_none, errW_some] <;> rfl), by repeat (first | (with_reducible first | exact HB.out | apply below_alloc | apply pw_below_drewN | apply below_drew1 | refine below_set ?_ GE164.out) | exact HB.out)⟩
              · replace c47 := Bool.eq_false_iff.mpr c47
                subst c47
                have H1 : (if a0_7 = 0 then (if a0_8 = true then (if a0_11 = true then (some true) else (some (a0_12 == 0))) else (if a0_9 = 0 then (if a0_10 = true then (some false) else (if a0_11 = true then (some true) else (some (a0_12 == 0)))) else (some false))) else (some false)) = some r := by rw [if_neg (show ¬ (false = true) by decide)] at H; exact H
                clear H
                have H := H1
                clear H1
                by_cases c59 : a0_7 = 0
                · rw [if_pos c59] at H
                  have c59b0 : (a0_7 == 0) = true := beq_iff_eq.mpr c59
                  have c59b1 : (a0_7 != 0) = false := bne_eq_false_iff_eq.mpr c59
                  clear c59
                  by_cases c60 : a0_8 = true
                  · subst c60
                    have H1 : (if a0_11 = true then (some true) else (some (a0_12 == 0))) = some r := by rw [if_pos rfl] at H; exact H
                    clear H
                    have H := H1
                    clear H1
                    by_cases c61 : a0_11 = true
                    · subst c61
                      have H1 : (some true) = some r := by rw [if_pos rfl] at H; exact H
                      clear H
                      have H := H1
                      clear H1
                      obtain rfl := Option.some.inj H
                      have hcz62_0 : wc.cell? ⟨gb164, 0, none⟩ = some (.bool a0_0) := (blk_cell BK164.out 0).trans rfl
                      have hcz62_1 : wc.cell? ⟨gb164, 1, none⟩ = some (.bool a0_1) := (blk_cell BK164.out 1).trans rfl
                      have hcz62_2 : wc.cell? ⟨gb164, 2, none⟩ = some (.int .u8 a0_2) := (blk_cell BK164.out 2).trans rfl
                      have hcz62_3 : wc.cell? ⟨gb164, 3, none⟩ = some (.bool false) := (blk_cell BK164.out 3).trans rfl
                      have hcz62_4 : wc.cell? ⟨gb164, 4, none⟩ = some (.bool false) := (blk_cell BK164.out 4).trans rfl
                      have hcz62_5 : wc.cell? ⟨gb164, 5, none⟩ = some (.int .u16 a0_5) := (blk_cell BK164.out 5).trans rfl
                      have hcz62_6 : wc.cell? ⟨gb164, 6, none⟩ = some (.bool false) := (blk_cell BK164.out 6).trans rfl
                      have hcz62_7 : wc.cell? ⟨gb164, 7, none⟩ = some (.int .u8 a0_7) := (blk_cell BK164.out 7).trans rfl
                      have hcz62_8 : wc.cell? ⟨gb164, 8, none⟩ = some (.bool true) := (blk_cell BK164.out 8).trans rfl
                      have hcz62_9 : wc.cell? ⟨gb164, 9, none⟩ = some (.int .u8 a0_9) := (blk_cell BK164.out 9).trans rfl
                      have hcz62_10 : wc.cell? ⟨gb164, 10, none⟩ = some (.bool a0_10) := (blk_cell BK164.out 10).trans rfl
                      have hcz62_11 : wc.cell? ⟨gb164, 11, none⟩ = some (.bool true) := (blk_cell BK164.out 11).trans rfl
                      have hcz62_12 : wc.cell? ⟨gb164, 12, none⟩ = some (.int .u8 a0_12) := (blk_cell BK164.out 12).trans rfl
                      have hfz62_0 := blk_frozen BK164.out 0
                      have hfz62_1 := blk_frozen BK164.out 1
                      have hfz62_2 := blk_frozen BK164.out 2
                      have hfz62_3 := blk_frozen BK164.out 3
                      have hfz62_4 := blk_frozen BK164.out 4
                      have hfz62_5 := blk_frozen BK164.out 5
                      have hfz62_6 := blk_frozen BK164.out 6
                      have hfz62_7 := blk_frozen BK164.out 7
                      have hfz62_8 := blk_frozen BK164.out 8
                      have hfz62_9 := blk_frozen BK164.out 9
                      have hfz62_10 := blk_frozen BK164.out 10
                      have hfz62_11 := blk_frozen BK164.out 11
                      have hfz62_12 := blk_frozen BK164.out 12
                      go_wp2
                      go_ret
                      exact ⟨by first | rfl | (simp [errW_none, errW_some] <;> rfl) | (simp [*, errW_none, errW_some] <;> rfl), by repeat (first | (with_reducible first | exact HB.out | apply below_alloc | apply pw_below_drewN | apply below_drew1 | refine below_set ?_ GE164.out) | exact HB.out)⟩
                    · replace c61 := Bool.eq_false_iff.mpr c61
                      subst c61
                      have H1 : (some (a0_12 == 0)) = some r := by rw [if_neg (show ¬ (false = true) by decide)] at H; exact H
                      clear H
                      have H := H1
                      clear H1
                      obtain rfl := Option.some.inj H
                      have hcz63_0 : wc.cell? ⟨gb164, 0, none⟩ = some (.bool a0_0) := (blk_cell BK164.out 0).trans rfl
                      have hcz63_1 : wc.cell? ⟨gb164, 1, none⟩ = some (.bool a0_1) := (blk_cell BK164.out 1).trans rfl
                      have hcz63_2 : wc.cell? ⟨gb164, 2, none⟩ = some (.int .u8 a0_2) := (blk_cell BK164.out 2).trans rfl
                      have hcz63_3 : wc.cell? ⟨gb164, 3, none⟩ = some (.bool false) := (blk_cell BK164.out 3).trans rfl
                      have hcz63_4 : wc.cell? ⟨gb164, 4, none⟩ = some (.bool false) := (blk_cell BK164.out 4).trans rfl
                      have hcz63_5 : wc.cell? ⟨gb164, 5, none⟩ = some (.int .u16 a0_5) := (blk_cell BK164.out 5).trans rfl
                      have hcz63_6 : wc.cell? ⟨gb164, 6, none⟩ = some (.bool false) := (blk_cell BK164.out 6).trans rfl
                      have hcz63_7 : wc.cell? ⟨gb164, 7, none⟩ = some (.int .u8 a0_7) := (blk_cell BK164.out 7).trans rfl
                      have hcz63_8 : wc.cell? ⟨gb164, 8, none⟩ = some (.bool true) := (blk_cell BK164.out 8).trans rfl
                      have hcz63_9 : wc.cell? ⟨gb164, 9, none⟩ = some (.int .u8 a0_9) := (blk_cell BK164.out 9).trans rfl
                      have hcz63_10 : wc.cell? ⟨gb164, 10, none⟩ = some (.bool a0_10) := (blk_cell BK164.out 10).trans rfl
                      have hcz63_11 : wc.cell? ⟨gb164, 11, none⟩ = some (.bool false) := (blk_cell BK164.out 11).trans rfl
                      have hcz63_12 : wc.cell? ⟨gb164, 12, none⟩ = some (.int .u8 a0_12) := (blk_cell BK164.out 12).trans rfl
                      have hfz63_0 := blk_frozen BK164.out 0
                      have hfz63_1 := blk_frozen BK164.out 1
                      have hfz63_2 := blk_frozen BK164.out 2
                      have hfz63_3 := blk_frozen BK164.out 3
                      have hfz63_4 := blk_frozen BK164.out 4
                      have hfz63_5 := blk_frozen BK164.out 5
                      have hfz63_6 := blk_frozen BK164.out 6
                      have hfz63_7 := blk_frozen BK164.out 7
                      have hfz63_8 := blk_frozen BK164.out 8
                      have hfz63_9 := blk_frozen BK164.out 9
                      have hfz63_10 := blk_frozen BK164.out 10
                      have hfz63_11 := blk_frozen BK164.out 11
                      have hfz63_12 := blk_frozen BK164.out 12
                      go_wp2
                      go_ret
                      exact ⟨by first | rfl | (simp [errW_none, errW_some] <;> rfl) | (simp [*, errW_none, errW_some] <;> rfl), by repeat (first | (with_reducible first | exact HB.out | apply below_alloc | apply pw_below_drewN | apply below_drew1 | refine below_set ?_ GE164.out) | exact HB.out)⟩
                  · replace c60 := Bool.eq_false_iff.mpr c60
                    subst c60
                    have H1 : (if a0_9 = 0 then (if a0_10 = true then (some false) else (if a0_11 = true then (some true) else (some (a0_12 == 0)))) else (some false)) = some r := by rw [if_neg (show ¬ (false = true) by decide)] at H; exact H
                    clear H
                    have H := H1
                    clear H1
                    by_cases c64 : a0_9 = 0
                    · rw [if_pos c64] at H
                      have c64b0 : (a0_9 == 0) = true := beq_iff_eq.mpr c64
                      have c64b1 : (a0_9 != 0) = false := bne_eq_false_iff_eq.mpr c64
                      clear c64
                      by_cases c65 : a0_10 = true
                      · subst c65
                        have H1 : (some false) = some r := by rw [if_pos rfl] at H; exact H
                        clear H
                        have H := H1
                        clear H1
                        obtain rfl := Option.some.inj H
                        have hcz66_0 : wc.cell? ⟨gb164, 0, none⟩ = some (.bool a0_0) := (blk_cell BK164.out 0).trans rfl
                        have hcz66_1 : wc.cell? ⟨gb164, 1, none⟩ = some (.bool a0_1) := (blk_cell BK164.out 1).trans rfl
                        have hcz66_2 : wc.cell? ⟨gb164, 2, none⟩ = some (.int .u8 a0_2) := (blk_cell BK164.out 2).trans rfl
                        have hcz66_3 : wc.cell? ⟨gb164, 3, none⟩ = some (.bool false) := (blk_cell BK164.out 3).trans rfl
                        have hcz66_4 : wc.cell? ⟨gb164, 4, none⟩ = some (.bool false) := (blk_cell BK164.out 4).trans rfl
                        have hcz66_5 : wc.cell? ⟨gb164, 5, none⟩ = some (.int .u16 a0_5) := (blk_cell BK164.out 5).trans rfl
                        have hcz66_6 : wc.cell? ⟨gb164, 6, none⟩ = some (.bool false) := (blk_cell BK164.out 6).trans rfl
                        have hcz66_7 : wc.cell? ⟨gb164, 7, none⟩ = some (.int .u8 a0_7) := (blk_cell BK164.out 7).trans rfl
                        have hcz66_8 : wc.cell? ⟨gb164, 8, none⟩ = some (.bool false) := (blk_cell BK164.out 8).trans rfl
                        have hcz66_9 : wc.cell? ⟨gb164, 9, none⟩ = some (.int .u8 a0_9) := (blk_cell BK164.out 9).trans rfl
                        have hcz66_10 : wc.cell? ⟨gb164, 10, none⟩ = some (.bool true) := (blk_cell BK164.out 10).trans rfl
                        have hcz66_11 : wc.cell? ⟨gb164, 11, none⟩ = some (.bool a0_11) := (blk_cell BK164.out 11).trans rfl
                        have hcz66_12 : wc.cell? ⟨gb164, 12, none⟩ = some (.int .u8 a0_12) := (blk_cell BK164.out 12).trans rfl
                        have hfz66_0 := blk_frozen BK164.out 0
                        have hfz66_1 := blk_frozen BK164.out 1
                        have hfz66_2 := blk_frozen BK164.out 2
                        have hfz66_3 := blk_frozen BK164.out 3
                        have hfz66_4 := blk_frozen BK164.out 4
                        have hfz66_5 := blk_frozen BK164.out 5
                        have hfz66_6 := blk_frozen BK164.out 6
                        have hfz66_7 := blk_frozen BK164.out 7
                        have hfz66_8 := blk_frozen BK164.out 8
                        have hfz66_9 := blk_frozen BK164.out 9
                        have hfz66_10 := blk_frozen BK164.out 10
                        have hfz66_11 := blk_frozen BK164.out 11
                        have hfz66_12 := blk_frozen BK164.out 12
                        go_wp2
                        go_ret
                        exact ⟨by first | rfl | (simp [errW_none, errW_some] <;> rfl) | (simp [*, errW_none, errW_some] <;> rfl), by repeat (first | (with_reducible first | exact HB.out | apply below_alloc | apply pw_below_drewN | apply below_drew1 | refine below_set ?_ GE164.out) | exact HB.out)⟩
                      · replace c65 := Bool.eq_false_iff.mpr c65
                        subst c65
                        have H1 : (if a0_11 = true then (some true) else (some (a0_12 == 0))) = some r := by rw [if_neg (show ¬ (false = true) by decide)] at H; exact H
                        clear H
                        have H := H1
                        clear H1
                        by_cases c67 : a0_11 = true
                        · subst c67
                          have H1 : (some true) = some r := by rw [if_pos rfl] at H; exact H
                          clear H
                          have H := H1
                          clear H1
                          obtain rfl := Option.some.inj H
                          have hcz68_0 : wc.cell? ⟨gb164, 0, none⟩ = some (.bool a0_0) := (blk_cell BK164.out 0).trans rfl
                          have hcz68_1 : wc.cell? ⟨gb164, 1, none⟩ = some (.bool a0_1) := (blk_cell BK164.out 1).trans rfl
                          have hcz68_2 : wc.cell? ⟨gb164, 2, none⟩ = some (.int .u8 a0_2) := (blk_cell BK164.out 2).trans rfl
                          have hcz68_3 : wc.cell? ⟨gb164, 3, none⟩ = some (.bool false) := (blk_cell BK164.out 3).trans rfl
                          have hcz68_4 : wc.cell? ⟨gb164, 4, none⟩ = some (.bool false) := (blk_cell BK164.out 4).trans rfl
                          have hcz68_5 : wc.cell? ⟨gb164, 5, none⟩ = some (.int .u16 a0_5) := (blk_cell BK164.out 5).trans rfl
                          have hcz68_6 : wc.cell? ⟨gb164, 6, none⟩ = some (.bool false) := (blk_cell BK164.out 6).trans rfl
                          have hcz68_7 : wc.cell? ⟨gb164, 7, none⟩ = some (.int .u8 a0_7) := (blk_cell BK164.out 7).trans rfl
                          have hcz68_8 : wc.cell? ⟨gb164, 8, none⟩ = some (.bool false) := (blk_cell BK164.out 8).trans rfl
                          have hcz68_9 : wc.cell? ⟨gb164, 9, none⟩ = some (.int .u8 a0_9) := (blk_cell BK164.out 9).trans rfl
                          have hcz68_10 : wc.cell? ⟨gb164, 10, none⟩ = some (.bool false) := (blk_cell BK164.out 10).trans rfl
                          have hcz68_11 : wc.cell? ⟨gb164, 11, none⟩ = some (.bool true) := (blk_cell BK164.out 11).trans rfl
                          have hcz68_12 : wc.cell? ⟨gb164, 12, none⟩ = some (.int .u8 a0_12) := (blk_cell BK164.out 12).trans rfl
                          have hfz68_0 := blk_frozen BK164.out 0
                          have hfz68_1 := blk_frozen BK164.out 1
                          have hfz68_2 := blk_frozen BK164.out 2
                          have hfz68_3 := blk_frozen BK164.out 3
                          have hfz68_4 := blk_frozen BK164.out 4
                          have hfz68_5 := blk_frozen BK164.out 5
                          have hfz68_6 := blk_frozen BK164.out 6
                          have hfz68_7 := blk_frozen BK164.out 7
                          have hfz68_8 := blk_frozen BK164.out 8
                          have hfz68_9 := blk_frozen BK164.out 9
                          have hfz68_10 := blk_frozen BK164.out 10
                          have hfz68_11 := blk_frozen BK164.out 11
                          have hfz68_12 := blk_frozen BK164.out 12
                          go_wp2
                          go_ret
                          exact ⟨by first | rfl | (simp [errW_none, errW_some] <;> rfl) | (simp [*, errW_none, errW_some] <;> rfl), by repeat (first | (with_reducible first | exact HB.out | apply below_alloc | apply pw_below_drewN | apply below_drew1 | refine below_set ?_ GE164.out) | exact HB.out)⟩
                        · replace c67 := Bool.eq_false_iff.mpr c67
                          subst c67
                          have H1 : (some (a0_12 == 0)) = some r := by rw [if_neg (show ¬ (false = true) by decide)] at H; exact H
                          clear H
                          have H := H1
                          clear H1
                          obtain rfl := Option.some.inj H
                          have hcz69_0 : wc.cell? ⟨gb164, 0, none⟩ = some (.bool a0_0) := (blk_cell BK164.out 0).trans rfl
                          have hcz69_1 : wc.cell? ⟨gb164, 1, none⟩ = some (.bool a0_1) := (blk_cell BK164.out 1).trans rfl
                          have hcz69_2 : wc.cell? ⟨gb164, 2, none⟩ = some (.int .u8 a0_2) := (blk_cell BK164.out 2).trans rfl
                          have hcz69_3 : wc.cell? ⟨gb164, 3, none⟩ = some (.bool false) := (blk_cell BK164.out 3).trans rfl
                          have hcz69_4 : wc.cell? ⟨gb164, 4, none⟩ = some (.bool false) := (blk_cell BK164.out 4).trans rfl
                          have hcz69_5 : wc.cell? ⟨gb164, 5, none⟩ = some (.int .u16 a0_5) := (blk_cell BK164.out 5).trans rfl
                          have hcz69_6 : wc.cell? ⟨gb164, 6, none⟩ = some (.bool false) := (blk_cell BK164.out 6).trans rfl
                          have hcz69_7 : wc.cell? ⟨gb164, 7, none⟩ = some (.int .u8 a0_7) := (blk_cell BK164.out 7).trans rfl
                          have hcz69_8 : wc.cell? ⟨gb164, 8, none⟩ = some (.bool false) := (blk_cell BK164.out 8).trans rfl
                          have hcz69_9 : wc.cell? ⟨gb164, 9, none⟩ = some (.int .u8 a0_9) := (blk_cell BK164.out 9).trans rfl
                          have hcz69_10 : wc.cell? ⟨gb164, 10, none⟩ = some (.bool false) := (blk_cell BK164.out 10).trans rfl
                          have hcz69_11 : wc.cell? ⟨gb164, 11, none⟩ = some (.bool false) := (blk_cell BK164.out 11).trans rfl
                          have hcz69_12 : wc.cell? ⟨gb164, 12, none⟩ = some (.int .u8 a0_12) := (blk_cell BK164.out 12).trans rfl
                          have hfz69_0 := blk_frozen BK164.out 0
                          have hfz69_1 := blk_frozen BK164.out 1
                          have hfz69_2 := blk_frozen BK164.out 2
                          have hfz69_3 := blk_frozen BK164.out 3
                          have hfz69_4 := blk_frozen BK164.out 4
                          have hfz69_5 := blk_frozen BK164.out 5
                          have hfz69_6 := blk_frozen BK164.out 6
                          have hfz69_7 := blk_frozen BK164.out 7
                          have hfz69_8 := blk_frozen BK164.out 8
                          have hfz69_9 := blk_frozen BK164.out 9
                          have hfz69_10 := blk_frozen BK164.out 10
                          have hfz69_11 := blk_frozen BK164.out 11
                          have hfz69_12 := blk_frozen BK164.out 12
                          go_wp2
                          go_ret
                          exact ⟨by first | rfl | (simp [errW_none, errW_some] <;> rfl) | (simp [*, errW_none, errW_some] <;> rfl), by repeat (first | (with_reducible first | exact HB.out | apply below_alloc | apply pw_below_drewN | apply below_drew1 | refine below_set ?_ GE164.out) | exact HB.out)⟩
                    · rw [if_neg c64] at H
                      have c64b0 : (a0_9 == 0) = false := beq_eq_false_iff_ne.mpr c64
                      have c64b1 : (a0_9 != 0) = true := bne_iff_ne.mpr c64
                      obtain rfl := Option.some.inj H
                      have hcz70_0 : wc.cell? ⟨gb164, 0, none⟩ = some (.bool a0_0) := (blk_cell BK164.out 0).trans rfl
                      have hcz70_1 : wc.cell? ⟨gb164, 1, none⟩ = some (.bool a0_1) := (blk_cell BK164.out 1).trans rfl
                      have hcz70_2 : wc.cell? ⟨gb164, 2, none⟩ = some (.int .u8 a0_2) := (blk_cell BK164.out 2).trans rfl
                      have hcz70_3 : wc.cell? ⟨gb164, 3, none⟩ = some (.bool false) := (blk_cell BK164.out 3).trans rfl
                      have hcz70_4 : wc.cell? ⟨gb164, 4, none⟩ = some (.bool false) := (blk_cell BK164.out 4).trans rfl
                      have hcz70_5 : wc.cell? ⟨gb164, 5, none⟩ = some (.int .u16 a0_5) := (blk_cell BK164.out 5).trans rfl
                      have hcz70_6 : wc.cell? ⟨gb164, 6, none⟩ = some (.bool false) := (blk_cell BK164.out 6).trans rfl
                      have hcz70_7 : wc.cell? ⟨gb164, 7, none⟩ = some (.int .u8 a0_7) := (blk_cell BK164.out 7).trans rfl
                      have hcz70_8 : wc.cell? ⟨gb164, 8, none⟩ = some (.bool false) := (blk_cell BK164.out 8).trans rfl
                      have hcz70_9 : wc.cell? ⟨gb164, 9, none⟩ = some (.int .u8 a0_9) := (blk_cell BK164.out 9).trans rfl
                      have hcz70_10 : wc.cell? ⟨gb164, 10, none⟩ = some (.bool a0_10) := (blk_cell BK164.out 10).trans rfl
                      have hcz70_11 : wc.cell? ⟨gb164, 11, none⟩ = some (.bool a0_11) := (blk_cell BK164.out 11).trans rfl
                      have hcz70_12 : wc.cell? ⟨gb164, 12, none⟩ = some (.int .u8 a0_12) := (blk_cell BK164.out 12).trans rfl
                      have hfz70_0 := blk_frozen BK164.out 0
                      have hfz70_1 := blk_frozen BK164.out 1
                      have hfz70_2 := blk_frozen BK164.out 2
                      have hfz70_3 := blk_frozen BK164.out 3
                      have hfz70_4 := blk_frozen BK164.out 4
                      have hfz70_5 := blk_frozen BK164.out 5
                      have hfz70_6 := blk_frozen BK164.out 6
                      have hfz70_7 := blk_frozen BK164.out 7
                      have hfz70_8 := blk_frozen BK164.out 8
                      have hfz70_9 := blk_frozen BK164.out 9
                      have hfz70_10 := blk_frozen BK164.out 10
                      have hfz70_11 := blk_frozen BK164.out 11
                      have hfz70_12 := blk_frozen BK164.out 12
                      go_wp2
                      go_ret
                      exact ⟨by first | rfl | (simp [errW_none, errW_some] <;> rfl) | (simp [*, errW_none, errW_some] <;> rfl), by repeat (first | (with_reducible first | exact HB.out | apply below_alloc | apply pw_below_drewN | apply below_drew1 | refine below_set ?_ GE164.out) | exact HB.out)⟩
                · rw [if_neg c59] at H
                  have c59b0 : (a0_7 == 0) = false := beq_eq_false_iff_ne.mpr c59
                  have c59b1 : (a0_7 != 0) = true := bne_iff_ne.mpr c59
                  obtain rfl := Option.some.inj H
                  have hcz71_0 : wc.cell? ⟨gb164, 0, none⟩ = some (.bool a0_0) := (blk_cell BK164.out 0).trans rfl
                  have hcz71_1 : wc.cell? ⟨gb164, 1, none⟩ = some (.bool a0_1) := (blk_cell BK164.out 1).trans rfl
                  have hcz71_2 : wc.cell? ⟨gb164, 2, none⟩ = some (.int .u8 a0_2) := (blk_cell BK164.out 2).trans rfl
                  have hcz71_3 : wc.cell? ⟨gb164, 3, none⟩ = some (.bool false) := (blk_cell BK164.out 3).trans rfl
                  have hcz71_4 : wc.cell? ⟨gb164, 4, none⟩ = some (.bool false) := (blk_cell BK164.out 4).trans rfl
                  have hcz71_5 : wc.cell? ⟨gb164, 5, none⟩ = some (.int .u16 a0_5) := (blk_cell BK164.out 5).trans rfl
                  have hcz71_6 : wc.cell? ⟨gb164, 6, none⟩ = some (.bool false) := (blk_cell BK164.out 6).trans rfl
                  have hcz71_7 : wc.cell? ⟨gb164, 7, none⟩ = some (.int .u8 a0_7) := (blk_cell BK164.out 7).trans rfl
                  have hcz71_8 : wc.cell? ⟨gb164, 8, none⟩ = some (.bool a0_8) := (blk_cell BK164.out 8).trans rfl
                  have hcz71_9 : wc.cell? ⟨gb164, 9, none⟩ = some (.int .u8 a0_9) := (blk_cell BK164.out 9).trans rfl
                  have hcz71_10 : wc.cell? ⟨gb164, 10, none⟩ = some (.bool a0_10) := (blk_cell BK164.out 10).trans rfl
                  have hcz71_11 : wc.cell? ⟨gb164, 11, none⟩ = some (.bool a0_11) := (blk_cell BK164.out 11).trans rfl
                  have hcz71_12 : wc.cell? ⟨gb164, 12, none⟩ = some (.int .u8 a0_12) := (blk_cell BK164.out 12).trans rfl
                  have hfz71_0 := blk_frozen BK164.out 0
                  have hfz71_1 := blk_frozen BK164.out 1
                  have hfz71_2 := blk_frozen BK164.out 2
                  have hfz71_3 := blk_frozen BK164.out 3
                  have hfz71_4 := blk_frozen BK164.out 4
                  have hfz71_5 := blk_frozen BK164.out 5
                  have hfz71_6 := blk_frozen BK164.out 6
                  have hfz71_7 := blk_frozen BK164.out 7
                  have hfz71_8 := blk_frozen BK164.out 8
                  have hfz71_9 := blk_frozen BK164.out 9
                  have hfz71_10 := blk_frozen BK164.out 10
                  have hfz71_11 := blk_frozen BK164.out 11
                  have hfz71_12 := blk_frozen BK164.out 12
                  go_wp2
                  go_ret
                  exact ⟨by first | rfl | (simp [errW_none, errW_some] <;> rfl) | (simp [*, errW_none, errW_some] <;> rfl), by repeat (first | (with_reducible first | exact HB.out | apply below_alloc | apply pw_below_drewN | apply below_drew1 | refine below_set ?_ GE164.out) | exact HB.out)⟩
            · rw [if_neg c46] at H
              have c46b0 : (a0_5 == 0) = false := beq_eq_false_iff_ne.mpr c46
              have c46b1 : (a0_5 != 0) = true := bne_iff_ne.mpr c46
              obtain rfl := Option.some.inj H
              have hcz72_0 : wc.cell? ⟨gb164, 0, none⟩ = some (.bool a0_0) := (blk_cell BK164.out 0).trans rfl
              have hcz72_1 : wc.cell? ⟨gb164, 1, none⟩ = some (.bool a0_1) := (blk_cell BK164.out 1).trans rfl
              have hcz72_2 : wc.cell? ⟨gb164, 2, none⟩ = some (.int .u8 a0_2) := (blk_cell BK164.out 2).trans rfl
              have hcz72_3 : wc.cell? ⟨gb164, 3, none⟩ = some (.bool false) := (blk_cell BK164.out 3).trans rfl
              have hcz72_4 : wc.cell? ⟨gb164, 4, none⟩ = some (.bool false) := (blk_cell BK164.out 4).trans rfl
              have hcz72_5 : wc.cell? ⟨gb164, 5, none⟩ = some (.int .u16 a0_5) := (blk_cell BK164.out 5).trans rfl
              have hcz72_6 : wc.cell? ⟨gb164, 6, none⟩ = some (.bool a0_6) := (blk_cell BK164.out 6).trans rfl
              have hcz72_7 : wc.cell? ⟨gb164, 7, none⟩ = some (.int .u8 a0_7) := (blk_cell BK164.out 7).trans rfl
              have hcz72_8 : wc.cell? ⟨gb164, 8, none⟩ = some (.bool a0_8) := (blk_cell BK164.out 8).trans rfl
              have hcz72_9 : wc.cell? ⟨gb164, 9, none⟩ = some (.int .u8 a0_9) := (blk_cell BK164.out 9).trans rfl
              have hcz72_10 : wc.cell? ⟨gb164, 10, none⟩ = some (.bool a0_10) := (blk_cell BK164.out 10).trans rfl
              have hcz72_11 : wc.cell? ⟨gb164, 11, none⟩ = some (.bool a0_11) := (blk_cell BK164.out 11).trans rfl
              have hcz72_12 : wc.cell? ⟨gb164, 12, none⟩ = some (.int .u8 a0_12) := (blk_cell BK164.out 12).trans rfl
              have hfz72_0 := blk_frozen BK164.out 0
              have hfz72_1 := blk_frozen BK164.out 1
              have hfz72_2 := blk_frozen BK164.out 2
              have hfz72_3 := blk_frozen BK164.out 3
              have hfz72_4 := blk_frozen BK164.out 4
              have hfz72_5 := blk_frozen BK164.out 5
              have hfz72_6 := blk_frozen BK164.out 6
              have hfz72_7 := blk_frozen BK164.out 7
              have hfz72_8 := blk_frozen BK164.out 8
              have hfz72_9 := blk_frozen BK164.out 9
              have hfz72_10 := blk_frozen BK164.out 10
              have hfz72_11 := blk_frozen BK164.out 11
              have hfz72_12 := blk_frozen BK164.out 12
              go_wp2
              go_ret
              exact ⟨by first | rfl | (simp [errW_none, errW_some] <;> rfl) | (simp [*, errW_none, errW_some] <;> rfl), by repeat (first | (with_reducible first | exact HB.out | apply below_alloc | apply pw_below_drewN | apply below_drew1 | refine below_set ?_ GE164.out) | exact HB.out)⟩

end Go.Proofs.Ythgjhdcifdfhoaa.K5
