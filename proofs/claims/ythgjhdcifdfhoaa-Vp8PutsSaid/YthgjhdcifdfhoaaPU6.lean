/- Texts of this session, one behind the other, what the row does not use left out: walks and laws over plain data. -/
import Derived.Test.YthgjhdcifdfhoaaPU2
import Derived.LoopN
import Derived.Lib.AppendZerosOnto

namespace Go.Proofs.Ythgjhdcifdfhoaa.V5
open Go.RowKit Go.Proofs.Ythgjhdcifdfhoaa
set_option linter.unusedVariables false
set_option linter.unusedSimpArgs false

set_option maxHeartbeats 2000000 in
set_option maxRecDepth 100000 in
theorem GrowB_nil (w : World) (c : Int) (n : Nat) (hc : c = n) (hn : n ≤ 1000000000) :
    Calls Try.prog 93 #[.slice none 0 0, .int .i64 c] w fun e w' => ∃ v', e = .returned v' ∧ w'.ownsRow w.heap.size 5 1 v' 0 [] ∧ Kp (fun _ => True) w w' := by
  subst hc
  obtain ⟨i0, hi, hz0, hz1, hz2⟩ := info_parts Try.info_u8
  have hw0 : wrap64 ((n : Int) - 0) = n := by unfold wrap64; omega
  have hneg : decide ((n : Int) < 0) = false := decide_eq_false (by omega)
  by_cases h0 : n = 0
  · subst h0
    go_enter Try.func93, Try.ntmps93
    go_wp2
    go_ret
    exact ⟨_, rfl, World.ownsRow_nil _ _ _ _, Kp.refl _ _⟩
  · have hpos : decide ((n : Int) > 0) = true := decide_eq_true (by omega)
    have hrz : ∀ ty, (Builtin.append_ #[22, 3] ty #[.slice none 0 0, .int .i64 (n : Int)]).run Try.prog w =
        .ok (.slice (some ⟨w.heap.size, 0, none⟩) n (grownCap w n 0 5)) (w.drew.alloc (.cells (Builtin.zeroCells (Value.int .u8 0).cells n ++ Builtin.zeroCells (Value.int .u8 0).cells (grownCap w n 0 5 - n)) 5)) := fun ty => by
      have h := Lib.run_append_grow_zeros w 22 3 ty 5 i0 (.int .u8 0) .i64 .i64 Try.underlying22 Try.underlying3 hi hz0 none 0 0 [] (run_firstCells_none w.drew i0.size 0 0 0) n (by omega) (by omega) (by omega) (by omega)
        (by rw [hz2]; omega) (growslice_fits (by omega) (by rw [hz2]; omega))
      simpa using h
    have hGn : n ≤ grownCap w n 0 5 := grownCap_ge w _ _ _
    have hGm : grownCap w n 0 5 ≤ maxLen := grownCap_le_maxLen w n 0 5 (by unfold maxLen; omega)
    obtain ⟨G, hG⟩ : ∃ G, G = grownCap w n 0 5 := ⟨_, rfl⟩
    rw [← hG] at hrz hGn hGm
    clear hG
    have hG63 : G ≤ 9223372036854775807 := by unfold maxLen at hGm; omega
    have hGM := hd hGm
    clear hGm
    go_enter Try.func93, Try.ntmps93
    go_wp2_with (at_builtin; refine Lib.wpList_append_run _ rfl _ _ _ _ rfl _ _ rfl rfl _ _ (hrz _) ?_)
    go_ret
    refine ⟨_, rfl, ?_, ((Kp.refl _ _).drew.alloc _)⟩
    have := World.ownsRow_made (base := w.heap.size) (e := 5) (size := 1) w.drew (Builtin.zeroCells (Value.int .u8 0).cells n ++ Builtin.zeroCells (Value.int .u8 0).cells (G - n)) G (Nat.le_refl _) hGM.out (by simp [Builtin.zeroCells, Value.cells]; omega)
    exact this
set_option maxHeartbeats 4000000 in
set_option maxRecDepth 100000 in
theorem Concat2 {w : World} {g : Nat} {v1 v2 : Value} {a b : List Nat} (c0 : w.cell? ⟨g, 0, none⟩ = some v1) (c1 : w.cell? ⟨g, 1, none⟩ = some v2) (hg : g < w.heap.size) (h1 : Sl w v1 (bv a)) (h2 : Sl w v2 (bv b)) (hl : a.length + b.length ≤ 1000000000) :
    Calls Try.prog 54 #[.slice (some ⟨g, 0, none⟩) 2 2] w fun e w' => ∃ v', e = .returned v' ∧ w'.ownsRow w.heap.size 5 1 v' (a ++ b).length (bv (a ++ b)) ∧ Kp (fun _ => True) w w' := by
  obtain ⟨i0, hi, hz0, hz1, hz2⟩ := info_parts Try.info_u8
  obtain ⟨A1, p1, rfl⟩ := h1.form8
  obtain ⟨A2, p2, rfl⟩ := h2.form8
  have hw1 : wrap64 (0 + (a.length : Int)) = a.length := by unfold wrap64; omega
  have hw1' : wrap64 (a.length : Int) = a.length := by unfold wrap64; omega
  have hw2 : wrap64 ((a.length : Int) + b.length) = (a.length : Int) + b.length := by unfold wrap64; omega
  have n1 : decide ((a.length : Int) < 0) = false := decide_eq_false (by omega)
  have n2 : decide ((a.length : Int) + b.length < 0) = false := decide_eq_false (by omega)
  have H1 := hd h1
  have H2 := hd h2
  clear h1 h2
  go_enter Try.func54, Try.ntmps54
  go_wp2
  refine wp_loop_rounds 3 ?_
  rw [rounds_succ]; go_wp2
  rw [rounds_succ]; go_wp2
  rw [rounds_succ]
  go_wp2_with fail
  refine (GrowB_nil w _ (a.length + b.length) (by simp) (by omega)).mono ?_
  rintro e w1 ⟨v0, rfl, hO, hK⟩
  have d0 := hK.cell_some c0 trivial
  have d1 := hK.cell_some c1 trivial
  have HA := H1.out.all hK
  clear c0 c1 H1
  have HO := hd hO
  have hb1 := hO.lt
  have hgo : some g ≠ v0.ownBlock := fun e => by have := (hb1 _ e.symm).1; omega
  have hKK := hK.size
  have hl0 : ∀ k, k < w.heap.size → some k ≠ v0.ownBlock := fun k hk e => by have := (hb1 _ e.symm).1; omega
  clear hO hb1
  go_wp2
  refine wp_loop_rounds 3 ?_
  rw [rounds_succ]
  go_wp2_with (at_builtin; refine wpList_apps rfl _ _ 22 rfl w.heap.size 5 i0 (.int .u8 0) 1 Try.underlying22 hi hz0 hz1 hz2 rfl v0 0 [] rfl HO.out _ (bv a) rfl HA (bv_oneCell a) (by rw [bv_length]; omega) (by decide) hKK ?_; intro v2 w2 ho2 hg2 hor; have e0 := (Kp.refl (fun k => k < w.heap.size) w1).grown hg2 (fun k hk _ => hl0 k hk); have e1 := e0.cell_some d1 hg; have eK := (hK.mono (G := (· < w.heap.size)) fun _ _ _ => trivial).trans e0; have HB := H2.out.low eK; have eS := eK.size; have HO2 := hd ho2; clear ho2; have hl2 : ∀ k, k < w.heap.size → some k ≠ v2.ownBlock := fun k hk e => by have := (HO2.out.lt _ e.symm).1; omega)
  rw [rounds_succ]
  go_wp2_with (at_builtin; refine wpList_apps rfl _ _ 22 rfl w.heap.size 5 i0 (.int .u8 0) 1 Try.underlying22 hi hz0 hz1 hz2 rfl v2 (0 + (bv a).length) ([] ++ bv a) rfl HO2.out _ (bv b) rfl HB (bv_oneCell b) (by rw [bv_length, bv_length]; omega) (by decide) eS ?_; intro v3 w3 ho3 hg3 hor3; have e4 := eK.grown hg3 (fun k hk _ => hl2 k hk); have HO3 := hd ho3; clear ho3)
  rw [rounds_succ]
  go_wp2
  go_ret
  refine ⟨v3, rfl, ?_, e4.all⟩
  have := HO3.out
  rw [List.nil_append, bv_length, bv_length, Nat.zero_add] at this
  rw [bv_append, List.length_append]
  exact this
end Go.Proofs.Ythgjhdcifdfhoaa.V5
