/- Written by a program of this session over the kit's printer: functions as plain Lean, each call's walk; the conditions stand in each theorem. -/
import Derived.Test.YtjcejgolcdgipaaK4x0
import Derived.Test.YtjcejgolcdgipaaK4x7
namespace Go.Proofs.Ytjcejgolcdgipaa.K4
open Go.RowKit Go.Proofs.YtjcejgolcdgipaaW.PrintWords Go.Proofs.YtjcejgolcdgipaaW.PrintLast Go.Proofs.YtjcejgolcdgipaaW.PrintMore
attribute [local go_sem] max2_int min2_int max_two min_two max_three min_three max_four min_four   -- for this text's walks alone
set_option linter.unusedVariables false
set_option linter.unusedSimpArgs false

/-! ### easelref03_Parse: function 89 -/
def easelref03_Parse.l0 : Nat → Int → List Int → List (S164) → Int → Option ((List (S164)) × Int)
  | 0, _, _, _, _ => none
  | k + 1, x0, x1, x6, x7 => if x7 < (x1.length : Int) then (if 0 ≤ x7 then (if (rd x1 x7) = 0 then (easelref03_Parse.l0 k x0 x1 x6 (wrap64 (x7 + 1))) else ((easelref03_one.f x0).bind fun t186 => (if t186 = true then (if (wrap64 (Int.tdiv (wrap64 (rd x1 x7)) 16)) = 15 then (some (x6, 0)) else (if (wrap64 (Int.tdiv (wrap64 (rd x1 x7)) 16)) = 0 then (some (([] : List (S164)), 31)) else (if (wrap64 ((wrap64 (x7 + 1)) + (wrap64 ((Int.tmod (wrap64 (rd x1 x7)) 16) + 1)))) > (x1.length : Int) then (some (([] : List (S164)), 10)) else (if 0 ≤ (wrap64 (x7 + 1)) then (if (wrap64 (x7 + 1)) ≤ (wrap64 ((wrap64 (x7 + 1)) + (wrap64 ((Int.tmod (wrap64 (rd x1 x7)) 16) + 1)))) then (if (wrap64 ((wrap64 (x7 + 1)) + (wrap64 ((Int.tmod (wrap64 (rd x1 x7)) 16) + 1)))) ≤ (x1.length : Int) then (if ([] : List Int).length + ((x1.take ((wrap64 ((wrap64 (x7 + 1)) + (wrap64 ((Int.tmod (wrap64 (rd x1 x7)) 16) + 1)))) : Int).toNat).drop ((wrap64 (x7 + 1)) : Int).toNat).length < 140737488355328 then (if x6.length < 4398046511104 then (easelref03_Parse.l0 k x0 x1 (x6 ++ [(⟨(wrap64 (Int.tdiv (wrap64 (rd x1 x7)) 16)) % 256, (([] : List Int) ++ ((x1.take ((wrap64 ((wrap64 (x7 + 1)) + (wrap64 ((Int.tmod (wrap64 (rd x1 x7)) 16) + 1)))) : Int).toNat).drop ((wrap64 (x7 + 1)) : Int).toNat))⟩ : S164)]) (wrap64 ((wrap64 (x7 + 1)) + (wrap64 ((Int.tmod (wrap64 (rd x1 x7)) 16) + 1))))) else (none)) else (none)) else (none)) else (none)) else (none))))) else (if (wrap64 (x7 + 1)) ≥ (x1.length : Int) then (some (([] : List (S164)), 10)) else (if 0 ≤ (wrap64 (x7 + 1)) then (if (wrap64 (x7 + 1)) < (x1.length : Int) then (if (wrap64 ((wrap64 (x7 + 2)) + (wrap64 (rd x1 (wrap64 (x7 + 1)))))) > (x1.length : Int) then (some (([] : List (S164)), 10)) else (if 0 ≤ (wrap64 (x7 + 2)) then (if (wrap64 (x7 + 2)) ≤ (wrap64 ((wrap64 (x7 + 2)) + (wrap64 (rd x1 (wrap64 (x7 + 1)))))) then (if (wrap64 ((wrap64 (x7 + 2)) + (wrap64 (rd x1 (wrap64 (x7 + 1)))))) ≤ (x1.length : Int) then (if ([] : List Int).length + ((x1.take ((wrap64 ((wrap64 (x7 + 2)) + (wrap64 (rd x1 (wrap64 (x7 + 1)))))) : Int).toNat).drop ((wrap64 (x7 + 2)) : Int).toNat).length < 140737488355328 then (if x6.length < 4398046511104 then (easelref03_Parse.l0 k x0 x1 (x6 ++ [(⟨(wrap64 (rd x1 x7)) % 256, (([] : List Int) ++ ((x1.take ((wrap64 ((wrap64 (x7 + 2)) + (wrap64 (rd x1 (wrap64 (x7 + 1)))))) : Int).toNat).drop ((wrap64 (x7 + 2)) : Int).toNat))⟩ : S164)]) (wrap64 ((wrap64 (x7 + 2)) + (wrap64 (rd x1 (wrap64 (x7 + 1))))))) else (none)) else (none)) else (none)) else (none)) else (none))) else (none)) else (none)))))) else (none)) else (some (x6, 0))
def easelref03_Parse.f (k : Nat) (a0 : Int) (l1 : List Int) : Option ((List (S164)) × Int) := (easelref03_Known.f a0).bind fun t183 => (if t183 = true then (if ((l1.length : Int) % 4) = 0 then (easelref03_Parse.l0 k a0 l1 ([] : List (S164)) 0) else (some (([] : List (S164)), 3))) else (some (([] : List (S164)), 30)))
theorem easelref03_Parse.mono_l : ∀ k, (∀ y0 y1 y2 y3, LeO (easelref03_Parse.l0 k y0 y1 y2 y3) (easelref03_Parse.l0 (k + 1) y0 y1 y2 y3))
  | 0 => fun _ _ _ _ r h => by simp [easelref03_Parse.l0] at h
  | k + 1 => by
    have ih0 := easelref03_Parse.mono_l k
    · intro y0 y1 y2 y3
      unfold easelref03_Parse.l0
      repeat' first
      | (with_reducible exact ih0 _ _ _ _)
      | (with_reducible exact LeO.refl _)
      | (with_reducible exact LeO.none _)
      | (with_reducible refine LeO.ite ?_ ?_)
      | (with_reducible refine LeO.bind ?_ (fun _ => ?_))
      | exact ih0 _ _ _ _
      | exact LeO.none _
      | refine LeO.ite ?_ ?_
      | refine LeO.bind ?_ (fun _ => ?_)
theorem easelref03_Parse.mono : ∀ a0 a1 k, LeO (easelref03_Parse.f k a0 a1) (easelref03_Parse.f (k + 1) a0 a1) := by
  intro a0 a1 k
  have ih0 := easelref03_Parse.mono_l k
  unfold easelref03_Parse.f
  repeat' first
      | (with_reducible exact ih0 _ _ _ _)
      | (with_reducible exact LeO.refl _)
      | (with_reducible exact LeO.none _)
      | (with_reducible refine LeO.ite ?_ ?_)
      | (with_reducible refine LeO.bind ?_ (fun _ => ?_))
      | exact ih0 _ _ _ _
      | exact LeO.none _
      | refine LeO.ite ?_ ?_
      | refine LeO.bind ?_ (fun _ => ?_)
set_option maxHeartbeats 8000000 in
set_option maxRecDepth 100000 in
theorem easelref03_Parse.calls (k : Nat) (a0 : Int) (A1 : Option Addr) (c1 : Nat) (l1 : List Int) (r1 : List (S164)) (r2 : Int) (w : World) (hr1 : Kd.C (Kd.int .u8) w A1 l1.length l1) (hc1 : l1.length ≤ c1) (h : easelref03_Parse.f k a0 l1 = some (r1, r2)) :
    Calls Try.prog 89 #[.int .u16 a0, .slice A1 l1.length c1] w fun e w' => ∃ v0_ : Value, e = .returned (.tuple #[v0_, .int .i64 r2]) ∧ Kd.S k164 164 w' w.heap.size (fun _ => True) v0_ r1 ∧ Below w.heap.size w w' := by
  have hu164 := Try.underlying164
  have HR1 := Aside0.mk hr1
  have HC1 := Aside0.mk hc1
  clear hr1 hc1
  have HB := Aside0.mk (Below.refl w.heap.size w)
  have H : ((easelref03_Known.f a0).bind fun t183 => (if t183 = true then (if ((l1.length : Int) % 4) = 0 then (easelref03_Parse.l0 k a0 l1 ([] : List (S164)) 0) else (some (([] : List (S164)), 3))) else (some (([] : List (S164)), 30)))) = some (r1, r2) := h
  clear h
  replace H := Option.bind_eq_some_iff.mp H
  obtain ⟨t183, A30, H⟩ := H
  replace H : (if t183 = true then (if ((l1.length : Int) % 4) = 0 then (easelref03_Parse.l0 k a0 l1 ([] : List (S164)) 0) else (some (([] : List (S164)), 3))) else (some (([] : List (S164)), 30))) = some (r1, r2) := H
  have A3 := Aside0.mk A30
  clear A30
  by_cases c4 : t183 = true
  · subst c4
    have H1 : (if ((l1.length : Int) % 4) = 0 then (easelref03_Parse.l0 k a0 l1 ([] : List (S164)) 0) else (some (([] : List (S164)), 3))) = some (r1, r2) := by rw [if_pos rfl] at H; exact H
    clear H
    have H := H1
    clear H1
    by_cases c5 : ((l1.length : Int) % 4) = 0
    · rw [if_pos c5] at H
      have c5b0 : (((l1.length : Int) % 4) == 0) = true := beq_iff_eq.mpr c5
      have c5b1 : (((l1.length : Int) % 4) != 0) = false := bne_eq_false_iff_eq.mpr c5
      clear c5
      have H' := Aside0.mk H
      clear H
      go_enter Try.func89, Try.ntmps89
      go_wp2_with (first | ((with_reducible refine gate_callee (f := 119) rfl ?_); refine goesL_ (some 13) rfl rfl Try.func119 (by kernel_rfl) rfl #[.int .u16 a0] rfl (by (try simp only [List.map_toArray, List.map_cons, List.map_nil]); first | done | rfl | (simp only [List.length_drop, List.length_take]; rfl)) ?_; (with_reducible refine (easelref03_Known.calls a0 true _ A3.out).mono ?_); rintro e w' ⟨rfl, ⟨nd, rfl⟩⟩; refine ⟨_, rfl, ?_⟩))
      go_loopg [6, 7] k (fun kq v6 v7 w' => ∃ (x6_1 : List (S164)) (x7_1 : Int), v7 = .int .i64 x7_1 ∧ Aside0 (easelref03_Parse.l0 kq a0 l1 x6_1 x7_1 = some (r1, r2)) ∧ Aside0 (kq ≤ k) ∧ Aside0 (Kd.S k164 164 w' w.heap.size (fun _ => True) v6 x6_1) ∧ Aside0 (Below w.heap.size w w'))
      case atStart => exact ⟨(([] : List (S164))), (0), (by first | rfl | (simp; done) | (simp [*]; done)), H', ⟨Nat.le_refl _⟩, ⟨by first | exact Kd.S_nil _ _ _ _ _ | exact Kd.N_nil _ _ _ _ _ | exact Kd.V_nil _ _ _ _ _ | exact Kd.Q_nil _ _ _ _ _ | exact Kd.R_nil _ _ _ _ _⟩, ⟨by repeat (first | (with_reducible first | exact HB.out | apply below_alloc | apply pw_below_drewN | apply below_drew1) | exact HB.out)⟩⟩
      case round =>
        clear H'
        try clear c1
        try clear p2
        try clear c4
        try clear c5
        try clear c5b0
        try clear c5b1
        obtain ⟨x6_1, x7_1, rfl, HA, HK1, HO_6, HB⟩ := hrel
        cases gk with
        | zero => exact absurd HA.out (by simp [easelref03_Parse.l0])
        | succ k1 =>
          have H := HA.out
          clear HA
          simp only [easelref03_Parse.l0] at H
          by_cases c6 : x7_1 < (l1.length : Int)
          · rw [if_pos c6] at H
            have c6b0 : decide (x7_1 < (l1.length : Int)) = true := decide_eq_true c6
            clear c6
            by_cases c7 : 0 ≤ x7_1
            · rw [if_pos c7] at H
              have c7b0 : decide (0 ≤ x7_1) = true := decide_eq_true c7
              clear c7
              by_cases c8 : (rd l1 x7_1) = 0
              · rw [if_pos c8] at H
                have c8b0 : ((rd l1 x7_1) == 0) = true := beq_iff_eq.mpr c8
                have c8b1 : ((rd l1 x7_1) != 0) = false := bne_eq_false_iff_eq.mpr c8
                clear c8
                have H' := Aside0.mk H
                clear H
                have p184 : 0 ≤ (x7_1 : Int) := of_decide_eq_true (by first | (with_reducible assumption) | assumption)
                have q184 : x7_1 < (l1.length : Int) := of_decide_eq_true (by first | (with_reducible assumption) | assumption)
                obtain ⟨ad184, e184, hx184_0⟩ := Kd.at_int HR1.out x7_1 p184 q184
                cases e184
                replace hx184_0 := (HB.out.cell (World.block_lt_of_cell? w _ hx184_0)).trans hx184_0
                replace p184 := eq_true p184
                replace q184 := eq_true q184
                go_wp2
                go_roundg k1
                case measure => have := HK1.out; omega
                case rel => exact ⟨(x6_1), (wrap64 (x7_1 + 1)), (by first | rfl | (simp; done) | (simp [*]; done)), H', ⟨by have := HK1.out; omega⟩, ⟨by (with_reducible repeat (first | apply Kd.S_alloc | apply Kd.S_drewN | apply Kd.S_drew)); exact HO_6.out⟩, ⟨by repeat (first | (with_reducible first | exact HB.out | apply below_alloc | apply pw_below_drewN | apply below_drew1) | exact HB.out)⟩⟩
              · rw [if_neg c8] at H
                have c8b0 : ((rd l1 x7_1) == 0) = false := beq_eq_false_iff_ne.mpr c8
                have c8b1 : ((rd l1 x7_1) != 0) = true := bne_iff_ne.mpr c8
                replace H := Option.bind_eq_some_iff.mp H
                obtain ⟨t186, A90, H⟩ := H
                replace H : (if t186 = true then (if (wrap64 (Int.tdiv (wrap64 (rd l1 x7_1)) 16)) = 15 then (some (x6_1, 0)) else (if (wrap64 (Int.tdiv (wrap64 (rd l1 x7_1)) 16)) = 0 then (some (([] : List (S164)), 31)) else (if (wrap64 ((wrap64 (x7_1 + 1)) + (wrap64 ((Int.tmod (wrap64 (rd l1 x7_1)) 16) + 1)))) > (l1.length : Int) then (some (([] : List (S164)), 10)) else (if 0 ≤ (wrap64 (x7_1 + 1)) then (if (wrap64 (x7_1 + 1)) ≤ (wrap64 ((wrap64 (x7_1 + 1)) + (wrap64 ((Int.tmod (wrap64 (rd l1 x7_1)) 16) + 1)))) then (if (wrap64 ((wrap64 (x7_1 + 1)) + (wrap64 ((Int.tmod (wrap64 (rd l1 x7_1)) 16) + 1)))) ≤ (l1.length : Int) then (if ([] : List Int).length + ((l1.take ((wrap64 ((wrap64 (x7_1 + 1)) + (wrap64 ((Int.tmod (wrap64 (rd l1 x7_1)) 16) + 1)))) : Int).toNat).drop ((wrap64 (x7_1 + 1)) : Int).toNat).length < 140737488355328 then (if x6_1.length < 4398046511104 then (easelref03_Parse.l0 k1 a0 l1 (x6_1 ++ [(⟨(wrap64 (Int.tdiv (wrap64 (rd l1 x7_1)) 16)) % 256, (([] : List Int) ++ ((l1.take ((wrap64 ((wrap64 (x7_1 + 1)) + (wrap64 ((Int.tmod (wrap64 (rd l1 x7_1)) 16) + 1)))) : Int).toNat).drop ((wrap64 (x7_1 + 1)) : Int).toNat))⟩ : S164)]) (wrap64 ((wrap64 (x7_1 + 1)) + (wrap64 ((Int.tmod (wrap64 (rd l1 x7_1)) 16) + 1))))) else (none)) else (none)) else (none)) else (none)) else (none))))) else (if (wrap64 (x7_1 + 1)) ≥ (l1.length : Int) then (some (([] : List (S164)), 10)) else (if 0 ≤ (wrap64 (x7_1 + 1)) then (if (wrap64 (x7_1 + 1)) < (l1.length : Int) then (if (wrap64 ((wrap64 (x7_1 + 2)) + (wrap64 (rd l1 (wrap64 (x7_1 + 1)))))) > (l1.length : Int) then (some (([] : List (S164)), 10)) else (if 0 ≤ (wrap64 (x7_1 + 2)) then (if (wrap64 (x7_1 + 2)) ≤ (wrap64 ((wrap64 (x7_1 + 2)) + (wrap64 (rd l1 (wrap64 (x7_1 + 1)))))) then (if (wrap64 ((wrap64 (x7_1 + 2)) + (wrap64 (rd l1 (wrap64 (x7_1 + 1)))))) ≤ (l1.length : Int) then (if ([] : List Int).length + ((l1.take ((wrap64 ((wrap64 (x7_1 + 2)) + (wrap64 (rd l1 (wrap64 (x7_1 + 1)))))) : Int).toNat).drop ((wrap64 (x7_1 + 2)) : Int).toNat).length < 140737488355328 then (if x6_1.length < 4398046511104 then (easelref03_Parse.l0 k1 a0 l1 (x6_1 ++ [(⟨(wrap64 (rd l1 x7_1)) % 256, (([] : List Int) ++ ((l1.take ((wrap64 ((wrap64 (x7_1 + 2)) + (wrap64 (rd l1 (wrap64 (x7_1 + 1)))))) : Int).toNat).drop ((wrap64 (x7_1 + 2)) : Int).toNat))⟩ : S164)]) (wrap64 ((wrap64 (x7_1 + 2)) + (wrap64 (rd l1 (wrap64 (x7_1 + 1))))))) else (none)) else (none)) else (none)) else (none)) else (none))) else (none)) else (none)))) = some (r1, r2) := H
                have A9 := Aside0.mk A90
                clear A90
                by_cases c10 : t186 = true
                · subst c10
                  have H1 : (if (wrap64 (Int.tdiv (wrap64 (rd l1 x7_1)) 16)) = 15 then (some (x6_1, 0)) else (if (wrap64 (Int.tdiv (wrap64 (rd l1 x7_1)) 16)) = 0 then (some (([] : List (S164)), 31)) else (if (wrap64 ((wrap64 (x7_1 + 1)) + (wrap64 ((Int.tmod (wrap64 (rd l1 x7_1)) 16) + 1)))) > (l1.length : Int) then (some (([] : List (S164)), 10)) else (if 0 ≤ (wrap64 (x7_1 + 1)) then (if (wrap64 (x7_1 + 1)) ≤ (wrap64 ((wrap64 (x7_1 + 1)) + (wrap64 ((Int.tmod (wrap64 (rd l1 x7_1)) 16) + 1)))) then (if (wrap64 ((wrap64 (x7_1 + 1)) + (wrap64 ((Int.tmod (wrap64 (rd l1 x7_1)) 16) + 1)))) ≤ (l1.length : Int) then (if ([] : List Int).length + ((l1.take ((wrap64 ((wrap64 (x7_1 + 1)) + (wrap64 ((Int.tmod (wrap64 (rd l1 x7_1)) 16) + 1)))) : Int).toNat).drop ((wrap64 (x7_1 + 1)) : Int).toNat).length < 140737488355328 then (if x6_1.length < 4398046511104 then (easelref03_Parse.l0 k1 a0 l1 (x6_1 ++ [(⟨(wrap64 (Int.tdiv (wrap64 (rd l1 x7_1)) 16)) % 256, (([] : List Int) ++ ((l1.take ((wrap64 ((wrap64 (x7_1 + 1)) + (wrap64 ((Int.tmod (wrap64 (rd l1 x7_1)) 16) + 1)))) : Int).toNat).drop ((wrap64 (x7_1 + 1)) : Int).toNat))⟩ : S164)]) (wrap64 ((wrap64 (x7_1 + 1)) + (wrap64 ((Int.tmod (wrap64 (rd l1 x7_1)) 16) + 1))))) else (none)) else (none)) else (none)) else (none)) else (none))))) = some (r1, r2) := by rw [if_pos rfl] at H; exact H
                  clear H
                  have H := H1
                  clear H1
                  by_cases c11 : (wrap64 (Int.tdiv (wrap64 (rd l1 x7_1)) 16)) = 15
                  · rw [if_pos c11] at H
                    have c11b0 : ((wrap64 (Int.tdiv (wrap64 (rd l1 x7_1)) 16)) == 15) = true := beq_iff_eq.mpr c11
                    have c11b1 : ((wrap64 (Int.tdiv (wrap64 (rd l1 x7_1)) 16)) != 15) = false := bne_eq_false_iff_eq.mpr c11
                    clear c11
                    simp only [Option.some.injEq, Prod.mk.injEq] at H
                    obtain ⟨rfl, rfl⟩ := H
                    have p184 : 0 ≤ (x7_1 : Int) := of_decide_eq_true (by first | (with_reducible assumption) | assumption)
                    have q184 : x7_1 < (l1.length : Int) := of_decide_eq_true (by first | (with_reducible assumption) | assumption)
                    obtain ⟨ad184, e184, hx184_0⟩ := Kd.at_int HR1.out x7_1 p184 q184
                    cases e184
                    replace hx184_0 := (HB.out.cell (World.block_lt_of_cell? w _ hx184_0)).trans hx184_0
                    replace p184 := eq_true p184
                    replace q184 := eq_true q184
                    have p185 : 0 ≤ (x7_1 : Int) := of_decide_eq_true (by first | (with_reducible assumption) | assumption)
                    have q185 : x7_1 < (l1.length : Int) := of_decide_eq_true (by first | (with_reducible assumption) | assumption)
                    obtain ⟨ad185, e185, hx185_0⟩ := Kd.at_int HR1.out x7_1 p185 q185
                    obtain rfl : ad184 = ad185 := (by injection e185)
                    replace hx185_0 := (HB.out.cell (World.block_lt_of_cell? w _ hx185_0)).trans hx185_0
                    replace p185 := eq_true p185
                    replace q185 := eq_true q185
                    go_wp2_with (first | ((with_reducible refine gate_callee (f := 120) rfl ?_); refine goesL_ (some 36) rfl rfl Try.func120 (by kernel_rfl) rfl #[.int .u16 a0] rfl (by (try simp only [List.map_toArray, List.map_cons, List.map_nil]); first | done | rfl | (simp only [List.length_drop, List.length_take]; rfl)) ?_; (with_reducible refine (easelref03_one.calls a0 true _ A9.out).mono ?_); rintro e w' ⟨rfl, ⟨nd, rfl⟩⟩; refine ⟨_, rfl, ?_⟩; have p187 : 0 ≤ (x7_1 : Int) := of_decide_eq_true (by first | (with_reducible assumption) | assumption); have q187 : x7_1 < (l1.length : Int) := of_decide_eq_true (by first | (with_reducible assumption) | assumption); obtain ⟨ad187, e187, hx187_0⟩ := Kd.at_int HR1.out x7_1 p187 q187; obtain rfl : ad184 = ad187 := (by injection e187); replace hx187_0 := (HB.out.cell (World.block_lt_of_cell? w _ hx187_0)).trans hx187_0; replace p187 := eq_true p187; replace q187 := eq_true q187; have p188 : 0 ≤ (x7_1 : Int) := of_decide_eq_true (by first | (with_reducible assumption) | assumption); have q188 : x7_1 < (l1.length : Int) := of_decide_eq_true (by first | (with_reducible assumption) | assumption); obtain ⟨ad188, e188, hx188_0⟩ := Kd.at_int HR1.out x7_1 p188 q188; obtain rfl : ad184 = ad188 := (by injection e188); replace hx188_0 := (HB.out.cell (World.block_lt_of_cell? w _ hx188_0)).trans hx188_0; replace p188 := eq_true p188; replace q188 := eq_true q188))
                    go_ret2
                    exact ⟨_, by first | rfl | (simp [errW_none, errW_some] <;> rfl) | (simp [*, errW_none, errW_some] <;> rfl), by (with_reducible repeat (first | apply Kd.S_alloc | apply Kd.S_drewN | apply Kd.S_drew)); exact HO_6.out, by repeat (first | (with_reducible first | exact HB.out | apply below_alloc | apply pw_below_drewN | apply below_drew1) | exact HB.out)⟩
                  · rw [if_neg c11] at H
                    have c11b0 : ((wrap64 (Int.tdiv (wrap64 (rd l1 x7_1)) 16)) == 15) = false := beq_eq_false_iff_ne.mpr c11
                    have c11b1 : ((wrap64 (Int.tdiv (wrap64 (rd l1 x7_1)) 16)) != 15) = true := bne_iff_ne.mpr c11
                    by_cases c12 : (wrap64 (Int.tdiv (wrap64 (rd l1 x7_1)) 16)) = 0
                    · rw [if_pos c12] at H
                      have c12b0 : ((wrap64 (Int.tdiv (wrap64 (rd l1 x7_1)) 16)) == 0) = true := beq_iff_eq.mpr c12
                      have c12b1 : ((wrap64 (Int.tdiv (wrap64 (rd l1 x7_1)) 16)) != 0) = false := bne_eq_false_iff_eq.mpr c12
                      clear c12
                      simp only [Option.some.injEq, Prod.mk.injEq] at H
                      obtain ⟨rfl, rfl⟩ := H
                      have p184 : 0 ≤ (x7_1 : Int) := of_decide_eq_true (by first | (with_reducible assumption) | assumption)
                      have q184 : x7_1 < (l1.length : Int) := of_decide_eq_true (by first | (with_reducible assumption) | assumption)
                      obtain ⟨ad184, e184, hx184_0⟩ := Kd.at_int HR1.out x7_1 p184 q184
                      cases e184
                      replace hx184_0 := (HB.out.cell (World.block_lt_of_cell? w _ hx184_0)).trans hx184_0
                      replace p184 := eq_true p184
                      replace q184 := eq_true q184
                      have p185 : 0 ≤ (x7_1 : Int) := of_decide_eq_true (by first | (with_reducible assumption) | assumption)
                      have q185 : x7_1 < (l1.length : Int) := of_decide_eq_true (by first | (with_reducible assumption) | assumption)
                      obtain ⟨ad185, e185, hx185_0⟩ := Kd.at_int HR1.out x7_1 p185 q185
                      obtain rfl : ad184 = ad185 := (by injection e185)
                      replace hx185_0 := (HB.out.cell (World.block_lt_of_cell? w _ hx185_0)).trans hx185_0
                      replace p185 := eq_true p185
                      replace q185 := eq_true q185
                      go_wp2_with (first | ((with_reducible refine gate_callee (f := 120) rfl ?_); refine goesL_ (some 36) rfl rfl Try.func120 (by kernel_rfl) rfl #[.int .u16 a0] rfl (by (try simp only [List.map_toArray, List.map_cons, List.map_nil]); first | done | rfl | (simp only [List.length_drop, List.length_take]; rfl)) ?_; (with_reducible refine (easelref03_one.calls a0 true _ A9.out).mono ?_); rintro e w' ⟨rfl, ⟨nd, rfl⟩⟩; refine ⟨_, rfl, ?_⟩; have p187 : 0 ≤ (x7_1 : Int) := of_decide_eq_true (by first | (with_reducible assumption) | assumption); have q187 : x7_1 < (l1.length : Int) := of_decide_eq_true (by first | (with_reducible assumption) | assumption); obtain ⟨ad187, e187, hx187_0⟩ := Kd.at_int HR1.out x7_1 p187 q187; obtain rfl : ad184 = ad187 := (by injection e187); replace hx187_0 := (HB.out.cell (World.block_lt_of_cell? w _ hx187_0)).trans hx187_0; replace p187 := eq_true p187; replace q187 := eq_true q187; have p188 : 0 ≤ (x7_1 : Int) := of_decide_eq_true (by first | (with_reducible assumption) | assumption); have q188 : x7_1 < (l1.length : Int) := of_decide_eq_true (by first | (with_reducible assumption) | assumption); obtain ⟨ad188, e188, hx188_0⟩ := Kd.at_int HR1.out x7_1 p188 q188; obtain rfl : ad184 = ad188 := (by injection e188); replace hx188_0 := (HB.out.cell (World.block_lt_of_cell? w _ hx188_0)).trans hx188_0; replace p188 := eq_true p188; replace q188 := eq_true q188))
                      go_ret2
                      exact ⟨_, by first | rfl | (simp [errW_none, errW_some] <;> rfl) | (simp [*, errW_none, errW_some] <;> rfl), by first | exact Kd.S_nil _ _ _ _ _ | exact Kd.N_nil _ _ _ _ _ | exact Kd.V_nil _ _ _ _ _ | exact Kd.Q_nil _ _ _ _ _ | exact Kd.R_nil _ _ _ _ _, by repeat (first | (with_reducible first | exact HB.out | apply below_alloc | apply pw_below_drewN | apply below_drew1) | exact HB.out)⟩
                    · rw [if_neg c12] at H
                      have c12b0 : ((wrap64 (Int.tdiv (wrap64 (rd l1 x7_1)) 16)) == 0) = false := beq_eq_false_iff_ne.mpr c12
                      have c12b1 : ((wrap64 (Int.tdiv (wrap64 (rd l1 x7_1)) 16)) != 0) = true := bne_iff_ne.mpr c12
                      by_cases c13 : (wrap64 ((wrap64 (x7_1 + 1)) + (wrap64 ((Int.tmod (wrap64 (rd l1 x7_1)) 16) + 1)))) > (l1.length : Int)
                      · rw [if_pos c13] at H
                        have c13b0 : decide ((l1.length : Int) < (wrap64 ((wrap64 (x7_1 + 1)) + (wrap64 ((Int.tmod (wrap64 (rd l1 x7_1)) 16) + 1))))) = true := decide_eq_true c13
                        clear c13
                        simp only [Option.some.injEq, Prod.mk.injEq] at H
                        obtain ⟨rfl, rfl⟩ := H
                        have p184 : 0 ≤ (x7_1 : Int) := of_decide_eq_true (by first | (with_reducible assumption) | assumption)
                        have q184 : x7_1 < (l1.length : Int) := of_decide_eq_true (by first | (with_reducible assumption) | assumption)
                        obtain ⟨ad184, e184, hx184_0⟩ := Kd.at_int HR1.out x7_1 p184 q184
                        cases e184
                        replace hx184_0 := (HB.out.cell (World.block_lt_of_cell? w _ hx184_0)).trans hx184_0
                        replace p184 := eq_true p184
                        replace q184 := eq_true q184
                        have p185 : 0 ≤ (x7_1 : Int) := of_decide_eq_true (by first | (with_reducible assumption) | assumption)
                        have q185 : x7_1 < (l1.length : Int) := of_decide_eq_true (by first | (with_reducible assumption) | assumption)
                        obtain ⟨ad185, e185, hx185_0⟩ := Kd.at_int HR1.out x7_1 p185 q185
                        obtain rfl : ad184 = ad185 := (by injection e185)
                        replace hx185_0 := (HB.out.cell (World.block_lt_of_cell? w _ hx185_0)).trans hx185_0
                        replace p185 := eq_true p185
                        replace q185 := eq_true q185
                        go_wp2_with (first | ((with_reducible refine gate_callee (f := 120) rfl ?_); refine goesL_ (some 36) rfl rfl Try.func120 (by kernel_rfl) rfl #[.int .u16 a0] rfl (by (try simp only [List.map_toArray, List.map_cons, List.map_nil]); first | done | rfl | (simp only [List.length_drop, List.length_take]; rfl)) ?_; (with_reducible refine (easelref03_one.calls a0 true _ A9.out).mono ?_); rintro e w' ⟨rfl, ⟨nd, rfl⟩⟩; refine ⟨_, rfl, ?_⟩; have p187 : 0 ≤ (x7_1 : Int) := of_decide_eq_true (by first | (with_reducible assumption) | assumption); have q187 : x7_1 < (l1.length : Int) := of_decide_eq_true (by first | (with_reducible assumption) | assumption); obtain ⟨ad187, e187, hx187_0⟩ := Kd.at_int HR1.out x7_1 p187 q187; obtain rfl : ad184 = ad187 := (by injection e187); replace hx187_0 := (HB.out.cell (World.block_lt_of_cell? w _ hx187_0)).trans hx187_0; replace p187 := eq_true p187; replace q187 := eq_true q187; have p188 : 0 ≤ (x7_1 : Int) := of_decide_eq_true (by first | (with_reducible assumption) | assumption); have q188 : x7_1 < (l1.length : Int) := of_decide_eq_true (by first | (with_reducible assumption) | assumption); obtain ⟨ad188, e188, hx188_0⟩ := Kd.at_int HR1.out x7_1 p188 q188; obtain rfl : ad184 = ad188 := (by injection e188); replace hx188_0 := (HB.out.cell (World.block_lt_of_cell? w _ hx188_0)).trans hx188_0; replace p188 := eq_true p188; replace q188 := eq_true q188))
                        go_ret2
                        exact ⟨_, by first | rfl | (simp [errW_none, errW_some] <;> rfl) | (simp [*, errW_none, errW_some] <;> rfl), by first | exact Kd.S_nil _ _ _ _ _ | exact Kd.N_nil _ _ _ _ _ | exact Kd.V_nil _ _ _ _ _ | exact Kd.Q_nil _ _ _ _ _ | exact Kd.R_nil _ _ _ _ _, by repeat (first | (with_reducible first | exact HB.out | apply below_alloc | apply pw_below_drewN | apply below_drew1) | exact HB.out)⟩
                      · rw [if_neg c13] at H
                        have c13b0 : decide ((l1.length : Int) < (wrap64 ((wrap64 (x7_1 + 1)) + (wrap64 ((Int.tmod (wrap64 (rd l1 x7_1)) 16) + 1))))) = false := decide_eq_false c13
                        clear c13
                        obtain ⟨ji14, hji14⟩ : ∃ j_ : Int, (wrap64 (x7_1 + 1)) = j_ := ⟨_, rfl⟩
                        replace H : (if 0 ≤ (ji14) then (if (ji14) ≤ (wrap64 ((ji14) + (wrap64 ((Int.tmod (wrap64 (rd l1 x7_1)) 16) + 1)))) then (if (wrap64 ((ji14) + (wrap64 ((Int.tmod (wrap64 (rd l1 x7_1)) 16) + 1)))) ≤ (l1.length : Int) then (if ([] : List Int).length + ((l1.take ((wrap64 ((ji14) + (wrap64 ((Int.tmod (wrap64 (rd l1 x7_1)) 16) + 1)))) : Int).toNat).drop ((ji14) : Int).toNat).length < 140737488355328 then (if x6_1.length < 4398046511104 then (easelref03_Parse.l0 k1 a0 l1 (x6_1 ++ [(⟨(wrap64 (Int.tdiv (wrap64 (rd l1 x7_1)) 16)) % 256, (([] : List Int) ++ ((l1.take ((wrap64 ((ji14) + (wrap64 ((Int.tmod (wrap64 (rd l1 x7_1)) 16) + 1)))) : Int).toNat).drop ((ji14) : Int).toNat))⟩ : S164)]) (wrap64 ((ji14) + (wrap64 ((Int.tmod (wrap64 (rd l1 x7_1)) 16) + 1))))) else (none)) else (none)) else (none)) else (none)) else (none)) = some (r1, r2) := by first | (rw [hji14] at H; exact H) | (simp only [hji14] at H ⊢; exact H)
                        (try rw [hji14] at c13b0)
                        (try rw [hji14] at A9)
                        have hji14w : (IntKind.i64.wrap (x7_1 + 1)) = ji14 := (i64_w _).trans hji14
                        by_cases c15 : 0 ≤ (ji14)
                        · rw [if_pos c15] at H
                          have c15b0 := eq_true c15
                          have c15b1 : decide (0 ≤ (ji14)) = true := decide_eq_true c15
                          clear c15
                          by_cases c16 : (ji14) ≤ (wrap64 ((ji14) + (wrap64 ((Int.tmod (wrap64 (rd l1 x7_1)) 16) + 1))))
                          · rw [if_pos c16] at H
                            have c16b0 := eq_true c16
                            have c16b1 : decide ((ji14) ≤ (wrap64 ((ji14) + (wrap64 ((Int.tmod (wrap64 (rd l1 x7_1)) 16) + 1))))) = true := decide_eq_true c16
                            by_cases c17 : (wrap64 ((ji14) + (wrap64 ((Int.tmod (wrap64 (rd l1 x7_1)) 16) + 1)))) ≤ (l1.length : Int)
                            · rw [if_pos c17] at H
                              have c17b0 := eq_true c17
                              have c17b1 : decide ((wrap64 ((ji14) + (wrap64 ((Int.tmod (wrap64 (rd l1 x7_1)) 16) + 1)))) ≤ (l1.length : Int)) = true := decide_eq_true c17
                              by_cases c18 : ([] : List Int).length + ((l1.take ((wrap64 ((ji14) + (wrap64 ((Int.tmod (wrap64 (rd l1 x7_1)) 16) + 1)))) : Int).toNat).drop ((ji14) : Int).toNat).length < 140737488355328
                              · rw [if_pos c18] at H
                                have LMc18 := Aside0.mk c18
                                clear c18
                                obtain ⟨y190, hy190⟩ : ∃ y_ : List Int, y_ = (([] : List Int) ++ ((l1.take ((wrap64 ((ji14) + (wrap64 ((Int.tmod (wrap64 (rd l1 x7_1)) 16) + 1)))) : Int).toNat).drop ((ji14) : Int).toNat)) := ⟨_, rfl⟩
                                replace H : (if x6_1.length < 4398046511104 then (easelref03_Parse.l0 k1 a0 l1 (x6_1 ++ [(⟨(wrap64 (Int.tdiv (wrap64 (rd l1 x7_1)) 16)) % 256, y190⟩ : S164)]) (wrap64 ((ji14) + (wrap64 ((Int.tmod (wrap64 (rd l1 x7_1)) 16) + 1))))) else (none)) = some (r1, r2) := by first | (rw [hy190]; with_reducible exact H) | (have H2_ := (Option.bind_some _ _).symm.trans H; rw [hy190]; with_reducible exact H2_) | (have H2_ := (Option.bind_some _ _).symm.trans H; with_reducible exact H2_) | with_reducible exact H | (rw [hy190]; exact H) | exact H
                                have Ny190 := Aside0.mk hy190
                                clear hy190
                                by_cases c19 : x6_1.length < 4398046511104
                                · rw [if_pos c19] at H
                                  have LMc19 := Aside0.mk c19
                                  clear c19
                                  obtain ⟨y193, hy193⟩ : ∃ y_ : List (S164), y_ = (x6_1 ++ [(⟨(wrap64 (Int.tdiv (wrap64 (rd l1 x7_1)) 16)) % 256, y190⟩ : S164)]) := ⟨_, rfl⟩
                                  replace H : (easelref03_Parse.l0 k1 a0 l1 y193 (wrap64 ((ji14) + (wrap64 ((Int.tmod (wrap64 (rd l1 x7_1)) 16) + 1))))) = some (r1, r2) := by first | (rw [hy193]; with_reducible exact H) | (have H2_ := (Option.bind_some _ _).symm.trans H; rw [hy193]; with_reducible exact H2_) | (have H2_ := (Option.bind_some _ _).symm.trans H; with_reducible exact H2_) | with_reducible exact H | (rw [hy193]; exact H) | exact H
                                  have Ny193 := Aside0.mk hy193
                                  clear hy193
                                  have H' := Aside0.mk H
                                  clear H
                                  have p184 : 0 ≤ (x7_1 : Int) := of_decide_eq_true (by first | (with_reducible assumption) | assumption)
                                  have q184 : x7_1 < (l1.length : Int) := of_decide_eq_true (by first | (with_reducible assumption) | assumption)
                                  obtain ⟨ad184, e184, hx184_0⟩ := Kd.at_int HR1.out x7_1 p184 q184
                                  cases e184
                                  replace hx184_0 := (HB.out.cell (World.block_lt_of_cell? w _ hx184_0)).trans hx184_0
                                  replace p184 := eq_true p184
                                  replace q184 := eq_true q184
                                  have p185 : 0 ≤ (x7_1 : Int) := of_decide_eq_true (by first | (with_reducible assumption) | assumption)
                                  have q185 : x7_1 < (l1.length : Int) := of_decide_eq_true (by first | (with_reducible assumption) | assumption)
                                  obtain ⟨ad185, e185, hx185_0⟩ := Kd.at_int HR1.out x7_1 p185 q185
                                  obtain rfl : ad184 = ad185 := (by injection e185)
                                  replace hx185_0 := (HB.out.cell (World.block_lt_of_cell? w _ hx185_0)).trans hx185_0
                                  replace p185 := eq_true p185
                                  replace q185 := eq_true q185
                                  go_wp2_with (first | ((with_reducible refine gate_callee (f := 120) rfl ?_); refine goesL_ (some 36) rfl rfl Try.func120 (by kernel_rfl) rfl #[.int .u16 a0] rfl (by (try simp only [List.map_toArray, List.map_cons, List.map_nil]); first | done | rfl | (simp only [List.length_drop, List.length_take]; rfl)) ?_; (with_reducible refine (easelref03_one.calls a0 true _ A9.out).mono ?_); rintro e w' ⟨rfl, ⟨nd, rfl⟩⟩; refine ⟨_, rfl, ?_⟩; have p187 : 0 ≤ (x7_1 : Int) := of_decide_eq_true (by first | (with_reducible assumption) | assumption); have q187 : x7_1 < (l1.length : Int) := of_decide_eq_true (by first | (with_reducible assumption) | assumption); obtain ⟨ad187, e187, hx187_0⟩ := Kd.at_int HR1.out x7_1 p187 q187; obtain rfl : ad184 = ad187 := (by injection e187); replace hx187_0 := (HB.out.cell (World.block_lt_of_cell? w _ hx187_0)).trans hx187_0; replace p187 := eq_true p187; replace q187 := eq_true q187; have p188 : 0 ≤ (x7_1 : Int) := of_decide_eq_true (by first | (with_reducible assumption) | assumption); have q188 : x7_1 < (l1.length : Int) := of_decide_eq_true (by first | (with_reducible assumption) | assumption); obtain ⟨ad188, e188, hx188_0⟩ := Kd.at_int HR1.out x7_1 p188 q188; obtain rfl : ad184 = ad188 := (by injection e188); replace hx188_0 := (HB.out.cell (World.block_lt_of_cell? w _ hx188_0)).trans hx188_0; replace p188 := eq_true p188; replace q188 := eq_true q188; obtain ⟨i020, hi020, _, hsz20, _⟩ := info_parts info5; obtain ⟨A20, hcut20, hA20, hC20⟩ := print_mid_of (P := Try.prog) (Value.int .u8) 0 38 5 .i64 .i64 Try.underlying38 hi020 hsz20 (some ad184) c1 l1 (ji14) (wrap64 ((ji14) + (wrap64 ((Int.tmod (wrap64 (rd l1 x7_1)) 16) + 1)))) (of_decide_eq_true (by first | (with_reducible assumption) | assumption)) (by first | omega | exact of_decide_eq_true (by first | (with_reducible assumption) | assumption)) (of_decide_eq_true (by first | (with_reducible assumption) | assumption)) HC1.out; have HR189 := Aside0.mk (Kd.C_of_reads (h1 := fun _ => rfl) (hA20 _ (Kd.reads_of_C HR1.out))); have HC189 := Aside0.mk hC20; clear hA20 hC20 hi020 hsz20) | ((with_reducible refine gate_builtin (b := .append) (xs := #[.tmp 77, .tmp 87]) rfl ?_); at_builtin; refine Kd.R_append_rows (Kd.int .u8) (w0 := w) w.heap.size rfl (.tmp 77) (.tmp 87) 38 5 (.int .u8 0) 1 rfl Try.underlying38 info5 rfl (by decide) (by omega) (.slice none 0 0) ([] : List Int) ((l1.take ((wrap64 ((ji14) + (wrap64 ((Int.tmod (wrap64 (rd l1 x7_1)) 16) + 1)))) : Int).toNat).drop ((ji14) : Int).toNat) _ _ _ (fun _ => True) (fun _ => False) rfl rfl ?aO ?aR (fun _ _ h => h) (fun _ h => h.elim) ?aF ?aB ?aS ?aL ?_; (case aR => first | (rw [← show ((l1.take ((wrap64 ((ji14) + (wrap64 ((Int.tmod (wrap64 (rd l1 x7_1)) 16) + 1)))) : Int).toNat).drop ((ji14) : Int).toNat).length = ((wrap64 ((ji14) + (wrap64 ((Int.tmod (wrap64 (rd l1 x7_1)) 16) + 1)))).toNat - (ji14).toNat) from (by rw [List.length_drop, List.length_take]; have h_ : ((wrap64 ((ji14) + (wrap64 ((Int.tmod (wrap64 (rd l1 x7_1)) 16) + 1)))) : Int) ≤ (l1.length : Int) := of_decide_eq_true (by first | (with_reducible assumption) | assumption); omega)]; repeat (first | exact (Kd.C_below HR189.out (by repeat (first | (with_reducible first | exact HB.out | apply below_alloc | apply pw_below_drewN | apply below_drew1) | exact HB.out))) | (with_reducible refine Kd.C_alloc ?_ _) | (with_reducible refine Kd.C_drewN ?_ _) | (with_reducible refine Kd.C_drew ?_))) | (repeat (first | exact (Kd.C_below HR189.out (by repeat (first | (with_reducible first | exact HB.out | apply below_alloc | apply pw_below_drewN | apply below_drew1) | exact HB.out))) | (with_reducible refine Kd.C_alloc ?_ _) | (with_reducible refine Kd.C_drewN ?_ _) | (with_reducible refine Kd.C_drew ?_)))); (case aB => exact (by repeat (first | (with_reducible first | exact HB.out | apply below_alloc | apply pw_below_drewN | apply below_drew1) | exact HB.out))); (case aF => exact (fun _ _ => trivial)); (case aO => exact ((Kd.R_nil _ _ _ _ (fun _ => True)))); (case aS => exact (below_size (by repeat (first | (with_reducible first | exact HB.out | apply below_alloc | apply pw_below_drewN | apply below_drew1) | exact HB.out)))); (case aL => have := LMc18.out; have hlx_ := (show ((l1.take ((wrap64 ((ji14) + (wrap64 ((Int.tmod (wrap64 (rd l1 x7_1)) 16) + 1)))) : Int).toNat).drop ((ji14) : Int).toNat).length = ((wrap64 ((ji14) + (wrap64 ((Int.tmod (wrap64 (rd l1 x7_1)) 16) + 1)))).toNat - (ji14).toNat) from (by rw [List.length_drop, List.length_take]; have h_ : ((wrap64 ((ji14) + (wrap64 ((Int.tmod (wrap64 (rd l1 x7_1)) 16) + 1)))) : Int) ≤ (l1.length : Int) := of_decide_eq_true (by first | (with_reducible assumption) | assumption); omega)); omega); intro v191 w21 ho hb hg hat; rw [← Ny190.out] at ho; have n0_ := Aside0.mk (Kd.S_after (Kd.S_apart_nil (by (with_reducible repeat (first | apply Kd.S_alloc | apply Kd.S_drewN | apply Kd.S_drew)); exact HO_6.out)) hg hat); have n1_ := Aside0.mk (hb); have n2_ := Aside0.mk (ho); clear HO_6; clear HB; have HO_6 := n0_; have HB := n1_; have HO192 := n2_; clear n0_ n1_ n2_; clear ho hb hg hat; obtain ⟨Ao22, co22, eo22⟩ := Kd.R_slice HO192.out; subst eo22) | ((with_reducible refine gate_builtin (b := .append) (xs := #[.tmp 74, .tmp 90]) rfl ?_); at_builtin; refine Kd.S_append k164 (w0 := w) w.heap.size rfl (.tmp 74) (.tmp 90) 154 164 (.agg #[(.int .u8 0), (.slice none 0 0)]) 32 rfl Try.underlying154 info164 rfl (by decide) (by omega) u6 x6_1 (⟨(wrap64 (Int.tdiv (wrap64 (rd l1 x7_1)) 16)) % 256, y190⟩ : S164) [.int .u8 ((wrap64 (Int.tdiv (wrap64 (rd l1 x7_1)) 16)) % 256), .slice Ao22 y190.length co22] (fun _ => True) (fun k_ => some k_ = (.slice Ao22 y190.length co22 : Value).ownBlock) rfl rfl ?aP (fun k_ hk_ => ((Kd.R_mono (ok' := fun k_ => ((fun _ => True)) k_ ∧ some k_ ≠ (u6 : Value).ownBlock) (Kd.R_apart' (HO192.out) (Kd.S_typed HO_6.out) (by decide)) (fun k_ hk => ⟨trivial, hk.2⟩))).1 k_ hk_.symm) ?aF ?aO ?aB ?aS ?aL ?_; (case aP => exact k164_mkM _ _ _ (⟨(wrap64 (Int.tdiv (wrap64 (rd l1 x7_1)) 16)) % 256, y190⟩ : S164) (Kd.R_mono (Kd.R_tight rfl (Kd.R_mono (ok' := fun k_ => ((fun _ => True)) k_ ∧ some k_ ≠ (u6 : Value).ownBlock) (Kd.R_apart' (HO192.out) (Kd.S_typed HO_6.out) (by decide)) (fun k_ hk => ⟨trivial, hk.2⟩))) (fun _ h_ => h_))); (case aB => exact (by repeat (first | (with_reducible first | exact HB.out | apply below_alloc | apply pw_below_drewN | apply below_drew1) | exact HB.out))); (case aF => exact (fun _ _ => trivial)); (case aO => exact (by (with_reducible repeat (first | apply Kd.S_alloc | apply Kd.S_drewN | apply Kd.S_drew)); exact Kd.S_mono HO_6.out (fun k_ hk => ⟨trivial, fun e_ => hk.2 e_⟩))); (case aS => exact (below_size (by repeat (first | (with_reducible first | exact HB.out | apply below_alloc | apply pw_below_drewN | apply below_drew1) | exact HB.out)))); (case aL => have := LMc19.out; omega); intro v194 w23 ho hb hg hat; rw [← Ny193.out] at ho; have n0_ := Aside0.mk (hb); have n1_ := Aside0.mk (ho); clear HB; clear HO_6; clear HO192; have HB := n0_; have HO195 := n1_; clear n0_ n1_; clear ho hb hg hat))
                                  go_roundg k1
                                  case measure => have := HK1.out; omega
                                  case rel => exact ⟨(y193), (wrap64 ((ji14) + (wrap64 ((Int.tmod (wrap64 (rd l1 x7_1)) 16) + 1)))), (by first | rfl | (simp; done) | (simp only [← hji14] <;> (first | rfl | simp)) | (simp [*]; done)), H', ⟨by have := HK1.out; omega⟩, ⟨by (with_reducible repeat (first | apply Kd.S_alloc | apply Kd.S_drewN | apply Kd.S_drew)); exact HO195.out⟩, ⟨by repeat (first | (with_reducible first | exact HB.out | apply below_alloc | apply pw_below_drewN | apply below_drew1) | exact HB.out)⟩⟩
                                · rw [if_neg c19] at H
                                  exact absurd H (by simp)
                              · rw [if_neg c18] at H
                                exact absurd H (by simp)
                            · rw [if_neg c17] at H
                              exact absurd H (by simp)
                          · rw [if_neg c16] at H
                            exact absurd H (by simp)
                        · rw [if_neg c15] at H
                          exact absurd H (by simp)
                · replace c10 := Bool.eq_false_iff.mpr c10
                  subst c10
                  have H1 : (if (wrap64 (x7_1 + 1)) ≥ (l1.length : Int) then (some (([] : List (S164)), 10)) else (if 0 ≤ (wrap64 (x7_1 + 1)) then (if (wrap64 (x7_1 + 1)) < (l1.length : Int) then (if (wrap64 ((wrap64 (x7_1 + 2)) + (wrap64 (rd l1 (wrap64 (x7_1 + 1)))))) > (l1.length : Int) then (some (([] : List (S164)), 10)) else (if 0 ≤ (wrap64 (x7_1 + 2)) then (if (wrap64 (x7_1 + 2)) ≤ (wrap64 ((wrap64 (x7_1 + 2)) + (wrap64 (rd l1 (wrap64 (x7_1 + 1)))))) then (if (wrap64 ((wrap64 (x7_1 + 2)) + (wrap64 (rd l1 (wrap64 (x7_1 + 1)))))) ≤ (l1.length : Int) then (if ([] : List Int).length + ((l1.take ((wrap64 ((wrap64 (x7_1 + 2)) + (wrap64 (rd l1 (wrap64 (x7_1 + 1)))))) : Int).toNat).drop ((wrap64 (x7_1 + 2)) : Int).toNat).length < 140737488355328 then (if x6_1.length < 4398046511104 then (easelref03_Parse.l0 k1 a0 l1 (x6_1 ++ [(⟨(wrap64 (rd l1 x7_1)) % 256, (([] : List Int) ++ ((l1.take ((wrap64 ((wrap64 (x7_1 + 2)) + (wrap64 (rd l1 (wrap64 (x7_1 + 1)))))) : Int).toNat).drop ((wrap64 (x7_1 + 2)) : Int).toNat))⟩ : S164)]) (wrap64 ((wrap64 (x7_1 + 2)) + (wrap64 (rd l1 (wrap64 (x7_1 + 1))))))) else (none)) else (none)) else (none)) else (none)) else (none))) else (none)) else (none))) = some (r1, r2) := by rw [if_neg (show ¬ (false = true) by decide)] at H; exact H
                  clear H
                  have H := H1
                  clear H1
                  by_cases c24 : (wrap64 (x7_1 + 1)) ≥ (l1.length : Int)
                  · rw [if_pos c24] at H
                    have c24b0 : decide ((l1.length : Int) ≤ (wrap64 (x7_1 + 1))) = true := decide_eq_true c24
                    clear c24
                    simp only [Option.some.injEq, Prod.mk.injEq] at H
                    obtain ⟨rfl, rfl⟩ := H
                    have p184 : 0 ≤ (x7_1 : Int) := of_decide_eq_true (by first | (with_reducible assumption) | assumption)
                    have q184 : x7_1 < (l1.length : Int) := of_decide_eq_true (by first | (with_reducible assumption) | assumption)
                    obtain ⟨ad184, e184, hx184_0⟩ := Kd.at_int HR1.out x7_1 p184 q184
                    cases e184
                    replace hx184_0 := (HB.out.cell (World.block_lt_of_cell? w _ hx184_0)).trans hx184_0
                    replace p184 := eq_true p184
                    replace q184 := eq_true q184
                    have p185 : 0 ≤ (x7_1 : Int) := of_decide_eq_true (by first | (with_reducible assumption) | assumption)
                    have q185 : x7_1 < (l1.length : Int) := of_decide_eq_true (by first | (with_reducible assumption) | assumption)
                    obtain ⟨ad185, e185, hx185_0⟩ := Kd.at_int HR1.out x7_1 p185 q185
                    obtain rfl : ad184 = ad185 := (by injection e185)
                    replace hx185_0 := (HB.out.cell (World.block_lt_of_cell? w _ hx185_0)).trans hx185_0
                    replace p185 := eq_true p185
                    replace q185 := eq_true q185
                    go_wp2_with (first | ((with_reducible refine gate_callee (f := 120) rfl ?_); refine goesL_ (some 36) rfl rfl Try.func120 (by kernel_rfl) rfl #[.int .u16 a0] rfl (by (try simp only [List.map_toArray, List.map_cons, List.map_nil]); first | done | rfl | (simp only [List.length_drop, List.length_take]; rfl)) ?_; (with_reducible refine (easelref03_one.calls a0 false _ A9.out).mono ?_); rintro e w' ⟨rfl, ⟨nd, rfl⟩⟩; refine ⟨_, rfl, ?_⟩))
                    go_ret2
                    exact ⟨_, by first | rfl | (simp [errW_none, errW_some] <;> rfl) | (simp [*, errW_none, errW_some] <;> rfl), by first | exact Kd.S_nil _ _ _ _ _ | exact Kd.N_nil _ _ _ _ _ | exact Kd.V_nil _ _ _ _ _ | exact Kd.Q_nil _ _ _ _ _ | exact Kd.R_nil _ _ _ _ _, by repeat (first | (with_reducible first | exact HB.out | apply below_alloc | apply pw_below_drewN | apply below_drew1) | exact HB.out)⟩
                  · rw [if_neg c24] at H
                    have c24b0 : decide ((l1.length : Int) ≤ (wrap64 (x7_1 + 1))) = false := decide_eq_false c24
                    clear c24
                    obtain ⟨ji25, hji25⟩ : ∃ j_ : Int, (wrap64 (x7_1 + 1)) = j_ := ⟨_, rfl⟩
                    replace H : (if 0 ≤ (ji25) then (if (ji25) < (l1.length : Int) then (if (wrap64 ((wrap64 (x7_1 + 2)) + (wrap64 (rd l1 (ji25))))) > (l1.length : Int) then (some (([] : List (S164)), 10)) else (if 0 ≤ (wrap64 (x7_1 + 2)) then (if (wrap64 (x7_1 + 2)) ≤ (wrap64 ((wrap64 (x7_1 + 2)) + (wrap64 (rd l1 (ji25))))) then (if (wrap64 ((wrap64 (x7_1 + 2)) + (wrap64 (rd l1 (ji25))))) ≤ (l1.length : Int) then (if ([] : List Int).length + ((l1.take ((wrap64 ((wrap64 (x7_1 + 2)) + (wrap64 (rd l1 (ji25))))) : Int).toNat).drop ((wrap64 (x7_1 + 2)) : Int).toNat).length < 140737488355328 then (if x6_1.length < 4398046511104 then (easelref03_Parse.l0 k1 a0 l1 (x6_1 ++ [(⟨(wrap64 (rd l1 x7_1)) % 256, (([] : List Int) ++ ((l1.take ((wrap64 ((wrap64 (x7_1 + 2)) + (wrap64 (rd l1 (ji25))))) : Int).toNat).drop ((wrap64 (x7_1 + 2)) : Int).toNat))⟩ : S164)]) (wrap64 ((wrap64 (x7_1 + 2)) + (wrap64 (rd l1 (ji25)))))) else (none)) else (none)) else (none)) else (none)) else (none))) else (none)) else (none)) = some (r1, r2) := by first | (rw [hji25] at H; exact H) | (simp only [hji25] at H ⊢; exact H)
                    (try rw [hji25] at c24b0)
                    (try rw [hji25] at A9)
                    have hji25w : (IntKind.i64.wrap (x7_1 + 1)) = ji25 := (i64_w _).trans hji25
                    by_cases c26 : 0 ≤ (ji25)
                    · rw [if_pos c26] at H
                      have c26b0 : decide (0 ≤ (ji25)) = true := decide_eq_true c26
                      clear c26
                      by_cases c27 : (ji25) < (l1.length : Int)
                      · rw [if_pos c27] at H
                        have c27b0 : decide ((ji25) < (l1.length : Int)) = true := decide_eq_true c27
                        clear c27
                        by_cases c28 : (wrap64 ((wrap64 (x7_1 + 2)) + (wrap64 (rd l1 (ji25))))) > (l1.length : Int)
                        · rw [if_pos c28] at H
                          have c28b0 : decide ((l1.length : Int) < (wrap64 ((wrap64 (x7_1 + 2)) + (wrap64 (rd l1 (ji25)))))) = true := decide_eq_true c28
                          clear c28
                          simp only [Option.some.injEq, Prod.mk.injEq] at H
                          obtain ⟨rfl, rfl⟩ := H
                          have p184 : 0 ≤ (x7_1 : Int) := of_decide_eq_true (by first | (with_reducible assumption) | assumption)
                          have q184 : x7_1 < (l1.length : Int) := of_decide_eq_true (by first | (with_reducible assumption) | assumption)
                          obtain ⟨ad184, e184, hx184_0⟩ := Kd.at_int HR1.out x7_1 p184 q184
                          cases e184
                          replace hx184_0 := (HB.out.cell (World.block_lt_of_cell? w _ hx184_0)).trans hx184_0
                          replace p184 := eq_true p184
                          replace q184 := eq_true q184
                          have p185 : 0 ≤ (x7_1 : Int) := of_decide_eq_true (by first | (with_reducible assumption) | assumption)
                          have q185 : x7_1 < (l1.length : Int) := of_decide_eq_true (by first | (with_reducible assumption) | assumption)
                          obtain ⟨ad185, e185, hx185_0⟩ := Kd.at_int HR1.out x7_1 p185 q185
                          obtain rfl : ad184 = ad185 := (by injection e185)
                          replace hx185_0 := (HB.out.cell (World.block_lt_of_cell? w _ hx185_0)).trans hx185_0
                          replace p185 := eq_true p185
                          replace q185 := eq_true q185
                          go_wp2_with (first | ((with_reducible refine gate_callee (f := 120) rfl ?_); refine goesL_ (some 36) rfl rfl Try.func120 (by kernel_rfl) rfl #[.int .u16 a0] rfl (by (try simp only [List.map_toArray, List.map_cons, List.map_nil]); first | done | rfl | (simp only [List.length_drop, List.length_take]; rfl)) ?_; (with_reducible refine (easelref03_one.calls a0 false _ A9.out).mono ?_); rintro e w' ⟨rfl, ⟨nd, rfl⟩⟩; refine ⟨_, rfl, ?_⟩; have p196 : 0 ≤ ((ji25) : Int) := of_decide_eq_true (by first | (with_reducible assumption) | assumption); have q196 : (ji25) < (l1.length : Int) := of_decide_eq_true (by first | (with_reducible assumption) | assumption); obtain ⟨ad196, e196, hx196_0⟩ := Kd.at_int HR1.out (ji25) p196 q196; obtain rfl : ad184 = ad196 := (by injection e196); replace hx196_0 := (HB.out.cell (World.block_lt_of_cell? w _ hx196_0)).trans hx196_0; replace p196 := eq_true p196; replace q196 := eq_true q196))
                          go_ret2
                          exact ⟨_, by first | rfl | (simp [errW_none, errW_some] <;> rfl) | (simp only [← hji25]; first | rfl | (simp [errW_none, errW_some] <;> rfl)) | (simp [*, errW_none, errW_some] <;> rfl), by first | exact Kd.S_nil _ _ _ _ _ | exact Kd.N_nil _ _ _ _ _ | exact Kd.V_nil _ _ _ _ _ | exact Kd.Q_nil _ _ _ _ _ | exact Kd.R_nil _ _ _ _ _, by repeat (first | (with_reducible first | exact HB.out | apply below_alloc | apply pw_below_drewN | apply below_drew1) | exact HB.out)⟩
                        · rw [if_neg c28] at H
                          have c28b0 : decide ((l1.length : Int) < (wrap64 ((wrap64 (x7_1 + 2)) + (wrap64 (rd l1 (ji25)))))) = false := decide_eq_false c28
                          clear c28
                          obtain ⟨ji29, hji29⟩ : ∃ j_ : Int, (wrap64 (x7_1 + 2)) = j_ := ⟨_, rfl⟩
                          replace H : (if 0 ≤ (ji29) then (if (ji29) ≤ (wrap64 ((ji29) + (wrap64 (rd l1 (ji25))))) then (if (wrap64 ((ji29) + (wrap64 (rd l1 (ji25))))) ≤ (l1.length : Int) then (if ([] : List Int).length + ((l1.take ((wrap64 ((ji29) + (wrap64 (rd l1 (ji25))))) : Int).toNat).drop ((ji29) : Int).toNat).length < 140737488355328 then (if x6_1.length < 4398046511104 then (easelref03_Parse.l0 k1 a0 l1 (x6_1 ++ [(⟨(wrap64 (rd l1 x7_1)) % 256, (([] : List Int) ++ ((l1.take ((wrap64 ((ji29) + (wrap64 (rd l1 (ji25))))) : Int).toNat).drop ((ji29) : Int).toNat))⟩ : S164)]) (wrap64 ((ji29) + (wrap64 (rd l1 (ji25)))))) else (none)) else (none)) else (none)) else (none)) else (none)) = some (r1, r2) := by first | (rw [hji29] at H; exact H) | (simp only [hji29] at H ⊢; exact H)
                          (try rw [hji29] at c28b0)
                          (try rw [hji29] at A9)
                          have hji29w : (IntKind.i64.wrap (x7_1 + 2)) = ji29 := (i64_w _).trans hji29
                          by_cases c30 : 0 ≤ (ji29)
                          · rw [if_pos c30] at H
                            have c30b0 := eq_true c30
                            have c30b1 : decide (0 ≤ (ji29)) = true := decide_eq_true c30
                            clear c30
                            by_cases c31 : (ji29) ≤ (wrap64 ((ji29) + (wrap64 (rd l1 (ji25)))))
                            · rw [if_pos c31] at H
                              have c31b0 := eq_true c31
                              have c31b1 : decide ((ji29) ≤ (wrap64 ((ji29) + (wrap64 (rd l1 (ji25)))))) = true := decide_eq_true c31
                              by_cases c32 : (wrap64 ((ji29) + (wrap64 (rd l1 (ji25))))) ≤ (l1.length : Int)
                              · rw [if_pos c32] at H
                                have c32b0 := eq_true c32
                                have c32b1 : decide ((wrap64 ((ji29) + (wrap64 (rd l1 (ji25))))) ≤ (l1.length : Int)) = true := decide_eq_true c32
                                by_cases c33 : ([] : List Int).length + ((l1.take ((wrap64 ((ji29) + (wrap64 (rd l1 (ji25))))) : Int).toNat).drop ((ji29) : Int).toNat).length < 140737488355328
                                · rw [if_pos c33] at H
                                  have LMc33 := Aside0.mk c33
                                  clear c33
                                  obtain ⟨y198, hy198⟩ : ∃ y_ : List Int, y_ = (([] : List Int) ++ ((l1.take ((wrap64 ((ji29) + (wrap64 (rd l1 (ji25))))) : Int).toNat).drop ((ji29) : Int).toNat)) := ⟨_, rfl⟩
                                  replace H : (if x6_1.length < 4398046511104 then (easelref03_Parse.l0 k1 a0 l1 (x6_1 ++ [(⟨(wrap64 (rd l1 x7_1)) % 256, y198⟩ : S164)]) (wrap64 ((ji29) + (wrap64 (rd l1 (ji25)))))) else (none)) = some (r1, r2) := by first | (rw [hy198]; with_reducible exact H) | (have H2_ := (Option.bind_some _ _).symm.trans H; rw [hy198]; with_reducible exact H2_) | (have H2_ := (Option.bind_some _ _).symm.trans H; with_reducible exact H2_) | with_reducible exact H | (rw [hy198]; exact H) | exact H
                                  have Ny198 := Aside0.mk hy198
                                  clear hy198
                                  by_cases c34 : x6_1.length < 4398046511104
                                  · rw [if_pos c34] at H
                                    have LMc34 := Aside0.mk c34
                                    clear c34
                                    obtain ⟨y201, hy201⟩ : ∃ y_ : List (S164), y_ = (x6_1 ++ [(⟨(wrap64 (rd l1 x7_1)) % 256, y198⟩ : S164)]) := ⟨_, rfl⟩
                                    replace H : (easelref03_Parse.l0 k1 a0 l1 y201 (wrap64 ((ji29) + (wrap64 (rd l1 (ji25)))))) = some (r1, r2) := by first | (rw [hy201]; with_reducible exact H) | (have H2_ := (Option.bind_some _ _).symm.trans H; rw [hy201]; with_reducible exact H2_) | (have H2_ := (Option.bind_some _ _).symm.trans H; with_reducible exact H2_) | with_reducible exact H | (rw [hy201]; exact H) | exact H
                                    have Ny201 := Aside0.mk hy201
                                    clear hy201
                                    have H' := Aside0.mk H
                                    clear H
                                    have p184 : 0 ≤ (x7_1 : Int) := of_decide_eq_true (by first | (with_reducible assumption) | assumption)
                                    have q184 : x7_1 < (l1.length : Int) := of_decide_eq_true (by first | (with_reducible assumption) | assumption)
                                    obtain ⟨ad184, e184, hx184_0⟩ := Kd.at_int HR1.out x7_1 p184 q184
                                    cases e184
                                    replace hx184_0 := (HB.out.cell (World.block_lt_of_cell? w _ hx184_0)).trans hx184_0
                                    replace p184 := eq_true p184
                                    replace q184 := eq_true q184
                                    have p185 : 0 ≤ (x7_1 : Int) := of_decide_eq_true (by first | (with_reducible assumption) | assumption)
                                    have q185 : x7_1 < (l1.length : Int) := of_decide_eq_true (by first | (with_reducible assumption) | assumption)
                                    obtain ⟨ad185, e185, hx185_0⟩ := Kd.at_int HR1.out x7_1 p185 q185
                                    obtain rfl : ad184 = ad185 := (by injection e185)
                                    replace hx185_0 := (HB.out.cell (World.block_lt_of_cell? w _ hx185_0)).trans hx185_0
                                    replace p185 := eq_true p185
                                    replace q185 := eq_true q185
                                    go_wp2_with (first | ((with_reducible refine gate_callee (f := 120) rfl ?_); refine goesL_ (some 36) rfl rfl Try.func120 (by kernel_rfl) rfl #[.int .u16 a0] rfl (by (try simp only [List.map_toArray, List.map_cons, List.map_nil]); first | done | rfl | (simp only [List.length_drop, List.length_take]; rfl)) ?_; (with_reducible refine (easelref03_one.calls a0 false _ A9.out).mono ?_); rintro e w' ⟨rfl, ⟨nd, rfl⟩⟩; refine ⟨_, rfl, ?_⟩; have p196 : 0 ≤ ((ji25) : Int) := of_decide_eq_true (by first | (with_reducible assumption) | assumption); have q196 : (ji25) < (l1.length : Int) := of_decide_eq_true (by first | (with_reducible assumption) | assumption); obtain ⟨ad196, e196, hx196_0⟩ := Kd.at_int HR1.out (ji25) p196 q196; obtain rfl : ad184 = ad196 := (by injection e196); replace hx196_0 := (HB.out.cell (World.block_lt_of_cell? w _ hx196_0)).trans hx196_0; replace p196 := eq_true p196; replace q196 := eq_true q196; obtain ⟨i035, hi035, _, hsz35, _⟩ := info_parts info5; obtain ⟨A35, hcut35, hA35, hC35⟩ := print_mid_of (P := Try.prog) (Value.int .u8) 0 38 5 .i64 .i64 Try.underlying38 hi035 hsz35 (some ad184) c1 l1 (ji29) (wrap64 ((ji29) + (wrap64 (rd l1 (ji25))))) (of_decide_eq_true (by first | (with_reducible assumption) | assumption)) (by first | omega | exact of_decide_eq_true (by first | (with_reducible assumption) | assumption)) (of_decide_eq_true (by first | (with_reducible assumption) | assumption)) HC1.out; have HR197 := Aside0.mk (Kd.C_of_reads (h1 := fun _ => rfl) (hA35 _ (Kd.reads_of_C HR1.out))); have HC197 := Aside0.mk hC35; clear hA35 hC35 hi035 hsz35) | ((with_reducible refine gate_builtin (b := .append) (xs := #[.tmp 77, .tmp 87]) rfl ?_); at_builtin; refine Kd.R_append_rows (Kd.int .u8) (w0 := w) w.heap.size rfl (.tmp 77) (.tmp 87) 38 5 (.int .u8 0) 1 rfl Try.underlying38 info5 rfl (by decide) (by omega) (.slice none 0 0) ([] : List Int) ((l1.take ((wrap64 ((ji29) + (wrap64 (rd l1 (ji25))))) : Int).toNat).drop ((ji29) : Int).toNat) _ _ _ (fun _ => True) (fun _ => False) rfl rfl ?aO ?aR (fun _ _ h => h) (fun _ h => h.elim) ?aF ?aB ?aS ?aL ?_; (case aR => first | (rw [← show ((l1.take ((wrap64 ((ji29) + (wrap64 (rd l1 (ji25))))) : Int).toNat).drop ((ji29) : Int).toNat).length = ((wrap64 ((ji29) + (wrap64 (rd l1 (ji25))))).toNat - (ji29).toNat) from (by rw [List.length_drop, List.length_take]; have h_ : ((wrap64 ((ji29) + (wrap64 (rd l1 (ji25))))) : Int) ≤ (l1.length : Int) := of_decide_eq_true (by first | (with_reducible assumption) | assumption); omega)]; repeat (first | exact (Kd.C_below HR197.out (by repeat (first | (with_reducible first | exact HB.out | apply below_alloc | apply pw_below_drewN | apply below_drew1) | exact HB.out))) | (with_reducible refine Kd.C_alloc ?_ _) | (with_reducible refine Kd.C_drewN ?_ _) | (with_reducible refine Kd.C_drew ?_))) | (repeat (first | exact (Kd.C_below HR197.out (by repeat (first | (with_reducible first | exact HB.out | apply below_alloc | apply pw_below_drewN | apply below_drew1) | exact HB.out))) | (with_reducible refine Kd.C_alloc ?_ _) | (with_reducible refine Kd.C_drewN ?_ _) | (with_reducible refine Kd.C_drew ?_)))); (case aB => exact (by repeat (first | (with_reducible first | exact HB.out | apply below_alloc | apply pw_below_drewN | apply below_drew1) | exact HB.out))); (case aF => exact (fun _ _ => trivial)); (case aO => exact ((Kd.R_nil _ _ _ _ (fun _ => True)))); (case aS => exact (below_size (by repeat (first | (with_reducible first | exact HB.out | apply below_alloc | apply pw_below_drewN | apply below_drew1) | exact HB.out)))); (case aL => have := LMc33.out; have hlx_ := (show ((l1.take ((wrap64 ((ji29) + (wrap64 (rd l1 (ji25))))) : Int).toNat).drop ((ji29) : Int).toNat).length = ((wrap64 ((ji29) + (wrap64 (rd l1 (ji25))))).toNat - (ji29).toNat) from (by rw [List.length_drop, List.length_take]; have h_ : ((wrap64 ((ji29) + (wrap64 (rd l1 (ji25))))) : Int) ≤ (l1.length : Int) := of_decide_eq_true (by first | (with_reducible assumption) | assumption); omega)); omega); intro v199 w36 ho hb hg hat; rw [← Ny198.out] at ho; have n0_ := Aside0.mk (Kd.S_after (Kd.S_apart_nil (by (with_reducible repeat (first | apply Kd.S_alloc | apply Kd.S_drewN | apply Kd.S_drew)); exact HO_6.out)) hg hat); have n1_ := Aside0.mk (hb); have n2_ := Aside0.mk (ho); clear HO_6; clear HB; have HO_6 := n0_; have HB := n1_; have HO200 := n2_; clear n0_ n1_ n2_; clear ho hb hg hat; obtain ⟨Ao37, co37, eo37⟩ := Kd.R_slice HO200.out; subst eo37) | ((with_reducible refine gate_builtin (b := .append) (xs := #[.tmp 74, .tmp 90]) rfl ?_); at_builtin; refine Kd.S_append k164 (w0 := w) w.heap.size rfl (.tmp 74) (.tmp 90) 154 164 (.agg #[(.int .u8 0), (.slice none 0 0)]) 32 rfl Try.underlying154 info164 rfl (by decide) (by omega) u6 x6_1 (⟨(wrap64 (rd l1 x7_1)) % 256, y198⟩ : S164) [.int .u8 ((wrap64 (rd l1 x7_1)) % 256), .slice Ao37 y198.length co37] (fun _ => True) (fun k_ => some k_ = (.slice Ao37 y198.length co37 : Value).ownBlock) rfl rfl ?aP (fun k_ hk_ => ((Kd.R_mono (ok' := fun k_ => ((fun _ => True)) k_ ∧ some k_ ≠ (u6 : Value).ownBlock) (Kd.R_apart' (HO200.out) (Kd.S_typed HO_6.out) (by decide)) (fun k_ hk => ⟨trivial, hk.2⟩))).1 k_ hk_.symm) ?aF ?aO ?aB ?aS ?aL ?_; (case aP => exact k164_mkM _ _ _ (⟨(wrap64 (rd l1 x7_1)) % 256, y198⟩ : S164) (Kd.R_mono (Kd.R_tight rfl (Kd.R_mono (ok' := fun k_ => ((fun _ => True)) k_ ∧ some k_ ≠ (u6 : Value).ownBlock) (Kd.R_apart' (HO200.out) (Kd.S_typed HO_6.out) (by decide)) (fun k_ hk => ⟨trivial, hk.2⟩))) (fun _ h_ => h_))); (case aB => exact (by repeat (first | (with_reducible first | exact HB.out | apply below_alloc | apply pw_below_drewN | apply below_drew1) | exact HB.out))); (case aF => exact (fun _ _ => trivial)); (case aO => exact (by (with_reducible repeat (first | apply Kd.S_alloc | apply Kd.S_drewN | apply Kd.S_drew)); exact Kd.S_mono HO_6.out (fun k_ hk => ⟨trivial, fun e_ => hk.2 e_⟩))); (case aS => exact (below_size (by repeat (first | (with_reducible first | exact HB.out | apply below_alloc | apply pw_below_drewN | apply below_drew1) | exact HB.out)))); (case aL => have := LMc34.out; omega); intro v202 w38 ho hb hg hat; rw [← Ny201.out] at ho; have n0_ := Aside0.mk (hb); have n1_ := Aside0.mk (ho); clear HB; clear HO_6; clear HO200; have HB := n0_; have HO203 := n1_; clear n0_ n1_; clear ho hb hg hat))
                                    go_roundg k1
                                    case measure => have := HK1.out; omega
                                    case rel => exact ⟨(y201), (wrap64 ((ji29) + (wrap64 (rd l1 (ji25))))), (by first | rfl | (simp; done) | (simp only [← hji25, ← hji29] <;> (first | rfl | simp)) | (simp [*]; done)), H', ⟨by have := HK1.out; omega⟩, ⟨by (with_reducible repeat (first | apply Kd.S_alloc | apply Kd.S_drewN | apply Kd.S_drew)); exact HO203.out⟩, ⟨by repeat (first | (with_reducible first | exact HB.out | apply below_alloc | apply pw_below_drewN | apply below_drew1) | exact HB.out)⟩⟩
                                  · rw [if_neg c34] at H
                                    exact absurd H (by simp)
                                · rw [if_neg c33] at H
                                  exact absurd H (by simp)
                              · rw [if_neg c32] at H
                                exact absurd H (by simp)
                            · rw [if_neg c31] at H
                              exact absurd H (by simp)
                          · rw [if_neg c30] at H
                            exact absurd H (by simp)
                      · rw [if_neg c27] at H
                        exact absurd H (by simp)
                    · rw [if_neg c26] at H
                      exact absurd H (by simp)
            · rw [if_neg c7] at H
              exact absurd H (by simp)
          · rw [if_neg c6] at H
            have c6b0 : decide (x7_1 < (l1.length : Int)) = false := decide_eq_false c6
            clear c6
            simp only [Option.some.injEq, Prod.mk.injEq] at H
            obtain ⟨rfl, rfl⟩ := H
            go_wp2
            go_ret2
            exact ⟨_, by first | rfl | (simp [errW_none, errW_some] <;> rfl) | (simp [*, errW_none, errW_some] <;> rfl), by (with_reducible repeat (first | apply Kd.S_alloc | apply Kd.S_drewN | apply Kd.S_drew)); exact HO_6.out, by repeat (first | (with_reducible first | exact HB.out | apply below_alloc | apply pw_below_drewN | apply below_drew1) | exact HB.out)⟩
    · rw [if_neg c5] at H
      have c5b0 : (((l1.length : Int) % 4) == 0) = false := beq_eq_false_iff_ne.mpr c5
      have c5b1 : (((l1.length : Int) % 4) != 0) = true := bne_iff_ne.mpr c5
      simp only [Option.some.injEq, Prod.mk.injEq] at H
      obtain ⟨rfl, rfl⟩ := H
      go_enter Try.func89, Try.ntmps89
      go_wp2_with (first | ((with_reducible refine gate_callee (f := 119) rfl ?_); refine goesL_ (some 13) rfl rfl Try.func119 (by kernel_rfl) rfl #[.int .u16 a0] rfl (by (try simp only [List.map_toArray, List.map_cons, List.map_nil]); first | done | rfl | (simp only [List.length_drop, List.length_take]; rfl)) ?_; (with_reducible refine (easelref03_Known.calls a0 true _ A3.out).mono ?_); rintro e w' ⟨rfl, ⟨nd, rfl⟩⟩; refine ⟨_, rfl, ?_⟩))
      go_ret2
      exact ⟨_, by first | rfl | (simp [errW_none, errW_some] <;> rfl) | (simp [*, errW_none, errW_some] <;> rfl), by first | exact Kd.S_nil _ _ _ _ _ | exact Kd.N_nil _ _ _ _ _ | exact Kd.V_nil _ _ _ _ _ | exact Kd.Q_nil _ _ _ _ _ | exact Kd.R_nil _ _ _ _ _, by repeat (first | (with_reducible first | exact HB.out | apply below_alloc | apply pw_below_drewN | apply below_drew1) | exact HB.out)⟩
  · replace c4 := Bool.eq_false_iff.mpr c4
    subst c4
    have H1 : (some (([] : List (S164)), 30)) = some (r1, r2) := by rw [if_neg (show ¬ (false = true) by decide)] at H; exact H
    clear H
    have H := H1
    clear H1
    simp only [Option.some.injEq, Prod.mk.injEq] at H
    obtain ⟨rfl, rfl⟩ := H
    go_enter Try.func89, Try.ntmps89
    go_wp2_with (first | ((with_reducible refine gate_callee (f := 119) rfl ?_); refine goesL_ (some 13) rfl rfl Try.func119 (by kernel_rfl) rfl #[.int .u16 a0] rfl (by (try simp only [List.map_toArray, List.map_cons, List.map_nil]); first | done | rfl | (simp only [List.length_drop, List.length_take]; rfl)) ?_; (with_reducible refine (easelref03_Known.calls a0 false _ A3.out).mono ?_); rintro e w' ⟨rfl, ⟨nd, rfl⟩⟩; refine ⟨_, rfl, ?_⟩))
    go_ret2
    exact ⟨_, by first | rfl | (simp [errW_none, errW_some] <;> rfl) | (simp [*, errW_none, errW_some] <;> rfl), by first | exact Kd.S_nil _ _ _ _ _ | exact Kd.N_nil _ _ _ _ _ | exact Kd.V_nil _ _ _ _ _ | exact Kd.Q_nil _ _ _ _ _ | exact Kd.R_nil _ _ _ _ _, by repeat (first | (with_reducible first | exact HB.out | apply below_alloc | apply pw_below_drewN | apply below_drew1) | exact HB.out)⟩

end Go.Proofs.Ytjcejgolcdgipaa.K4
