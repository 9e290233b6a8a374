/- Texts of this session, one behind the other, what the row does not use left out: walks and laws over plain data. -/
import Derived.Test.YthgjhdcifdfhoaaPU7
import Derived.Test.YthgjhdcifdfhoaaPU10

namespace Go.Proofs.Ythgjhdcifdfhoaa.V5
open Go.RowKit Go.Proofs.Ythgjhdcifdfhoaa Go.Proofs.YthgjhdcifdfhoaaW.PrintWords
set_option linter.unusedVariables false
set_option linter.unusedSimpArgs false

theorem gt_d (a b : Nat) : ((a : Int) > (b : Int)) = (decide (b < a) = true) := by rw [decide_eq_true_iff]; exact propext ⟨fun h => by omega, fun h => by omega⟩
set_option maxRecDepth 10000 in
theorem right_first (k : Nat) (d : VD) :
    K5.easelref05_Right.f k d.n d.st d.part d.hp d.lg d.pic d.ht d.tl d.hi d.ti d.sy d.hk d.ky = K5.easelref05_Right.j0 k (decide (7 < d.part) || decide (32767 < d.pic) || (!d.lg && decide (127 < d.pic)) || decide (3 < d.ti) || decide (31 < d.ky)) d.n d.st d.part d.hp d.lg d.pic d.ht d.tl d.hi d.ti d.sy d.hk d.ky := by
  unfold K5.easelref05_Right.f
  have e1 := gt_d d.part 7
  have e2 := gt_d d.pic 32767
  have e3 := gt_d d.pic 127
  have e4 := gt_d d.ti 3
  have e5 := gt_d d.ky 31
  simp only [Int.cast_ofNat_Int] at e1 e2 e3 e4 e5
  have e5' : decide ((d.ky : Int) > 31) = decide (31 < d.ky) := by rw [Bool.eq_iff_iff, decide_eq_true_iff, e5]
  have e4' : decide ((d.ti : Int) > 3) = decide (3 < d.ti) := by rw [Bool.eq_iff_iff, decide_eq_true_iff, e4]
  have e3' : decide ((d.pic : Int) > 127) = decide (127 < d.pic) := by rw [Bool.eq_iff_iff, decide_eq_true_iff, e3]
  simp only [e1, e2, e3, e4, e5', e4', e3']
  generalize decide (7 < d.part) = b1
  generalize decide (32767 < d.pic) = b2
  generalize decide (127 < d.pic) = b3
  generalize decide (3 < d.ti) = b4
  generalize decide (31 < d.ky) = b5
  generalize d.lg = lg
  cases b1 <;> cases b2 <;> cases lg <;> cases b3 <;> cases b4 <;> rfl
theorem right_f (k : Nat) (d : VD) : K5.easelref05_Right.f (k + 1) d.n d.st d.part d.hp d.lg d.pic d.ht d.tl d.hi d.ti d.sy d.hk d.ky = some (rightV d) := by
  rw [right_first]
  unfold K5.easelref05_Right.j0 rightV
  generalize (decide (7 < d.part) || decide (32767 < d.pic) || (!d.lg && decide (127 < d.pic)) || decide (3 < d.ti) || decide (31 < d.ky)) = c1
  have z1 : ((d.pic : Int) == 0) = decide (d.pic = 0) := by rw [Bool.eq_iff_iff]; simp
  have z2 : ((d.ky : Int) == 0) = decide (d.ky = 0) := by rw [Bool.eq_iff_iff]; simp
  have z3 : ((d.pic : Int) = 0) = (decide (d.pic = 0) = true) := by simp
  have z4 : ((d.tl : Int) = 0) = (decide (d.tl = 0) = true) := by simp
  have z5 : ((d.ti : Int) = 0) = (decide (d.ti = 0) = true) := by simp
  have z6 : ((d.ky : Int) = 0) = (decide (d.ky = 0) = true) := by simp
  have z7 : ((d.tl : Int) == 0) = decide (d.tl = 0) := by rw [Bool.eq_iff_iff]; simp
  have z8 : ((d.ti : Int) == 0) = decide (d.ti = 0) := by rw [Bool.eq_iff_iff]; simp
  simp only [z1, z2, z3, z4, z5, z6, z7, z8]
  generalize decide (d.pic = 0) = b1
  generalize decide (d.tl = 0) = b2
  generalize decide (d.ti = 0) = b3
  generalize decide (d.ky = 0) = b4
  generalize d.lg = lg
  generalize d.hp = hp
  generalize d.ht = ht
  generalize d.hi = hi
  generalize d.hk = hk
  generalize d.sy = sy
  cases c1
  · revert b1 b2 b3 b4 lg hp ht hi hk sy
    decide
  · rfl
theorem r5Right_any (w : World) (d : VD) :
    Calls Try.prog 25 #[.agg (dv d)] w fun e w' => e = .returned (.bool (rightV d)) ∧ Kp (fun _ => True) w w' := by
  refine (K5.easelref05_Right.calls 1 d.n d.st d.part d.hp d.lg d.pic d.ht d.tl d.hi d.ti d.sy d.hk d.ky (rightV d) w ?_).mono fun e w' ⟨he, hb⟩ => ⟨he, Kp.of_below hb (fun _ _ hl => hl)⟩
  exact right_f 0 d
end Go.Proofs.Ythgjhdcifdfhoaa.V5
