/- Texts of this session, one behind the other, what the row does not use left out: walks and laws over plain data. -/
import Derived.Test.YthgjhdcifdfhoaaPU11
import Derived.Test.YthgjhdcifdfhoaaPU12
import Derived.Test.YthgjhdcifdfhoaaPU13

namespace Go.Proofs.Ythgjhdcifdfhoaa.V5
open Go.RowKit Go.Proofs.Ythgjhdcifdfhoaa Go.Proofs.YthgjhdcifdfhoaaW.PrintWords
set_option linter.unusedVariables false
set_option linter.unusedSimpArgs false

theorem right_bounds {d : VD} (h : rightV d = true) : d.part ≤ 7 ∧ d.pic ≤ 32767 ∧ (d.lg = false → d.pic ≤ 127) ∧ d.ti ≤ 3 ∧ d.ky ≤ 31 := by
  unfold rightV at h
  simp only [Bool.and_eq_true, Bool.not_eq_true', Bool.or_eq_false_iff, decide_eq_false_iff_not, Bool.and_eq_false_iff, Bool.not_eq_false'] at h
  obtain ⟨⟨⟨⟨⟨⟨⟨⟨h1, h2⟩, h3⟩, h4⟩, h5⟩, _⟩, _⟩, _⟩, _⟩ := h
  refine ⟨by omega, by omega, fun e => ?_, by omega, by omega⟩
  rcases h3 with h3 | h3
  · rw [e] at h3; cases h3
  · omega
theorem bit_f (x : Bool) (m : Nat) : K5.easelref05_bit.f x (m : Int) = some ((dg5 x m : Nat) : Int) := by
  unfold K5.easelref05_bit.f dg5 bt
  cases x <;> simp
section
variable {d : VD} (k : Nat) (l1 x7 : List Int)
theorem put_j6 (h : rightV d = true) (hl : l1.length ≤ 1000000) (h7 : x7.length ≤ 100) :
    K5.easelref05_Put.j6 (k + 1) l1 x7 d.n d.st d.part d.hp d.lg d.pic d.ht d.tl d.hi d.ti d.sy d.hk d.ky = some (x7 ++ ib (if (d.hi || d.hk) = true then [d.ti % 4 * 64 + bt d.sy * 32 + d.ky % 32] else []) ++ l1, 0) := by
  obtain ⟨b1, b2, b3, b4, b5⟩ := right_bounds h
  have hs := bt_lt d.sy
  have hx : ((((d.ti : Int) * 64 % 256 + ((dg5 d.sy 32 : Nat) : Int)) % 256 + (d.ky : Int)) % 256) = ((d.ti % 4 * 64 + bt d.sy * 32 + d.ky % 32 : Nat) : Int) := by unfold dg5; omega
  unfold K5.easelref05_Put.j6
  have e := bit_f d.sy 32
  rw [show ((32 : Nat) : Int) = 32 from rfl] at e
  simp only [e, Option.bind_some, hx]
  generalize d.ti % 4 * 64 + bt d.sy * 32 + d.ky % 32 = x
  have g1 : x7.length < 140737488355328 := by omega
  have g2 : x7.length + l1.length < 140737488355328 := by omega
  have g3 : (x7 ++ [(x : Int)]).length + l1.length < 140737488355328 := by simp; omega
  cases d.hi <;> cases d.hk <;> simp [g1, g2, ib] <;> omega
theorem put_j5 (h : rightV d = true) (hl : l1.length ≤ 1000000) (h7 : x7.length ≤ 50) (ht : d.tl < 256) :
    K5.easelref05_Put.j5 (k + 1 + 1) l1 x7 d.n d.st d.part d.hp d.lg d.pic d.ht d.tl d.hi d.ti d.sy d.hk d.ky = some (x7 ++ ib (if d.ht = true then [d.tl % 256] else []) ++ ib (if (d.hi || d.hk) = true then [d.ti % 4 * 64 + bt d.sy * 32 + d.ky % 32] else []) ++ l1, 0) := by
  unfold K5.easelref05_Put.j5
  dsimp only
  rw [put_j6 k l1 _ h hl (by simp; omega), put_j6 k l1 _ h hl (by omega), if_pos (show x7.length < 140737488355328 by omega)]
  cases d.ht
  · simp [ib]
  · simp only [if_true]
    rw [Nat.mod_eq_of_lt ht]
    rfl
/-- The pictures' bytes. -/
def picL (d : VD) : List Nat := if d.hp = true then (if d.lg = true then [128 + d.pic % 32768 / 256, d.pic % 256] else [d.pic % 128]) else []
theorem put_j1 (h : rightV d = true) (hl : l1.length ≤ 1000000) (h7 : x7.length ≤ 10) (ht : d.tl < 256) :
    K5.easelref05_Put.j1 (k + 1 + 1 + 1 + 1 + 1 + 1) l1 x7 d.n d.st d.part d.hp d.lg d.pic d.ht d.tl d.hi d.ti d.sy d.hk d.ky = some (x7 ++ ib (picL d) ++ ib (if d.ht = true then [d.tl % 256] else []) ++ ib (if (d.hi || d.hk) = true then [d.ti % 4 * 64 + bt d.sy * 32 + d.ky % 32] else []) ++ l1, 0) := by
  obtain ⟨b1, b2, b3, b4, b5⟩ := right_bounds h
  have p1 : (128 + IntKind.u16.wrap (Int.tdiv (d.pic : Int) 256) % 256) % 256 = ((128 + d.pic % 32768 / 256 : Nat) : Int) := by
    rw [Int.tdiv_eq_ediv_of_nonneg (by omega), IntWalk.u16_in _ (by omega)]; omega
  have p2 : (Int.tmod (d.pic : Int) 256) % 256 = ((d.pic % 256 : Nat) : Int) := by rw [Int.tmod_eq_emod_of_nonneg (by omega)]; omega
  have p3 : d.lg = false → (d.pic : Int) % 256 = ((d.pic % 128 : Nat) : Int) := fun e => by have := b3 e; omega
  unfold K5.easelref05_Put.j1
  dsimp only
  unfold K5.easelref05_Put.j2
  dsimp only
  unfold K5.easelref05_Put.j3
  dsimp only
  unfold K5.easelref05_Put.j4
  dsimp only
  unfold picL
  simp only [p1, p2, Option.bind_some]
  have q : ∀ x7 : List Int, x7.length ≤ 50 → _ := fun x7 h7 => put_j5 k l1 x7 h hl h7 ht
  cases hp : d.hp
  · simp only [Bool.false_eq_true, if_false]
    rw [hp] at q
    rw [q x7 (by omega)]
    simp [ib]
  · simp only [if_true]
    rw [hp] at q
    cases hg : d.lg
    · simp only [Bool.false_eq_true, if_false, Bool.not_false, if_true]
      rw [hg] at q
      rw [if_pos (by omega), q _ (by simp; omega), p3 hg]
      rfl
    · simp only [Bool.not_true, if_true, Bool.false_eq_true, if_false]
      rw [hg] at q
      rw [if_pos (by simp; omega), q _ (by simp; omega)]
      rfl
theorem put_j0 (h : rightV d = true) (hl : l1.length ≤ 1000000) (ht : d.tl < 256) :
    K5.easelref05_Put.j0 (k + 1 + 1 + 1 + 1 + 1 + 1 + 1) l1 (d.hp || d.ht || d.hi || d.hk) d.n d.st d.part d.hp d.lg d.pic d.ht d.tl d.hi d.ti d.sy d.hk d.ky = some (ib (putB d) ++ l1, 0) := by
  obtain ⟨b1, b2, b3, b4, b5⟩ := right_bounds h
  have h1 := bt_lt d.n
  have h2 := bt_lt d.st
  have h3 := bt_lt d.hp
  have h4 := bt_lt d.ht
  have h5 := bt_lt d.hi
  have h6 := bt_lt d.hk
  have h7 := bt_lt (d.hp || d.ht || d.hi || d.hk)
  have f := fun x m => bit_f x m
  have f128 := fun x => f x 128
  have f64 := fun x => f x 64
  have f32 := fun x => f x 32
  have f16 := fun x => f x 16
  simp only [Int.cast_ofNat_Int] at f128 f64 f32 f16
  have y0 : (((((dg5 (d.hp || d.ht || d.hi || d.hk) 128 : Nat) : Int) + ((dg5 d.n 32 : Nat) : Int)) % 256 + ((dg5 d.st 16 : Nat) : Int)) % 256 + (d.part : Int)) % 256 = ((bt (d.hp || d.ht || d.hi || d.hk) * 128 + bt d.n * 32 + bt d.st * 16 + d.part % 8 : Nat) : Int) := by unfold dg5; omega
  have y1 : (((((dg5 d.hp 128 : Nat) : Int) + ((dg5 d.ht 64 : Nat) : Int)) % 256 + ((dg5 d.hi 32 : Nat) : Int)) % 256 + ((dg5 d.hk 16 : Nat) : Int)) % 256 = ((bt d.hp * 128 + bt d.ht * 64 + bt d.hi * 32 + bt d.hk * 16 : Nat) : Int) := by unfold dg5; omega
  unfold K5.easelref05_Put.j0
  dsimp only
  simp only [f128, f64, f32, f16, Option.bind_some, y0, y1]
  unfold putB
  by_cases hm : (d.hp || d.ht || d.hi || d.hk) = true
  · simp only [hm, if_true]
    rw [if_pos (by simp), put_j1 k l1 _ h hl (by simp) ht]
    unfold picL ib
    simp
  · simp only [hm, Bool.false_eq_true, if_false]
    have hm' : (d.hp || d.ht || d.hi || d.hk) = false := by simpa using hm
    simp only [Bool.or_eq_false_iff] at hm'
    obtain ⟨⟨⟨e1, e2⟩, e3⟩, e4⟩ := hm'
    rw [put_j1 k l1 _ h hl (by simp) ht]
    unfold picL ib
    simp [e1, e2, e3, e4]
end
theorem put_f {d : VD} (l1 : List Int) (ht : d.tl < 256) (hl : l1.length ≤ 1000000) : K5.easelref05_Put.f 7 d.n d.st d.part d.hp d.lg d.pic d.ht d.tl d.hi d.ti d.sy d.hk d.ky l1 = some (if rightV d = true then ib (putB d) ++ l1 else [], wE d) := by
  have hr := right_f 6 d
  unfold K5.easelref05_Put.f wE
  rw [hr, Option.bind_some]
  by_cases h : rightV d = true
  · have q := put_j0 0 l1 h hl ht
    rw [if_pos h, if_pos h, if_pos h, ← q]
    cases d.hp <;> cases d.ht <;> cases d.hi <;> simp only [Bool.false_eq_true, if_true, if_false, Bool.or_true, Bool.true_or, Bool.false_or, Bool.or_false]
  · rw [if_neg h, if_neg h, if_neg h]
theorem r5Put_any {w : World} {v : Value} {d : VD} {rs : List Nat} (hok : d.Ok) (hs : Sl w v (bv rs)) (hl : rs.length ≤ 1000000) :
    Calls Try.prog 21 #[.agg (dv d), v] w fun e w' => ∃ v', e = .returned (.tuple #[v', .int .i64 (wE d)]) ∧ w'.ownsRow w.heap.size 5 1 v' (wR d rs).length (bv (wR d rs)) ∧ Kp (fun _ => True) w w' := by
  obtain ⟨A, c, rfl⟩ := hs.form8
  have hC := C_of_sl hs (by omega)
  have hcc : (ib rs).length ≤ c ∨ c < (ib rs).length := Nat.lt_or_ge c (ib rs).length |>.symm
  have e : ib (wR d rs) = if rightV d = true then ib (putB d) ++ ib rs else [] := by
    unfold wR
    split
    · rw [ib_append]
    · rfl
  have hcap : (ib rs).length ≤ c := by
    rw [ib_length]
    rcases Nat.eq_zero_or_pos rs.length with h0 | h0
    · omega
    · exact hs.le_cap (by rw [← List.length_pos_iff, bv_length]; exact h0)
  have hf := put_f (ib rs) hok.2.2.1 (d := d) (by rw [ib_length]; exact hl)
  rw [← e] at hf
  refine (show Calls Try.prog 21 #[.agg (dv d), .slice A rs.length c] w _ from ?_)
  rw [show Value.slice A rs.length c = .slice A (ib rs).length c from by rw [ib_length]]
  refine (K5.easelref05_Put.calls 7 d.n d.st d.part d.hp d.lg d.pic d.ht d.tl d.hi d.ti d.sy d.hk d.ky A c (ib rs) (ib (wR d rs)) (wE d) w hC hcap hf).mono ?_
  rintro e' w' ⟨v', rfl, hR, hB⟩
  exact ⟨v', rfl, own_of_Rb hR, Kp.of_below hB (fun _ _ hl => hl)⟩
end Go.Proofs.Ythgjhdcifdfhoaa.V5
