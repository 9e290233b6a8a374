/- Chapter 03's elements, plain: what bytes hold. No program. -/
import Derived.Test.YtoonnlphfanmhaaDigits
namespace Go.Proofs.Ytoonnlphfanmhaa

def isOne (p : Nat) : Bool := decide (p = 48862)
def isTwo (p : Nat) : Bool := decide (4096 ≤ p ∧ p ≤ 4111)
def isKnown (p : Nat) : Bool := isOne p || isTwo p

/-- The elements from byte i on, behind those that were found; and an error's number. -/
def prs (one : Bool) (bs : List Nat) : Nat → Nat → List (Nat × List Nat) → List (Nat × List Nat) × Nat
  | 0, _, acc => (acc, 0)
  | f + 1, i, acc =>
    if bs.length ≤ i then (acc, 0)
    else if bs.getD i 0 = 0 then prs one bs f (i + 1) acc
    else if one = true then
      if bs.getD i 0 / 16 = 15 then (acc, 0)
      else if bs.getD i 0 / 16 = 0 then ([], 31)
      else if bs.length < i + 1 + (bs.getD i 0 % 16 + 1) then ([], 10)
      else prs one bs f (i + 1 + (bs.getD i 0 % 16 + 1)) (acc ++ [(bs.getD i 0 / 16, (bs.drop (i + 1)).take (bs.getD i 0 % 16 + 1))])
    else if bs.length ≤ i + 1 then ([], 10)
    else if bs.length < i + 2 + bs.getD (i + 1) 0 then ([], 10)
    else prs one bs f (i + 2 + bs.getD (i + 1) 0) (acc ++ [(bs.getD i 0, (bs.drop (i + 2)).take (bs.getD (i + 1) 0))])

/-- What bytes hold by a profile. -/
def extP (p : Nat) (bs : List Nat) : List (Nat × List Nat) × Nat :=
  if isKnown p = false then ([], 30)
  else if bs.length % 4 ≠ 0 then ([], 3)
  else prs (isOne p) bs (bs.length + 1) 0 []

/-- The loop's relation: what is still to be found comes to R. -/
def Still (one : Bool) (bs : List Nat) (R : List (Nat × List Nat) × Nat) (i : Nat) (acc : List (Nat × List Nat)) : Prop :=
  ∃ f, bs.length < i + f ∧ prs one bs f i acc = R
section
variable {one : Bool} {bs : List Nat} {R : List (Nat × List Nat) × Nat} {i : Nat} {acc : List (Nat × List Nat)}
theorem Still.fuel (h : Still one bs R i acc) (hi : i < bs.length) : ∃ f, bs.length < i + (f + 1) ∧ prs one bs (f + 1) i acc = R := by
  obtain ⟨f, h1, h2⟩ := h
  obtain ⟨g, rfl⟩ : ∃ g, f = g + 1 := ⟨f - 1, by omega⟩
  exact ⟨g, h1, h2⟩
theorem Still.end_ (h : Still one bs R i acc) (hi : bs.length ≤ i) : R = (acc, 0) := by
  obtain ⟨f, _, h2⟩ := h
  cases f with
  | zero => exact h2.symm
  | succ f => simp only [prs] at h2; rw [if_pos hi] at h2; exact h2.symm
theorem Still.pad (h : Still one bs R i acc) (hi : i < bs.length) (h0 : bs.getD i 0 = 0) : Still one bs R (i + 1) acc := by
  obtain ⟨f, h1, h2⟩ := h.fuel hi
  simp only [prs] at h2; rw [if_neg (by omega), if_pos h0] at h2
  exact ⟨f, by omega, h2⟩
theorem Still.stop (h : Still true bs R i acc) (hi : i < bs.length) (h0 : bs.getD i 0 ≠ 0) (h15 : bs.getD i 0 / 16 = 15) : R = (acc, 0) := by
  obtain ⟨f, h1, h2⟩ := h.fuel hi
  simp only [prs] at h2; rw [if_neg (by omega), if_neg h0, if_pos trivial, if_pos h15] at h2
  exact h2.symm
theorem Still.bad (h : Still true bs R i acc) (hi : i < bs.length) (h0 : bs.getD i 0 ≠ 0) (h15 : bs.getD i 0 / 16 = 0) : R = ([], 31) := by
  obtain ⟨f, h1, h2⟩ := h.fuel hi
  simp only [prs] at h2; rw [if_neg (by omega), if_neg h0, if_pos trivial, if_neg (by omega), if_pos h15] at h2
  exact h2.symm
theorem Still.short1 (h : Still true bs R i acc) (hi : i < bs.length) (h0 : bs.getD i 0 ≠ 0) (h1 : bs.getD i 0 / 16 ≠ 15) (h2 : bs.getD i 0 / 16 ≠ 0) (h3 : bs.length < i + 1 + (bs.getD i 0 % 16 + 1)) : R = ([], 10) := by
  obtain ⟨f, _, h4⟩ := h.fuel hi
  simp only [prs] at h4; rw [if_neg (by omega), if_neg h0, if_pos trivial, if_neg h1, if_neg h2, if_pos h3] at h4
  exact h4.symm
theorem Still.one_ (h : Still true bs R i acc) (hi : i < bs.length) (h0 : bs.getD i 0 ≠ 0) (h1 : bs.getD i 0 / 16 ≠ 15) (h2 : bs.getD i 0 / 16 ≠ 0) (h3 : ¬ bs.length < i + 1 + (bs.getD i 0 % 16 + 1)) :
    Still true bs R (i + 1 + (bs.getD i 0 % 16 + 1)) (acc ++ [(bs.getD i 0 / 16, (bs.drop (i + 1)).take (bs.getD i 0 % 16 + 1))]) := by
  obtain ⟨f, h5, h4⟩ := h.fuel hi
  simp only [prs] at h4; rw [if_neg (by omega), if_neg h0, if_pos trivial, if_neg h1, if_neg h2, if_neg h3] at h4
  exact ⟨f, by omega, h4⟩
theorem Still.short2 (h : Still false bs R i acc) (hi : i < bs.length) (h0 : bs.getD i 0 ≠ 0) (h1 : bs.length ≤ i + 1 ∨ bs.length < i + 2 + bs.getD (i + 1) 0) : R = ([], 10) := by
  obtain ⟨f, _, h4⟩ := h.fuel hi
  simp only [prs] at h4; rw [if_neg (by omega), if_neg h0, if_neg (by decide)] at h4
  by_cases h2 : bs.length ≤ i + 1
  · rw [if_pos h2] at h4; exact h4.symm
  · rw [if_neg h2, if_pos (by omega)] at h4; exact h4.symm
theorem Still.two_ (h : Still false bs R i acc) (hi : i < bs.length) (h0 : bs.getD i 0 ≠ 0) (h1 : i + 1 < bs.length) (h2 : i + 2 + bs.getD (i + 1) 0 ≤ bs.length) :
    Still false bs R (i + 2 + bs.getD (i + 1) 0) (acc ++ [(bs.getD i 0, (bs.drop (i + 2)).take (bs.getD (i + 1) 0))]) := by
  obtain ⟨f, h5, h4⟩ := h.fuel hi
  simp only [prs] at h4; rw [if_neg (by omega), if_neg h0, if_neg (by decide), if_neg (by omega), if_neg (by omega)] at h4
  exact ⟨f, by omega, h4⟩
end
/-- The rest of a number's last four digits struck off. -/
theorem and_fff0 (p : Nat) (hp : p < 65536) : p &&& 65520 = p / 16 * 16 := by
  apply Nat.eq_of_testBit_eq
  intro i
  rw [Nat.testBit_and]
  have e1 : (65520 : Nat) = (2 ^ 12 - 1) * 2 ^ 4 := by decide
  rw [e1, Nat.testBit_mul_two_pow, show (16 : Nat) = 2 ^ 4 from rfl, Nat.testBit_mul_two_pow, Nat.testBit_div_two_pow, Nat.testBit_two_pow_sub_one]
  by_cases h4 : 4 ≤ i
  · rw [show i - 4 + 4 = i from by omega]
    by_cases h16 : i < 16
    · simp [h4, show i - 4 < 12 from by omega]
    · have : p.testBit i = false := Nat.testBit_lt_two_pow (Nat.lt_of_lt_of_le hp (by simpa using Nat.pow_le_pow_right (n := 2) (by decide) (show 16 ≤ i by omega)))
      simp [this]
  · simp [h4]
theorem isTwo_and (p : Nat) (hp : p < 65536) : (decide (p &&& 65520 = 4096)) = isTwo p := by
  rw [and_fff0 p hp]
  unfold isTwo
  apply decide_eq_decide.2
  omega
end Go.Proofs.Ytoonnlphfanmhaa
