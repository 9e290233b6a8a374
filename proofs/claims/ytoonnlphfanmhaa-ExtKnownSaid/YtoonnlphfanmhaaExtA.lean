/- Package ext and its reference: forms, profiles. -/
import Derived.Test.YtoonnlphfanmhaaElems
namespace Go.Proofs.Ytoonnlphfanmhaa
open Go.RowKit

def form1 : Array Value := #[.int .i64 4, .int .i64 1, .int .i64 14, .int .i64 1, .int .i64 16, .int .u64 15]
def form2 : Array Value := #[.int .i64 8, .int .i64 0, .int .i64 255, .int .i64 0, .int .i64 255, .int .u64 256]
def form0 : Array Value := #[.int .i64 0, .int .i64 0, .int .i64 0, .int .i64 0, .int .i64 0, .int .u64 0]
theorem extForms_any (w : World) : Calls Try.prog 78 #[] w fun e w' => e = .returned (.agg #[.int .i64 4, .int .i64 1, .int .i64 14, .int .i64 1, .int .i64 16, .int .u64 15, .int .i64 8, .int .i64 0, .int .i64 255, .int .i64 0, .int .i64 255, .int .u64 256]) ∧
    w' = w.alloc (.cells #[.int .i64 4, .int .i64 1, .int .i64 14, .int .i64 1, .int .i64 16, .int .u64 15, .int .i64 8, .int .i64 0, .int .i64 255, .int .i64 0, .int .i64 255, .int .u64 256] 123) := by
  go_enter Try.func78, Try.ntmps78
  go_wp2
  exact bodyPost_ret (v := .agg #[.int .i64 4, .int .i64 1, .int .i64 14, .int .i64 1, .int .i64 16, .int .u64 15, .int .i64 8, .int .i64 0, .int .i64 255, .int .i64 0, .int .i64 255, .int .u64 256]) (by simp [results, Try.results78, go_sem]) rfl ⟨rfl, rfl⟩
theorem extOf_one (w : World) : Calls Try.prog 75 #[.int .u16 48862] w fun e w' => e = .returned (.tuple #[.agg form1, .bool true]) ∧ Kp (fun _ => True) w w' := by
  go_enter Try.func75, Try.ntmps75
  go_wp2_with (go_at_call 78; refine (extForms_any _).mono ?_; rintro e w1 ⟨rfl, rfl⟩)
  exact bodyPost_ret (v := .tuple #[.agg form1, .bool true]) (by simp [results, Try.results75, go_sem, form1]) rfl ⟨rfl, ((((Kp.refl _ _).alloc _).alloc _).alloc _)⟩
theorem isTwo_bits (p : Nat) (hp : p < 65536) : (bits .andNot .u16 (p : Int) 15 == 4096) = isTwo p := by
  rw [show (15 : Int) = ((15 : Nat) : Int) from rfl, u16_andNot_nat p 15 hp (by decide), ← isTwo_and p hp, Bool.eq_iff_iff, beq_iff_eq, decide_eq_true_iff]
  show ((p &&& 65520 : Nat) : Int) = 4096 ↔ p &&& 65520 = 4096
  omega
theorem extOf_two (p : Nat) (w : World) (hp : p < 65536) (h : isTwo p = true) : Calls Try.prog 75 #[.int .u16 p] w fun e w' => e = .returned (.tuple #[.agg form2, .bool true]) ∧ Kp (fun _ => True) w w' := by
  have h1 : ((p : Int) == 48862) = false := by rw [beq_eq_false_iff_ne]; unfold isTwo at h; simp at h; omega
  have h2 := isTwo_bits p hp
  rw [h] at h2
  clear h
  go_enter Try.func75, Try.ntmps75
  go_wp2_with (go_at_call 78; refine (extForms_any _).mono ?_; rintro e w1 ⟨rfl, rfl⟩)
  exact bodyPost_ret (v := .tuple #[.agg form2, .bool true]) (by simp [results, Try.results75, go_sem, form2]) rfl ⟨rfl, ((((Kp.refl _ _).alloc _).alloc _).alloc _)⟩
theorem extOf_no (p : Nat) (w : World) (hp : p < 65536) (h : isKnown p = false) : Calls Try.prog 75 #[.int .u16 p] w fun e w' => e = .returned (.tuple #[.agg form0, .bool false]) ∧ Kp (fun _ => True) w w' := by
  have h1 : ((p : Int) == 48862) = false := by rw [beq_eq_false_iff_ne]; unfold isKnown isOne at h; simp at h; omega
  have h2 := isTwo_bits p hp
  have h3 : isTwo p = false := by unfold isKnown at h; simp at h; exact h.2
  rw [h3] at h2
  clear h h3
  go_enter Try.func75, Try.ntmps75
  go_wp2_with (go_at_call 78; refine (extForms_any _).mono ?_; rintro e w1 ⟨rfl, rfl⟩)
  exact bodyPost_ret (v := .tuple #[.agg form0, .bool false]) (by simp [results, Try.results75, go_sem, form0]) rfl ⟨rfl, ((((Kp.refl _ _).alloc _).alloc _).alloc _)⟩
def formV (p : Nat) : Array Value := if isOne p = true then form1 else if isTwo p = true then form2 else form0
theorem extOf_any (p : Nat) (w : World) (hp : p < 65536) : Calls Try.prog 75 #[.int .u16 p] w fun e w' => e = .returned (.tuple #[.agg (formV p), .bool (isKnown p)]) ∧ Kp (fun _ => True) w w' := by
  by_cases h1 : isOne p = true
  · have : p = 48862 := by unfold isOne at h1; simpa using h1
    subst this
    exact extOf_one w
  · by_cases h2 : isTwo p = true
    · have hk : isKnown p = true := by unfold isKnown; simp [h2]
      unfold formV
      rw [hk, if_neg h1, if_pos h2]
      exact extOf_two p w hp h2
    · have hk : isKnown p = false := by unfold isKnown; simp [h1, h2]
      unfold formV
      rw [hk, if_neg h1, if_neg h2]
      exact extOf_no p w hp hk
theorem extKnown_any (p : Nat) (w : World) (hp : p < 65536) : Calls Try.prog 40 #[.int .u16 p] w fun e w' => e = .returned (.bool (isKnown p)) ∧ Kp (fun _ => True) w w' := by
  by_cases h1 : isOne p = true
  · have : p = 48862 := by unfold isOne at h1; simpa using h1
    subst this
    go_enter Try.func40, Try.ntmps40
    go_wp2_with (go_at_call 75; refine (extOf_one _).mono ?_; rintro e w1 ⟨rfl, hK⟩; unfold form1)
    go_ret
    exact ⟨rfl, hK.alloc _⟩
  · by_cases h2 : isTwo p = true
    · have hk : isKnown p = true := by unfold isKnown; simp [h2]
      rw [hk]
      have H2 := hd h2
      clear h1 h2 hk
      go_enter Try.func40, Try.ntmps40
      go_wp2_with (go_at_call 75; refine (extOf_two p _ hp H2.out).mono ?_; rintro e w1 ⟨rfl, hK⟩; unfold form2)
      go_ret
      exact ⟨rfl, hK.alloc _⟩
    · have hk : isKnown p = false := by unfold isKnown; simp [h1, h2]
      rw [hk]
      have H2 := hd hk
      clear h1 h2 hk
      go_enter Try.func40, Try.ntmps40
      go_wp2_with (go_at_call 75; refine (extOf_no p _ hp H2.out).mono ?_; rintro e w1 ⟨rfl, hK⟩; unfold form0)
      go_ret
      exact ⟨rfl, hK.alloc _⟩

/-! ### The reference's -/
theorem r3one_any (p : Nat) (w : World) : Calls Try.prog 74 #[.int .u16 p] w fun e w' => e = .returned (.bool (isOne p)) ∧ w' = w := by
  go_enter Try.func74, Try.ntmps74
  go_wp2
  go_ret
  exact ⟨ret_bool (by unfold isOne; rw [Bool.eq_iff_iff, beq_iff_eq, decide_eq_true_iff]; omega), rfl⟩
theorem r3two_any (p : Nat) (w : World) : Calls Try.prog 76 #[.int .u16 p] w fun e w' => e = .returned (.bool (isTwo p)) ∧ w' = w := by
  by_cases h1 : 4096 ≤ p
  · by_cases h2 : p ≤ 4111
    · have HT : Hd (isTwo p = true) := by show isTwo p = true; unfold isTwo; simp; omega
      go_enter Try.func76, Try.ntmps76
      go_wp2
      go_ret
      exact ⟨ret_bool (by rw [HT.out, decide_eq_true_iff]; omega), rfl⟩
    · have HT : Hd (isTwo p = false) := by show isTwo p = false; unfold isTwo; simp; omega
      have h3 : decide ((p : Int) ≤ 4111) = false := decide_eq_false (by omega)
      go_enter Try.func76, Try.ntmps76
      go_wp2
      go_ret
      exact ⟨ret_bool HT.out.symm, rfl⟩
  · have HT : Hd (isTwo p = false) := by show isTwo p = false; unfold isTwo; simp; omega
    have h3 : decide ((4096 : Int) ≤ (p : Int)) = false := decide_eq_false (by omega)
    go_enter Try.func76, Try.ntmps76
    go_wp2
    go_ret
    exact ⟨ret_bool HT.out.symm, rfl⟩
theorem r3Known_any (p : Nat) (w : World) : Calls Try.prog 41 #[.int .u16 p] w fun e w' => e = .returned (.bool (isKnown p)) ∧ w' = w := by
  unfold isKnown
  cases h1 : isOne p
  · have c := r3one_any p
    rw [h1] at c
    have C := hd c
    clear c h1
    go_enter Try.func41, Try.ntmps41
    go_wp2_with (first | (go_at_call 74; refine (C.out _).mono ?_; rintro e w' ⟨rfl, rfl⟩) | (go_at_call 76; refine (r3two_any p _).mono ?_; rintro e w' ⟨rfl, rfl⟩))
    go_ret
    exact ⟨rfl, rfl⟩
  · have c := r3one_any p
    rw [h1] at c
    have C := hd c
    clear c h1
    go_enter Try.func41, Try.ntmps41
    go_wp2_with (first | (go_at_call 74; refine (C.out _).mono ?_; rintro e w' ⟨rfl, rfl⟩) | (go_at_call 76; refine (r3two_any p _).mono ?_; rintro e w' ⟨rfl, rfl⟩))
    go_ret
    exact ⟨rfl, rfl⟩
end Go.Proofs.Ytoonnlphfanmhaa
