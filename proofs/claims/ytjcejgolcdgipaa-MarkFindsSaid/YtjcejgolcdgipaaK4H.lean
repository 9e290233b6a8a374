/- Chapter 03, plain: what Put, Find and Form answer; no printed reference. -/
import Derived.Test.YtjcejgolcdgipaaK4Q
import Derived.Test.YtjcejgolcdgipaaK4A
namespace Go.Proofs.Ytjcejgolcdgipaa.K4
open Go.RowKit Go.Proofs.YtjcejgolcdgipaaW.PrintWords Go.Proofs.YtjcejgolcdgipaaW.PrintLast Go.Proofs.YtjcejgolcdgipaaW.PrintMore
/-- Lengths that are not too great. -/
def Fair (E : List (Nat × List Nat)) : Prop := E.length ≤ 100000 ∧ ∀ x ∈ E, x.1 < 256 ∧ Bts x.2 ∧ x.2.length ≤ 100000
theorem Fair.at_ {E : List (Nat × List Nat)} (h : Fair E) {i : Nat} (hi : i < E.length) : E[i].1 < 256 ∧ Bts E[i].2 ∧ E[i].2.length ≤ 100000 := h.2 _ (List.getElem_mem hi)
theorem Fair.ok {E : List (Nat × List Nat)} (h : Fair E) : OkEs (E.map toS) := by
  refine ⟨by rw [List.length_map]; exact h.1, fun y hy => ?_⟩
  obtain ⟨x, hx, rfl⟩ := List.mem_map.1 hy
  obtain ⟨h1, h2, h3⟩ := h.2 x hx
  exact ⟨by show (0 : Int) ≤ (x.1 : Int); omega, by show (x.1 : Int) < 256; omega, ib_oks h2, by show (ib x.2).length ≤ _; rw [ib_length]; exact h3⟩
theorem ofS_toS (x : Nat × List Nat) : ofS (toS x) = x := by unfold ofS toS; simp [nb_ib]
theorem map_ofS (E : List (Nat × List Nat)) : (E.map toS).map ofS = E := by
  rw [List.map_map]
  conv => rhs; rw [← List.map_id E]
  exact List.map_congr_left (fun x _ => ofS_toS x)

def mayOf (one : Bool) (x : Nat × List Nat) : Bool := if one = true then mayB 14 1 16 x.1 x.2.length else mayB 255 0 255 x.1 x.2.length
theorem mayOf_ok {one : Bool} {x : Nat × List Nat} (h : mayOf one x = true) (hb : Bts x.2) : OkEl one x := by
  unfold mayOf at h
  cases one
  · exact may_two (by simpa using h) hb
  · exact may_one (by simpa using h) hb
theorem ok_mayOf {one : Bool} {x : Nat × List Nat} (h : OkEl one x) : mayOf one x = true := by
  unfold mayOf
  cases one
  · simpa using two_may h
  · simpa using one_may h

/-- What Put tells, in bytes. -/
def putS (p : Nat) (E : List (Nat × List Nat)) : List Nat × Nat := if isKnown p = true then (if E.all (mayOf (isOne p)) = true then (pad4 (putB (isOne p) E), 0) else ([], 31)) else ([], 30)
theorem all_ok {one : Bool} {E : List (Nat × List Nat)} (hE : ∀ x ∈ E, Bts x.2) (h : E.all (mayOf one) = true) : ∀ x ∈ E, OkEl one x := fun x hx => mayOf_ok (List.all_eq_true.1 h x hx) (hE x hx)
theorem ok_all {one : Bool} {E : List (Nat × List Nat)} (h : ∀ x ∈ E, OkEl one x) : E.all (mayOf one) = true := List.all_eq_true.2 (fun x hx => ok_mayOf (h x hx))
theorem putR_eq {p : Nat} {E : List (Nat × List Nat)} (hE : ∀ x ∈ E, Bts x.2) : putR p E = putS p E := by
  unfold putR putS
  by_cases h1 : isOne p = true
  · have hm : E.all (fun x => mayB 14 1 16 x.1 x.2.length) = E.all (mayOf (isOne p)) := by
      congr 1
      funext x
      unfold mayOf
      rw [if_pos h1]
    have hk : isKnown p = true := by unfold isKnown; rw [h1]; rfl
    rw [if_pos h1, if_pos hk, hm]
    by_cases ha : E.all (mayOf (isOne p)) = true
    · rw [if_pos ha, if_pos ha]
      have hok := all_ok hE ha
      rw [h1] at hok ⊢
      rw [putD_one hok, pack_fill (putB_bts hok)]
    · rw [if_neg ha, if_neg ha]
  · have h1' : isOne p = false := by simpa using h1
    rw [if_neg h1]
    by_cases h2 : isTwo p = true
    · have hm : E.all (fun x => mayB 255 0 255 x.1 x.2.length) = E.all (mayOf (isOne p)) := by
        congr 1
        funext x
        unfold mayOf
        rw [if_neg h1]
      have hk : isKnown p = true := by unfold isKnown; rw [h1', h2]; rfl
      rw [if_pos h2, if_pos hk, hm]
      by_cases ha : E.all (mayOf (isOne p)) = true
      · rw [if_pos ha, if_pos ha]
        have hok := all_ok hE ha
        rw [h1'] at hok ⊢
        rw [putD_two, pack_fill (putB_bts hok)]
      · rw [if_neg ha, if_neg ha]
    · have h2' : isTwo p = false := by simpa using h2
      rw [if_neg h2, if_neg (by unfold isKnown; rw [h1', h2']; decide)]

theorem putB_len {one : Bool} (E : List (Nat × List Nat)) (h : ∀ x ∈ E, x.2.length ≤ 100000) : (putB one E).length ≤ E.length * 100002 := by
  induction E with
  | nil => simp [putB]
  | cons x E ih =>
    have h1 := ih (fun y hy => h y (List.mem_cons_of_mem _ hy))
    have h2 := h x List.mem_cons_self
    have h3 : (hdB one x).length ≤ 2 := by unfold hdB; split <;> simp
    rw [putB_cons, List.length_append, List.length_append, List.length_cons, Nat.succ_mul]
    omega
theorem ib_append (a b : List Nat) : ib (a ++ b) = ib a ++ ib b := by simp [ib]
def formS (a b : Bool) : Int × Bool := if a = true then (48862, true) else if b = true then (4096, true) else (0, false)
theorem formOf_eq (E : List (Nat × List Nat)) : (((formOf E).1 : Int), (formOf E).2) = formS (E.all (mayOf true)) (E.all (mayOf false)) := by
  have h1 : E.all (mayOf true) = !notAll 14 1 16 E := by
    unfold notAll
    rw [Bool.not_not]
    rfl
  have h2 : E.all (mayOf false) = !notAll 255 0 255 E := by
    unfold notAll
    rw [Bool.not_not]
    rfl
  rw [h1, h2]
  unfold formOf formS
  cases notAll 14 1 16 E <;> cases notAll 255 0 255 E <;> rfl
theorem fair_bts {E : List (Nat × List Nat)} (h : Fair E) : ∀ x ∈ E, Bts x.2 := fun x hx => (h.2 x hx).2.1
theorem put_f (p : Nat) (hp : p < 65536) {E : List (Nat × List Nat)} (hE : Fair E) : ext_Put.f (p : Int) (E.map toS) = some (ib (putS p E).1, ((putS p E).2 : Int)) := by
  unfold ext_Put.f
  rw [if_pos ⟨by omega, by omega, hE.ok⟩, map_ofS, Int.toNat_natCast, putR_eq (fair_bts hE)]
theorem find_f (id : Nat) {E : List (Nat × List Nat)} (hE : Fair E) : ext_Find.f (id : Int) (E.map toS) = some (ib (findR id E).1, (findR id E).2) := by
  unfold ext_Find.f
  rw [if_pos ⟨by omega, hE.ok⟩, map_ofS, Int.toNat_natCast]
theorem form_f {E : List (Nat × List Nat)} (hE : Fair E) : ext_Form.f (E.map toS) = some (formS (E.all (mayOf true)) (E.all (mayOf false))) := by
  unfold ext_Form.f
  rw [if_pos hE.ok, map_ofS, ← formOf_eq]
theorem parse_f (p : Nat) (hp : p < 65536) {bs : List Nat} (hb : Bts bs) (hl : bs.length ≤ 1000000) : ext_Parse.f (p : Int) (ib bs) = some ((extP p bs).1.map toS, ((extP p bs).2 : Int)) := by
  unfold ext_Parse.f
  rw [if_pos ⟨by omega, by omega, ib_oks hb, by rw [ib_length]; exact hl⟩, Int.toNat_natCast, nb_ib]
theorem putS_bts {p : Nat} {E : List (Nat × List Nat)} (hE : Fair E) : Bts (putS p E).1 := by
  unfold putS
  split
  · split
    · rename_i ha
      exact pad4_bts (putB_bts (all_ok (fair_bts hE) ha))
    · exact Bts.nil
  · exact Bts.nil
/-- Few elements, of few bytes: what Put makes is short. -/
theorem putS_len {p : Nat} {E : List (Nat × List Nat)} (n : Nat) (hx : ∀ x ∈ E, x.2.length ≤ n) : (putS p E).1.length ≤ E.length * (n + 2) + 4 := by
  have hB : ∀ (one : Bool) (E : List (Nat × List Nat)), (∀ x ∈ E, x.2.length ≤ n) → (putB one E).length ≤ E.length * (n + 2) := by
    intro one E
    induction E with
    | nil => intro _; simp [putB]
    | cons x E ih =>
      intro h
      have h1 := ih (fun y hy => h y (List.mem_cons_of_mem _ hy))
      have h2 := h x List.mem_cons_self
      have h3 : (hdB one x).length ≤ 2 := by unfold hdB; split <;> simp
      rw [putB_cons, List.length_append, List.length_append, List.length_cons, Nat.succ_mul]
      omega
  unfold putS
  split
  · split
    · have := hB (isOne p) E hx
      unfold pad4
      rw [List.length_append, List.length_replicate]
      omega
    · simp
  · simp
theorem findR_len {id : Nat} {E : List (Nat × List Nat)} (hE : Fair E) : (findR id E).1.length ≤ 100000 := by
  unfold findR
  cases h : E.find? (fun x => x.1 == id) with
  | none => simp
  | some p => exact (hE.2 p (List.mem_of_find?_eq_some h)).2.2

theorem putS_back {p : Nat} {E : List (Nat × List Nat)} (hE : Fair E) (h : (putS p E).2 = 0) : extP p (putS p E).1 = (E, 0) ∧ (putS p E).1.length % 4 = 0 := by
  unfold putS at h ⊢
  split at h
  · rename_i hk
    split at h
    · rename_i ha
      rw [if_pos hk, if_pos ha]
      exact ⟨extP_put hk (all_ok (fair_bts hE) ha), pad4_mod _⟩
    · simp at h
  · simp at h
theorem putS_of {p : Nat} {E : List (Nat × List Nat)} (hk : isKnown p = true) (ha : E.all (mayOf (isOne p)) = true) : putS p E = (pad4 (putB (isOne p) E), 0) := by
  unfold putS
  rw [if_pos hk, if_pos ha]
theorem okEl_id {one : Bool} {x : Nat × List Nat} (h : OkEl one x) : x.1 < 256 := by
  have := h.2
  cases one
  · simp at this; omega
  · simp at this; omega
end Go.Proofs.Ytjcejgolcdgipaa.K4
