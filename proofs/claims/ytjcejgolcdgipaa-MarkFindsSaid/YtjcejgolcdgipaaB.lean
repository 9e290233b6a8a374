/- Several texts of this session, one behind the other. -/
import Derived.Test.YtjcejgolcdgipaaA
import Derived.Laws.EntriesVeiled
import Derived.WalkMore
import Derived.Deep.LoopGhost

/- Chapter 03's elements, plain: what bytes hold. No program. -/
namespace Go.Proofs.Ytjcejgolcdgipaa

def isOne (p : Nat) : Bool := decide (p = 48862)
def isTwo (p : Nat) : Bool := decide (4096 ≤ p ∧ p ≤ 4111)
def isKnown (p : Nat) : Bool := isOne p || isTwo p

/-- The elements from byte i on, behind those that were found; and an error's number. -/
def prs (one : Bool) (bs : List Nat) : Nat → Nat → List (Nat × List Nat) → List (Nat × List Nat) × Nat
  | 0, _, acc => (acc, 0)
  | f + 1, i, acc =>
    if bs.length ≤ i then (acc, 0)
    else if bs.getD i 0 = 0 then prs one bs f (i + 1) acc
    else if one = true then
      if bs.getD i 0 / 16 = 15 then (acc, 0)
      else if bs.getD i 0 / 16 = 0 then ([], 31)
      else if bs.length < i + 1 + (bs.getD i 0 % 16 + 1) then ([], 10)
      else prs one bs f (i + 1 + (bs.getD i 0 % 16 + 1)) (acc ++ [(bs.getD i 0 / 16, (bs.drop (i + 1)).take (bs.getD i 0 % 16 + 1))])
    else if bs.length ≤ i + 1 then ([], 10)
    else if bs.length < i + 2 + bs.getD (i + 1) 0 then ([], 10)
    else prs one bs f (i + 2 + bs.getD (i + 1) 0) (acc ++ [(bs.getD i 0, (bs.drop (i + 2)).take (bs.getD (i + 1) 0))])

/-- What bytes hold by a profile. -/
def extP (p : Nat) (bs : List Nat) : List (Nat × List Nat) × Nat :=
  if isKnown p = false then ([], 30)
  else if bs.length % 4 ≠ 0 then ([], 3)
  else prs (isOne p) bs (bs.length + 1) 0 []

/-- The loop's relation: what is still to be found comes to R. -/
def Still (one : Bool) (bs : List Nat) (R : List (Nat × List Nat) × Nat) (i : Nat) (acc : List (Nat × List Nat)) : Prop :=
  ∃ f, bs.length < i + f ∧ prs one bs f i acc = R
section
variable {one : Bool} {bs : List Nat} {R : List (Nat × List Nat) × Nat} {i : Nat} {acc : List (Nat × List Nat)}
theorem Still.fuel (h : Still one bs R i acc) (hi : i < bs.length) : ∃ f, bs.length < i + (f + 1) ∧ prs one bs (f + 1) i acc = R := by
  obtain ⟨f, h1, h2⟩ := h
  obtain ⟨g, rfl⟩ : ∃ g, f = g + 1 := ⟨f - 1, by omega⟩
  exact ⟨g, h1, h2⟩
theorem Still.end_ (h : Still one bs R i acc) (hi : bs.length ≤ i) : R = (acc, 0) := by
  obtain ⟨f, _, h2⟩ := h
  cases f with
  | zero => exact h2.symm
  | succ f => simp only [prs] at h2; rw [if_pos hi] at h2; exact h2.symm
theorem Still.pad (h : Still one bs R i acc) (hi : i < bs.length) (h0 : bs.getD i 0 = 0) : Still one bs R (i + 1) acc := by
  obtain ⟨f, h1, h2⟩ := h.fuel hi
  simp only [prs] at h2; rw [if_neg (by omega), if_pos h0] at h2
  exact ⟨f, by omega, h2⟩
theorem Still.stop (h : Still true bs R i acc) (hi : i < bs.length) (h0 : bs.getD i 0 ≠ 0) (h15 : bs.getD i 0 / 16 = 15) : R = (acc, 0) := by
  obtain ⟨f, h1, h2⟩ := h.fuel hi
  simp only [prs] at h2; rw [if_neg (by omega), if_neg h0, if_pos trivial, if_pos h15] at h2
  exact h2.symm
theorem Still.bad (h : Still true bs R i acc) (hi : i < bs.length) (h0 : bs.getD i 0 ≠ 0) (h15 : bs.getD i 0 / 16 = 0) : R = ([], 31) := by
  obtain ⟨f, h1, h2⟩ := h.fuel hi
  simp only [prs] at h2; rw [if_neg (by omega), if_neg h0, if_pos trivial, if_neg (by omega), if_pos h15] at h2
  exact h2.symm
theorem Still.short1 (h : Still true bs R i acc) (hi : i < bs.length) (h0 : bs.getD i 0 ≠ 0) (h1 : bs.getD i 0 / 16 ≠ 15) (h2 : bs.getD i 0 / 16 ≠ 0) (h3 : bs.length < i + 1 + (bs.getD i 0 % 16 + 1)) : R = ([], 10) := by
  obtain ⟨f, _, h4⟩ := h.fuel hi
  simp only [prs] at h4; rw [if_neg (by omega), if_neg h0, if_pos trivial, if_neg h1, if_neg h2, if_pos h3] at h4
  exact h4.symm
theorem Still.one_ (h : Still true bs R i acc) (hi : i < bs.length) (h0 : bs.getD i 0 ≠ 0) (h1 : bs.getD i 0 / 16 ≠ 15) (h2 : bs.getD i 0 / 16 ≠ 0) (h3 : ¬ bs.length < i + 1 + (bs.getD i 0 % 16 + 1)) :
    Still true bs R (i + 1 + (bs.getD i 0 % 16 + 1)) (acc ++ [(bs.getD i 0 / 16, (bs.drop (i + 1)).take (bs.getD i 0 % 16 + 1))]) := by
  obtain ⟨f, h5, h4⟩ := h.fuel hi
  simp only [prs] at h4; rw [if_neg (by omega), if_neg h0, if_pos trivial, if_neg h1, if_neg h2, if_neg h3] at h4
  exact ⟨f, by omega, h4⟩
theorem Still.short2 (h : Still false bs R i acc) (hi : i < bs.length) (h0 : bs.getD i 0 ≠ 0) (h1 : bs.length ≤ i + 1 ∨ bs.length < i + 2 + bs.getD (i + 1) 0) : R = ([], 10) := by
  obtain ⟨f, _, h4⟩ := h.fuel hi
  simp only [prs] at h4; rw [if_neg (by omega), if_neg h0, if_neg (by decide)] at h4
  by_cases h2 : bs.length ≤ i + 1
  · rw [if_pos h2] at h4; exact h4.symm
  · rw [if_neg h2, if_pos (by omega)] at h4; exact h4.symm
theorem Still.two_ (h : Still false bs R i acc) (hi : i < bs.length) (h0 : bs.getD i 0 ≠ 0) (h1 : i + 1 < bs.length) (h2 : i + 2 + bs.getD (i + 1) 0 ≤ bs.length) :
    Still false bs R (i + 2 + bs.getD (i + 1) 0) (acc ++ [(bs.getD i 0, (bs.drop (i + 2)).take (bs.getD (i + 1) 0))]) := by
  obtain ⟨f, h5, h4⟩ := h.fuel hi
  simp only [prs] at h4; rw [if_neg (by omega), if_neg h0, if_neg (by decide), if_neg (by omega), if_neg (by omega)] at h4
  exact ⟨f, by omega, h4⟩
end
/-- The rest of a number's last four digits struck off. -/
theorem and_fff0 (p : Nat) (hp : p < 65536) : p &&& 65520 = p / 16 * 16 := by
  apply Nat.eq_of_testBit_eq
  intro i
  rw [Nat.testBit_and]
  have e1 : (65520 : Nat) = (2 ^ 12 - 1) * 2 ^ 4 := by decide
  rw [e1, Nat.testBit_mul_two_pow, show (16 : Nat) = 2 ^ 4 from rfl, Nat.testBit_mul_two_pow, Nat.testBit_div_two_pow, Nat.testBit_two_pow_sub_one]
  by_cases h4 : 4 ≤ i
  · rw [show i - 4 + 4 = i from by omega]
    by_cases h16 : i < 16
    · simp [h4, show i - 4 < 12 from by omega]
    · have : p.testBit i = false := Nat.testBit_lt_two_pow (Nat.lt_of_lt_of_le hp (by simpa using Nat.pow_le_pow_right (n := 2) (by decide) (show 16 ≤ i by omega)))
      simp [this]
  · simp [h4]
theorem isTwo_and (p : Nat) (hp : p < 65536) : (decide (p &&& 65520 = 4096)) = isTwo p := by
  rw [and_fff0 p hp]
  unfold isTwo
  apply decide_eq_decide.2
  omega
end Go.Proofs.Ytjcejgolcdgipaa

/- Slices whose elements are several cells; rows of elements (an id, bytes). -/
namespace Go.Proofs.Ytjcejgolcdgipaa
open Go.RowKit

/-- A slice of n elements of k cells each reads as the cells xs. -/
def SlN (w : World) (k : Nat) (v : Value) (n : Nat) (xs : List Value) : Prop :=
  xs.length = n * k ∧ ((n = 0 ∧ ∃ A cap, v = .slice A 0 cap) ∨
    (n ≠ 0 ∧ ∃ g off cap, v = .slice (some ⟨g, off, none⟩) n cap ∧ n ≤ cap ∧ g < w.heap.size ∧ ∀ j u, xs[j]? = some u → w.cell? ⟨g, off + j, none⟩ = some u))
section
variable {w w' : World} {k n : Nat} {v : Value} {xs : List Value} {F : Nat → Prop}
theorem SlN.keep (h : SlN w k v n xs) (hs : w.heap.size ≤ w'.heap.size) (hk : n ≠ 0 → ∀ p : Addr, some p.block = v.ownBlock → p.block < w.heap.size → w'.cell? p = w.cell? p) : SlN w' k v n xs := by
  obtain ⟨hl, h⟩ := h
  refine ⟨hl, ?_⟩
  rcases h with h | ⟨hne, g, off, cap, rfl, hn, hg, hc⟩
  · exact .inl h
  · exact .inr ⟨hne, g, off, cap, rfl, hn, by omega, fun j u hu => (hk hne ⟨g, off + j, none⟩ rfl hg).trans (hc j u hu)⟩
theorem SlN.kp (h : SlN w k v n xs) (hk : Kp F w w') (hF : n ≠ 0 → ∀ g, v.ownBlock = some g → g < w.heap.size → F g) : SlN w' k v n xs :=
  h.keep hk.size fun hne _ hp hl => hk.cell (hF hne _ hp.symm hl) hl
theorem SlN.low (h : SlN w k v n xs) (hk : Kp (· < w.heap.size) w w') : SlN w' k v n xs := h.kp hk fun _ _ _ hl => hl
theorem SlN.all (h : SlN w k v n xs) (hk : Kp (fun _ => True) w w') : SlN w' k v n xs := h.kp hk fun _ _ _ _ => trivial
theorem SlN.drewN (h : SlN w k v n xs) (m : Nat) : SlN (w.drewN m) k v n xs := h
theorem SlN.alloc (h : SlN w k v n xs) (o : Obj) : SlN (w.alloc o) k v n xs := h.keep (by simp) fun _ _ _ hl => World.cell?_alloc_lt w o _ hl
theorem SlN.form (h : SlN w k v n xs) : ∃ A cap, v = .slice A n cap := by
  rcases h.2 with ⟨rfl, A, cap, rfl⟩ | ⟨_, g, off, cap, rfl, _⟩
  · exact ⟨A, cap, rfl⟩
  · exact ⟨_, cap, rfl⟩
theorem SlN.at_ {A : Option Addr} {cap j : Nat} {u : Value} (h : SlN w k (.slice A n cap) n xs) (hu : xs[j]? = some u) : ∃ g off, A = some ⟨g, off, none⟩ ∧ g < w.heap.size ∧ w.cell? ⟨g, off + j, none⟩ = some u := by
  obtain ⟨hl, h⟩ := h
  rcases h with ⟨h0, _⟩ | ⟨_, g, off, c, he, _, hg, hc⟩
  · subst h0
    have : xs = [] := List.eq_nil_of_length_eq_zero (by simpa using hl)
    subst this; simp at hu
  · injection he with he
    exact ⟨g, off, he, hg, hc j u hu⟩
theorem SlN.of_own {base : Nat} {e : TypeId} (h : w.ownsRow base e k v n xs) : SlN w k v n xs := by
  obtain ⟨hl, h2⟩ := h
  refine ⟨hl, ?_⟩
  rcases h2 with ⟨rfl, rfl⟩ | ⟨g, cap, cur, rfl, hb, hg, hn, hm, hcs, ht⟩
  · exact .inl ⟨rfl, _, _, rfl⟩
  · by_cases hne : n = 0
    · subst hne
      exact .inl ⟨rfl, _, _, rfl⟩
    · refine .inr ⟨hne, g, 0, cap, rfl, hn, lt_of_block hg, fun j u hu => ?_⟩
      rw [cell_of_row w g _ cur e (0, 0) hg, Nat.zero_add]
      rw [← ht, List.getElem?_take] at hu
      split at hu
      · simpa using hu
      · cases hu
end

/-- A row of cells out of rows of k. -/
theorem flat_get {α : Type} (f : α → List Value) (k : Nat) (hf : ∀ x, (f x).length = k) (L : List α) (i j : Nat) (hj : j < k) (x : α) (hx : L[i]? = some x) : (L.flatMap f)[i * k + j]? = (f x)[j]? := by
  induction L generalizing i with
  | nil => simp at hx
  | cons a L ih =>
    rw [List.flatMap_cons]
    cases i with
    | zero =>
      simp only [List.getElem?_cons_zero, Option.some.injEq] at hx
      subst hx
      rw [Nat.zero_mul, Nat.zero_add, List.getElem?_append_left (by rw [hf]; exact hj)]
    | succ i =>
      rw [List.getElem?_cons_succ] at hx
      rw [List.getElem?_append_right (by rw [hf, Nat.succ_mul]; omega), hf, show (i + 1) * k + j - k = i * k + j from by rw [Nat.succ_mul]; omega]
      exact ih i hx
theorem flat_length {α : Type} (f : α → List Value) (k : Nat) (hf : ∀ x, (f x).length = k) (L : List α) : (L.flatMap f).length = L.length * k := by
  induction L with
  | nil => simp
  | cons a L ih => rw [List.flatMap_cons, List.length_append, hf, ih, List.length_cons, Nat.succ_mul]; omega

/-- An element's cells. -/
def el (p : Nat × Value) : List Value := [.int .u8 (p.1 : Int), p.2]
def els (L : List (Nat × Value)) : List Value := L.flatMap el
theorem els_length (L : List (Nat × Value)) : (els L).length = L.length * 2 := flat_length el 2 (fun _ => rfl) L
theorem els_id (L : List (Nat × Value)) (i : Nat) (h : i < L.length) : (els L)[i * 2]? = some (.int .u8 (L[i].1 : Int)) :=
  flat_get el 2 (fun _ => rfl) L i 0 (by decide) L[i] (List.getElem?_eq_getElem h)
theorem els_data (L : List (Nat × Value)) (i : Nat) (h : i < L.length) : (els L)[i * 2 + 1]? = some L[i].2 :=
  flat_get el 2 (fun _ => rfl) L i 1 (by decide) L[i] (List.getElem?_eq_getElem h)
theorem els_snoc (L : List (Nat × Value)) (p : Nat × Value) : els (L ++ [p]) = els L ++ el p := by simp [els]

theorem own_mono {w : World} {b b' : Nat} {e : TypeId} {k n : Nat} {v : Value} {xs : List Value} (h : w.ownsRow b e k v n xs) (hb : b' ≤ b) : w.ownsRow b' e k v n xs := by
  refine ⟨h.1, ?_⟩
  rcases h.2 with h0 | ⟨g, cap, cur, h1, h2, h3⟩
  · exact .inl h0
  · exact .inr ⟨g, cap, cur, h1, Nat.le_trans hb h2, h3⟩

theorem own_capmax {w : World} {b : Nat} {e : TypeId} {k n : Nat} {v : Value} {xs : List Value} (h : w.ownsRow b e k v n xs) : ∀ A m cap, v = .slice A m cap → cap ≤ maxLen := by
  rintro A m cap rfl
  rcases h.2 with ⟨he, _⟩ | ⟨g, c, cur, he, _, _, _, hm, _⟩
  · injection he with _ _ h3; subst h3; unfold maxLen; omega
  · injection he with _ _ h3; subst h3; exact hm

/-- Elements (of type e) that the call itself made: each one's bytes in a row of its own. -/
def ElsW (base : Nat) (e : TypeId) (w : World) (v : Value) (E : List (Nat × List Nat)) : Prop :=
  ∃ L : List (Nat × Value), w.ownsRow base e 2 v E.length (els L) ∧ L.length = E.length ∧
    ∀ i (h : i < E.length) (h' : i < L.length), L[i].1 = E[i].1 ∧ E[i].1 < 256 ∧ Bts E[i].2 ∧ w.ownsRow base 5 1 L[i].2 E[i].2.length (bv E[i].2)
theorem ElsW.nil (base : Nat) (e : TypeId) (w : World) : ElsW base e w (.slice none 0 0) [] := ⟨[], World.ownsRow_nil _ _ _ _, rfl, fun i h _ => absurd h (by simp)⟩
theorem ElsW.kp {base : Nat} {e : TypeId} {w w' : World} {v : Value} {E : List (Nat × List Nat)} {F : Nat → Prop} (h : ElsW base e w v E) (hk : Kp F w w') (hF : ∀ g, base ≤ g → F g) : ElsW base e w' v E := by
  obtain ⟨L, ho, hl, hi⟩ := h
  refine ⟨L, own_kp ho hk (fun g hg _ => hF g hg), hl, fun i h h' => ?_⟩
  obtain ⟨h1, h2, h3, h4⟩ := hi i h h'
  exact ⟨h1, h2, h3, own_kp h4 hk (fun g hg _ => hF g hg)⟩
theorem ElsW.drewN {base : Nat} {e : TypeId} {w : World} {v : Value} {E : List (Nat × List Nat)} (h : ElsW base e w v E) (n : Nat) : ElsW base e (w.drewN n) v E := h

/-- No two of them lead to one block. -/
def Dj (L : List (Nat × Value)) : Prop := ∀ i j (hi : i < L.length) (hj : j < L.length) k, i ≠ j → L[i].2.ownBlock = some k → L[j].2.ownBlock ≠ some k
/-- The same, each one's bytes apart. -/
def ElsS (base : Nat) (e : TypeId) (w : World) (v : Value) (E : List (Nat × List Nat)) : Prop :=
  ∃ L : List (Nat × Value), w.ownsRow base e 2 v E.length (els L) ∧ L.length = E.length ∧
    (∀ i (h : i < E.length) (h' : i < L.length), L[i].1 = E[i].1 ∧ E[i].1 < 256 ∧ Bts E[i].2 ∧ w.ownsRow base 5 1 L[i].2 E[i].2.length (bv E[i].2)) ∧ Dj L
theorem ElsS.w {base : Nat} {e : TypeId} {w : World} {v : Value} {E : List (Nat × List Nat)} (h : ElsS base e w v E) : ElsW base e w v E := by
  obtain ⟨L, h1, h2, h3, _⟩ := h
  exact ⟨L, h1, h2, h3⟩
theorem ElsS.nil (base : Nat) (e : TypeId) (w : World) : ElsS base e w (.slice none 0 0) [] := ⟨[], World.ownsRow_nil _ _ _ _, rfl, fun i h _ => absurd h (by simp), fun i _ hi => absurd hi (by simp)⟩
theorem ElsS.kp {base : Nat} {e : TypeId} {w w' : World} {v : Value} {E : List (Nat × List Nat)} {F : Nat → Prop} (h : ElsS base e w v E) (hk : Kp F w w') (hF : ∀ g, base ≤ g → F g) : ElsS base e w' v E := by
  obtain ⟨L, ho, hl, hi, hd⟩ := h
  refine ⟨L, own_kp ho hk (fun g hg _ => hF g hg), hl, fun i h h' => ?_, hd⟩
  obtain ⟨h1, h2, h3, h4⟩ := hi i h h'
  exact ⟨h1, h2, h3, own_kp h4 hk (fun g hg _ => hF g hg)⟩
theorem ElsS.drewN {base : Nat} {e : TypeId} {w : World} {v : Value} {E : List (Nat × List Nat)} (h : ElsS base e w v E) (n : Nat) : ElsS base e (w.drewN n) v E := h
theorem ElsS.mono {B B' : Nat} {e : TypeId} {w : World} {v : Value} {E : List (Nat × List Nat)} (h : ElsS B e w v E) (hb : B' ≤ B) : ElsS B' e w v E := by
  obtain ⟨L, ho, hl, hi, hd⟩ := h
  refine ⟨L, own_mono ho hb, hl, fun i h h' => ?_, hd⟩
  obtain ⟨h1, h2, h3, h4⟩ := hi i h h'
  exact ⟨h1, h2, h3, own_mono h4 hb⟩
/-- What lay there before: older than what is made now. -/
theorem ElsS.fresh {base : Nat} {e : TypeId} {w w' : World} {v : Value} {E : List (Nat × List Nat)} {F : Nat → Prop} (h : ElsS base e w v E) (hk : Kp F w w') (hF : ∀ g, base ≤ g → F g) :
    ∃ L : List (Nat × Value), w'.ownsRow base e 2 v E.length (els L) ∧ L.length = E.length ∧
      Hd ((∀ i (h : i < E.length) (h' : i < L.length), L[i].1 = E[i].1 ∧ E[i].1 < 256 ∧ Bts E[i].2 ∧ w'.ownsRow base 5 1 L[i].2 E[i].2.length (bv E[i].2)) ∧ Dj L ∧ ∀ i (h : i < L.length) k, L[i].2.ownBlock = some k → k < w.heap.size) := by
  obtain ⟨L, ho, hl, hi, hd⟩ := h
  refine ⟨L, own_kp ho hk (fun g hg _ => hF g hg), hl, fun i h h' => ?_, hd, fun i h k hk => ?_⟩
  · obtain ⟨h1, h2, h3, h4⟩ := hi i h h'
    exact ⟨h1, h2, h3, own_kp h4 hk (fun g hg _ => hF g hg)⟩
  · exact ((hi i (by omega) h).2.2.2.lt k hk).2

/-- Elements that are there to be read. -/
def Els (w : World) (v : Value) (E : List (Nat × List Nat)) : Prop :=
  ∃ L : List (Nat × Value), SlN w 2 v E.length (els L) ∧ L.length = E.length ∧
    ∀ i (h : i < E.length) (h' : i < L.length), L[i].1 = E[i].1 ∧ E[i].1 < 256 ∧ Bts E[i].2 ∧ Sl w L[i].2 (bv E[i].2)
theorem ElsW.els {base : Nat} {e : TypeId} {w : World} {v : Value} {E : List (Nat × List Nat)} (h : ElsW base e w v E) : Els w v E := by
  obtain ⟨L, ho, hl, hi⟩ := h
  refine ⟨L, SlN.of_own ho, hl, fun i h h' => ?_⟩
  obtain ⟨h1, h2, h3, h4⟩ := hi i h h'
  exact ⟨h1, h2, h3, Sl.of_own h4⟩
theorem Els.low {w w' : World} {v : Value} {E : List (Nat × List Nat)} (h : Els w v E) (hk : Kp (· < w.heap.size) w w') : Els w' v E := by
  obtain ⟨L, ho, hl, hi⟩ := h
  refine ⟨L, ho.low hk, hl, fun i h h' => ?_⟩
  obtain ⟨h1, h2, h3, h4⟩ := hi i h h'
  exact ⟨h1, h2, h3, h4.low hk⟩
theorem Els.all {w w' : World} {v : Value} {E : List (Nat × List Nat)} (h : Els w v E) (hk : Kp (fun _ => True) w w') : Els w' v E := h.low (hk.mono fun _ _ _ => trivial)
theorem Els.form {w : World} {v : Value} {E : List (Nat × List Nat)} (h : Els w v E) : ∃ A cap, v = .slice A E.length cap := by
  obtain ⟨L, ho, _⟩ := h
  exact ho.form
/-- One of them. -/
theorem Els.at_ {w : World} {A : Option Addr} {cap : Nat} {E : List (Nat × List Nat)} (h : Els w (.slice A E.length cap) E) (i : Nat) (hi : i < E.length) :
    ∃ g off B c, A = some ⟨g, off, none⟩ ∧ g < w.heap.size ∧ w.cell? ⟨g, off + i * 2, none⟩ = some (.int .u8 (E[i].1 : Int)) ∧ w.cell? ⟨g, off + i * 2 + 1, none⟩ = some (.slice B E[i].2.length c) ∧ Sl w (.slice B E[i].2.length c) (bv E[i].2) ∧ Bts E[i].2 ∧ E[i].1 < 256 := by
  obtain ⟨L, ho, hl, hx⟩ := h
  obtain ⟨h1, h2, h3, h4⟩ := hx i hi (by omega)
  obtain ⟨g, off, rfl, hg, hc⟩ := ho.at_ (els_id L i (by omega))
  obtain ⟨g', off', he, _, hc'⟩ := ho.at_ (els_data L i (by omega))
  simp only [Option.some.injEq, Addr.mk.injEq, and_true] at he
  obtain ⟨rfl, rfl⟩ := he
  obtain ⟨B, c, hB⟩ := h4.form8
  rw [hB] at hc' h4
  rw [h1] at hc
  exact ⟨g, off, B, c, rfl, hg, hc, by rw [Nat.add_assoc]; exact hc', h4, h3, h2⟩
end Go.Proofs.Ytjcejgolcdgipaa

/- Package ext and its reference: forms, profiles. -/
namespace Go.Proofs.Ytjcejgolcdgipaa
open Go.RowKit

def form1 : Array Value := #[.int .i64 4, .int .i64 1, .int .i64 14, .int .i64 1, .int .i64 16, .int .u64 15]
def form2 : Array Value := #[.int .i64 8, .int .i64 0, .int .i64 255, .int .i64 0, .int .i64 255, .int .u64 256]
def form0 : Array Value := #[.int .i64 0, .int .i64 0, .int .i64 0, .int .i64 0, .int .i64 0, .int .u64 0]
theorem extForms_any (w : World) : Calls Try.prog 122 #[] w fun e w' => e = .returned (.agg #[.int .i64 4, .int .i64 1, .int .i64 14, .int .i64 1, .int .i64 16, .int .u64 15, .int .i64 8, .int .i64 0, .int .i64 255, .int .i64 0, .int .i64 255, .int .u64 256]) ∧
    w' = w.alloc (.cells #[.int .i64 4, .int .i64 1, .int .i64 14, .int .i64 1, .int .i64 16, .int .u64 15, .int .i64 8, .int .i64 0, .int .i64 255, .int .i64 0, .int .i64 255, .int .u64 256] 188) := by
  go_enter Try.func122, Try.ntmps122
  go_wp2
  exact bodyPost_ret (v := .agg #[.int .i64 4, .int .i64 1, .int .i64 14, .int .i64 1, .int .i64 16, .int .u64 15, .int .i64 8, .int .i64 0, .int .i64 255, .int .i64 0, .int .i64 255, .int .u64 256]) (by simp [results, Try.results122, go_sem]) rfl ⟨rfl, rfl⟩
theorem extOf_one (w : World) : Calls Try.prog 115 #[.int .u16 48862] w fun e w' => e = .returned (.tuple #[.agg form1, .bool true]) ∧ Kp (fun _ => True) w w' := by
  go_enter Try.func115, Try.ntmps115
  go_wp2_with (go_at_call 122; refine (extForms_any _).mono ?_; rintro e w1 ⟨rfl, rfl⟩)
  exact bodyPost_ret (v := .tuple #[.agg form1, .bool true]) (by simp [results, Try.results115, go_sem, form1]) rfl ⟨rfl, ((((Kp.refl _ _).alloc _).alloc _).alloc _)⟩
theorem isTwo_bits (p : Nat) (hp : p < 65536) : (bits .andNot .u16 (p : Int) 15 == 4096) = isTwo p := by
  rw [show (15 : Int) = ((15 : Nat) : Int) from rfl, u16_andNot_nat p 15 hp (by decide), ← isTwo_and p hp, Bool.eq_iff_iff, beq_iff_eq, decide_eq_true_iff]
  show ((p &&& 65520 : Nat) : Int) = 4096 ↔ p &&& 65520 = 4096
  omega
theorem extOf_two (p : Nat) (w : World) (hp : p < 65536) (h : isTwo p = true) : Calls Try.prog 115 #[.int .u16 p] w fun e w' => e = .returned (.tuple #[.agg form2, .bool true]) ∧ Kp (fun _ => True) w w' := by
  have h1 : ((p : Int) == 48862) = false := by rw [beq_eq_false_iff_ne]; unfold isTwo at h; simp at h; omega
  have h2 := isTwo_bits p hp
  rw [h] at h2
  clear h
  go_enter Try.func115, Try.ntmps115
  go_wp2_with (go_at_call 122; refine (extForms_any _).mono ?_; rintro e w1 ⟨rfl, rfl⟩)
  exact bodyPost_ret (v := .tuple #[.agg form2, .bool true]) (by simp [results, Try.results115, go_sem, form2]) rfl ⟨rfl, ((((Kp.refl _ _).alloc _).alloc _).alloc _)⟩
theorem extOf_no (p : Nat) (w : World) (hp : p < 65536) (h : isKnown p = false) : Calls Try.prog 115 #[.int .u16 p] w fun e w' => e = .returned (.tuple #[.agg form0, .bool false]) ∧ Kp (fun _ => True) w w' := by
  have h1 : ((p : Int) == 48862) = false := by rw [beq_eq_false_iff_ne]; unfold isKnown isOne at h; simp at h; omega
  have h2 := isTwo_bits p hp
  have h3 : isTwo p = false := by unfold isKnown at h; simp at h; exact h.2
  rw [h3] at h2
  clear h h3
  go_enter Try.func115, Try.ntmps115
  go_wp2_with (go_at_call 122; refine (extForms_any _).mono ?_; rintro e w1 ⟨rfl, rfl⟩)
  exact bodyPost_ret (v := .tuple #[.agg form0, .bool false]) (by simp [results, Try.results115, go_sem, form0]) rfl ⟨rfl, ((((Kp.refl _ _).alloc _).alloc _).alloc _)⟩
def formV (p : Nat) : Array Value := if isOne p = true then form1 else if isTwo p = true then form2 else form0
theorem extOf_any (p : Nat) (w : World) (hp : p < 65536) : Calls Try.prog 115 #[.int .u16 p] w fun e w' => e = .returned (.tuple #[.agg (formV p), .bool (isKnown p)]) ∧ Kp (fun _ => True) w w' := by
  by_cases h1 : isOne p = true
  · have : p = 48862 := by unfold isOne at h1; simpa using h1
    subst this
    exact extOf_one w
  · by_cases h2 : isTwo p = true
    · have hk : isKnown p = true := by unfold isKnown; simp [h2]
      unfold formV
      rw [hk, if_neg h1, if_pos h2]
      exact extOf_two p w hp h2
    · have hk : isKnown p = false := by unfold isKnown; simp [h1, h2]
      unfold formV
      rw [hk, if_neg h1, if_neg h2]
      exact extOf_no p w hp hk
/-! ### The reference's -/
theorem r3one_any (p : Nat) (w : World) : Calls Try.prog 120 #[.int .u16 p] w fun e w' => e = .returned (.bool (isOne p)) ∧ w' = w := by
  go_enter Try.func120, Try.ntmps120
  go_wp2
  go_ret
  exact ⟨ret_bool (by unfold isOne; rw [Bool.eq_iff_iff, beq_iff_eq, decide_eq_true_iff]; omega), rfl⟩
theorem r3two_any (p : Nat) (w : World) : Calls Try.prog 131 #[.int .u16 p] w fun e w' => e = .returned (.bool (isTwo p)) ∧ w' = w := by
  by_cases h1 : 4096 ≤ p
  · by_cases h2 : p ≤ 4111
    · have HT : Hd (isTwo p = true) := by show isTwo p = true; unfold isTwo; simp; omega
      go_enter Try.func131, Try.ntmps131
      go_wp2
      go_ret
      exact ⟨ret_bool (by rw [HT.out, decide_eq_true_iff]; omega), rfl⟩
    · have HT : Hd (isTwo p = false) := by show isTwo p = false; unfold isTwo; simp; omega
      have h3 : decide ((p : Int) ≤ 4111) = false := decide_eq_false (by omega)
      go_enter Try.func131, Try.ntmps131
      go_wp2
      go_ret
      exact ⟨ret_bool HT.out.symm, rfl⟩
  · have HT : Hd (isTwo p = false) := by show isTwo p = false; unfold isTwo; simp; omega
    have h3 : decide ((4096 : Int) ≤ (p : Int)) = false := decide_eq_false (by omega)
    go_enter Try.func131, Try.ntmps131
    go_wp2
    go_ret
    exact ⟨ret_bool HT.out.symm, rfl⟩
theorem r3Known_any (p : Nat) (w : World) : Calls Try.prog 119 #[.int .u16 p] w fun e w' => e = .returned (.bool (isKnown p)) ∧ w' = w := by
  unfold isKnown
  cases h1 : isOne p
  · have c := r3one_any p
    rw [h1] at c
    have C := hd c
    clear c h1
    go_enter Try.func119, Try.ntmps119
    go_wp2_with (first | (go_at_call 120; refine (C.out _).mono ?_; rintro e w' ⟨rfl, rfl⟩) | (go_at_call 131; refine (r3two_any p _).mono ?_; rintro e w' ⟨rfl, rfl⟩))
    go_ret
    exact ⟨rfl, rfl⟩
  · have c := r3one_any p
    rw [h1] at c
    have C := hd c
    clear c h1
    go_enter Try.func119, Try.ntmps119
    go_wp2_with (first | (go_at_call 120; refine (C.out _).mono ?_; rintro e w' ⟨rfl, rfl⟩) | (go_at_call 131; refine (r3two_any p _).mono ?_; rintro e w' ⟨rfl, rfl⟩))
    go_ret
    exact ⟨rfl, rfl⟩
end Go.Proofs.Ytjcejgolcdgipaa

/- The reference's Parse of chapter 03. -/
namespace Go.Proofs.Ytjcejgolcdgipaa
open Go.RowKit

theorem Try.info_rEl : (Try.prog.info? 164).map (fun i => (i.zero, i.size, i.bytes)) = some (some (.agg #[.int .u8 0, .slice none 0 0]), 2, 32) := by kernel_rfl
theorem Try.info_El : (Try.prog.info? 160).map (fun i => (i.zero, i.size, i.bytes)) = some (some (.agg #[.int .u8 0, .slice none 0 0]), 2, 32) := by kernel_rfl

theorem el_oneCell (n : Nat) (A : Option Addr) (m c : Nat) : ∀ u ∈ [Value.int .u8 (n : Int), .slice A m c], u.oneCell' = true := by
  intro u hu
  simp only [List.mem_cons, List.not_mem_nil, or_false] at hu
  rcases hu with rfl | rfl <;> rfl

/-- One element more. -/
theorem elsW_snoc {base : Nat} {e : TypeId} {w w' : World} {v v' dv : Value} {E : List (Nat × List Nat)} {L : List (Nat × Value)} {c : Nat} {d : List Nat}
    (hl : L.length = E.length) (hi : ∀ i (h : i < E.length) (h' : i < L.length), L[i].1 = E[i].1 ∧ E[i].1 < 256 ∧ Bts E[i].2 ∧ w.ownsRow base 5 1 L[i].2 E[i].2.length (bv E[i].2))
    (hd : w.ownsRow base 5 1 dv d.length (bv d)) (hc : c < 256) (hb : Bts d) (he : e ≠ 5)
    (ho : w.ownsRow base e 2 v E.length (els L)) (ho' : w'.ownsRow base e 2 v' (E.length + 1) (els L ++ [.int .u8 (c : Int), dv])) (hg : w.grownBy w' v.ownBlock) :
    ElsW base e w' v' (E ++ [(c, d)]) := by
  have far : ∀ {u : Value} {m : Nat} {ys : List Value}, w.ownsRow base 5 1 u m ys → w'.ownsRow base 5 1 u m ys := by
    intro u m ys h
    refine h.kept hg ?_
    by_cases hn : u.ownBlock = none
    · exact .inl hn
    · right
      intro heq
      obtain ⟨g, hgu⟩ := Option.ne_none_iff_exists'.1 hn
      rw [hgu] at heq
      rcases ho.2 with ⟨rfl, _⟩ | ⟨g', cap, cur, rfl, _, hh, _⟩
      · cases heq
      · have hgg : g = g' := by simpa [Value.ownBlock] using heq
        subst hgg
        exact own_blk_ne h (show Blk w g e cur from hh) (Ne.symm he) hgu
  refine ⟨L ++ [(c, dv)], ?_, by simp [hl], fun i h h' => ?_⟩
  · rw [els_snoc, List.length_append]
    exact ho'
  · by_cases hlt : i < E.length
    · rw [List.getElem_append_left (by omega), List.getElem_append_left hlt]
      obtain ⟨h1, h2, h3, h4⟩ := hi i hlt (by omega)
      exact ⟨h1, h2, h3, far h4⟩
    · simp only [List.length_append, List.length_cons, List.length_nil] at h
      obtain rfl : i = E.length := by omega
      rw [List.getElem_append_right (by omega), List.getElem_append_right (by omega)]
      simp only [hl, Nat.sub_self, List.getElem_cons_zero]
      exact ⟨by first | rfl | trivial, hc, hb, far hd⟩

set_option maxHeartbeats 4000000 in
set_option maxRecDepth 100000 in
theorem r3Parse_any {w : World} {v : Value} {bs : List Nat} (p : Nat) (_hp : p < 65536) (h : Sl w v (bv bs)) (hmaxv : ∀ A n cap, v = .slice A n cap → cap ≤ maxLen) (hb : Bts bs) (hl : bs.length ≤ 1000000) :
    Calls Try.prog 89 #[.int .u16 p, v] w fun e w' => ∃ lv, e = .returned (.tuple #[lv, .int .i64 (extP p bs).2]) ∧ ElsW w.heap.size 164 w' lv (extP p bs).1 ∧ Kp (fun _ => True) w w' := by
  obtain ⟨A, cap, rfl⟩ := h.form8
  have hmax := hmaxv _ _ _ rfl
  clear hmaxv
  unfold maxLen at hmax
  by_cases hk : isKnown p = false
  · have hX : extP p bs = ([], 30) := by unfold extP; rw [if_pos hk]
    rw [hX]
    have c := r3Known_any p
    rw [hk] at c
    have C := hd c
    clear c hk hX
    go_enter Try.func89, Try.ntmps89
    go_wp2_with (go_at_call 119; refine (C.out _).mono ?_; rintro e w' ⟨rfl, rfl⟩)
    go_ret2
    exact ⟨_, rfl, ElsW.nil _ _ _, Kp.refl _ _⟩
  by_cases h4 : bs.length % 4 ≠ 0
  · have hX : extP p bs = ([], 3) := by unfold extP; rw [if_neg hk, if_pos h4]
    rw [hX]
    have c := r3Known_any p
    rw [show isKnown p = true by simpa using hk] at c
    have C := hd c
    have hq : ((bs.length : Int) % 4 != 0) = true := by rw [bne_iff_ne]; omega
    clear c hk hX h4
    go_enter Try.func89, Try.ntmps89
    go_wp2_with (go_at_call 119; refine (C.out _).mono ?_; rintro e w' ⟨rfl, rfl⟩)
    go_ret2
    exact ⟨_, rfl, ElsW.nil _ _ _, Kp.refl _ _⟩
  have hX : extP p bs = prs (isOne p) bs (bs.length + 1) 0 [] := by unfold extP; rw [if_neg hk, if_neg h4]
  have hS0 : Still (isOne p) bs (extP p bs) 0 [] := ⟨bs.length + 1, by omega, hX.symm⟩
  generalize extP p bs = R at *
  have c := r3Known_any p
  rw [show isKnown p = true by simpa using hk] at c
  have C := hd c
  have hq : ((bs.length : Int) % 4 != 0) = false := by rw [bne_eq_false_iff_eq]; omega
  have c1 := r3one_any p
  clear c hk hX h4
  obtain ⟨i0, hi0, hz0, hz1, hz2⟩ := info_parts Try.info_rEl
  obtain ⟨j0, hj0, hy0, hy1, hy2⟩ := info_parts Try.info_u8
  go_enter Try.func89, Try.ntmps89
  go_wp2_with (go_at_call 119; refine (C.out _).mono ?_; rintro e w' ⟨rfl, rfl⟩)
  go_loopw [6, 7] (fun ov iv wr => ∃ (i : Nat) (acc : List (Nat × List Nat)), i ≤ bs.length ∧ acc.length ≤ i ∧ iv = .int .i64 i ∧ ElsW w'.heap.size 164 wr ov acc ∧ Still (isOne p) bs R i acc ∧ Kp (fun _ => True) w' wr) (fun _ iv _ => bs.length - (intOf iv).toNat)
  case atStart => exact ⟨0, [], Nat.zero_le _, Nat.le_refl _, rfl, ElsW.nil _ _ _, hS0, Kp.refl _ _⟩
  case round =>
    obtain ⟨i, acc, hi, hacc, rfl, hE, hS, hK⟩ := hrel
    by_cases hlt : i < bs.length
    · have hcap := h.le_cap (fun e => by have := congrArg List.length e; rw [bv_length] at this; simp at this; subst this; simp at hlt)
      obtain ⟨g, off, rfl, _, hcell⟩ := (h.all hK).at_ (bv_getD bs i hlt)
      have hc := hb.getD i
      have hs1 := hS.pad hlt
      have hs2 : isOne p = true → Still true bs R i acc := fun e => e ▸ hS
      have hs3 : isOne p = false → Still false bs R i acc := fun e => e ▸ hS
      generalize hcc : bs.getD i 0 = c at *
      by_cases h0 : c = 0
      · subst h0
        have HS := hd (hs1 rfl)
        clear hs1 hs2 hs3 hcc hS
        go_wp2
        go_roundw
        case rel => exact ⟨i + 1, acc, by omega, by omega, rfl, hE, HS.out, hK⟩
        case measure => simp [intOf]; omega
      · have hq0 : ((c : Int) == 0) = false := by rw [beq_eq_false_iff_ne]; omega
        cases h1 : isOne p
        · have HS := hd (hs3 h1)
          have C1 := hd c1
          have HC := hd hcc
          have HH1 := hd h1
          have hC0 := hd (show bs.getD i 0 ≠ 0 from by rw [hcc]; exact h0)
          clear hs1 hs2 hs3 hcc hS c1
          by_cases hsh0 : bs.length ≤ i + 1
          · have HR := hd (HS.out.short2 hlt hC0.out (.inl hsh0))
            go_wp2_with (go_at_call 120; refine (C1.out _).mono ?_; rw [HH1.out]; rintro e w'' ⟨rfl, rfl⟩)
            go_ret2
            rw [HR.out]
            exact ⟨_, rfl, ElsW.nil _ _ _, hK⟩
          have hi1 : i + 1 < bs.length := by omega
          have hcell2 : wr.cell? ⟨g, off + (i + 1), none⟩ = some (.int .u8 ((bs.getD (i + 1) 0 : Nat) : Int)) := by
            obtain ⟨g2, off2, he, _, hc2⟩ := (h.all hK).at_ (bv_getD bs (i + 1) hi1)
            injection he with he
            injection he with he1 he2
            subst he1 he2
            exact hc2
          have hn := hb.getD (i + 1)
          have hsh2 := hd (fun e => HS.out.short2 hlt hC0.out (.inr e))
          have htwo := hd (fun e => HS.out.two_ hlt hC0.out hi1 e)
          generalize bs.getD (i + 1) 0 = n at *
          by_cases hsh : bs.length < i + 2 + n
          · have HR := hd (hsh2.out hsh)
            go_wp2_with (go_at_call 120; refine (C1.out _).mono ?_; rw [HH1.out]; rintro e w'' ⟨rfl, rfl⟩)
            go_ret2
            rw [HR.out]
            exact ⟨_, rfl, ElsW.nil _ _ _, hK⟩
          have HS2 : Hd (Still false bs R (i + 2 + n) (acc ++ [(c, (bs.drop (i + 2)).take n)])) := by
            have t := htwo.out (by omega)
            rw [HC.out] at t
            exact t
          clear htwo hsh2
          have hcut := (h.all hK).cut (i + 2) n (cap - (i + 2)) (by rw [bv_length]; omega) (by omega)
          rw [show ((bv bs).drop (i + 2)).take n = bv ((bs.drop (i + 2)).take n) from bv_cut bs _ _] at hcut
          have hdl : ((bs.drop (i + 2)).take n).length = n := by rw [List.length_take, List.length_drop]; omega
          have hdb : Bts ((bs.drop (i + 2)).take n) := (hb.drop _).take _
          generalize (bs.drop (i + 2)).take n = d at *
          have HD := hd hdl
          clear hdl
          obtain ⟨L, hLo, hLl, hLi⟩ := hE
          by_cases hne : cap = i + 2
          · obtain rfl : n = 0 := by omega
            obtain rfl : d = [] := List.eq_nil_of_length_eq_zero HD.out
            clear hcut
            subst hne
            go_wp2_with (first | (go_at_call 120; refine (C1.out _).mono ?_; rw [HH1.out]; rintro e w'' ⟨rfl, rfl⟩) | (at_builtin; (refine wpList_app rfl (.tmp 74) (.tmp 90) 154 rfl w'.heap.size 164 i0 _ 2 32 Try.underlying154 hi0 hz0 hz1 hz2 rfl (by decide) _ acc.length (els L) (by exact rfl) hLo [.int .u8 (c : Int), .slice none 0 0] 1 rfl rfl (el_oneCell _ _ _ _) (by omega) (by decide) hK.size ?_); intro g3 c3 w3 ho3 hg3 _))
            go_roundw
            case rel =>
              have hE2 : ElsW w'.heap.size 164 w3 _ (acc ++ [(c, [])]) := elsW_snoc hLl (fun j h h' => hLi j h h') (World.ownsRow_nil _ _ _ _) (by omega) hdb (by decide) hLo ho3 hg3
              exact ⟨i + 2 + 0, acc ++ [(c, [])], by omega, by simp; omega, by simp, hE2, HS2.out, (((hK.mono fun _ _ _ => trivial).trans (kp_own hLo hg3)).all)⟩
            case measure => simp [intOf]; omega
          have hcut2 : Sl wr (.slice (some ⟨g, off + (i + 2), none⟩) (i + 2 + n - (i + 2)) (cap - (i + 2))) (bv d) := by rw [show i + 2 + n - (i + 2) = n from by omega]; exact hcut
          clear hcut
          go_wp2_with (first | (go_at_call 120; refine (C1.out _).mono ?_; rw [HH1.out]; rintro e w'' ⟨rfl, rfl⟩) | (at_builtin; (refine wpList_apps rfl (.tmp 77) (.tmp 87) 38 rfl w'.heap.size 5 j0 (.int .u8 0) 1 Try.underlying38 hj0 hy0 hy1 hy2 rfl (.slice none 0 0) 0 [] rfl (World.ownsRow_nil _ _ _ _) _ (bv d) rfl hcut2 (bv_oneCell d) (by rw [bv_length, HD.out]; omega) (by decide) hK.size ?_); intro v2 w2 ho2 hg2 _; obtain ⟨B, cB, rfl⟩ := (Sl.of_own ho2).form; have hK2 : Kp (fun _ => True) _ w2 := Kp.of_grown hg2 (fun k _ _ e => by cases e)) | (at_builtin; (refine wpList_app rfl (.tmp 74) (.tmp 90) 154 rfl w'.heap.size 164 i0 _ 2 32 Try.underlying154 hi0 hz0 hz1 hz2 rfl (by decide) _ acc.length (els L) (by exact rfl) (own_kp hLo hK2 (fun _ _ _ => trivial)) [.int .u8 (c : Int), .slice B (bv d).length cB] 1 rfl rfl (el_oneCell _ _ _ _) (by omega) (by decide) (Nat.le_trans hK.size hK2.size) ?_); intro g3 c3 w3 ho3 hg3 _))
          go_roundw
          case rel =>
            simp only [List.nil_append, Nat.zero_add, bv_length] at ho2 ho3
            have hE2 : ElsW w'.heap.size 164 w3 _ (acc ++ [(c, d)]) := elsW_snoc hLl (fun j h h' => by
              obtain ⟨h1, h2, h3, h4⟩ := hLi j h h'
              exact ⟨h1, h2, h3, own_kp h4 hK2 (fun _ _ _ => trivial)⟩) ho2 (by omega) hdb (by decide) (own_kp hLo hK2 (fun _ _ _ => trivial)) ho3 hg3
            exact ⟨i + 2 + n, acc ++ [(c, d)], by omega, by simp; omega, by simp, hE2, HS2.out, ((((hK.trans hK2).mono fun _ _ _ => trivial).trans (kp_own (own_kp hLo hK2 (fun _ _ _ => trivial)) hg3)).all)⟩
          case measure => simp [intOf]; omega
        · have HS := hd (hs2 h1)
          have C1 := hd c1
          have HC := hd hcc
          have HH1 := hd h1
          clear hs1 hs2 hs3 hcc hS c1
          by_cases h15 : c / 16 = 15
          · have hq15 : ((c : Int) / 16 == 15) = true := by rw [beq_iff_eq]; omega
            have HR := hd (HS.out.stop hlt (HC.out ▸ h0) (HC.out ▸ h15))
            clear h15
            go_wp2_with (go_at_call 120; refine (C1.out _).mono ?_; rintro e w'' ⟨rfl, rfl⟩)
            go_ret2
            rw [HR.out]
            exact ⟨_, rfl, hE, hK⟩
          have hq15 : ((c : Int) / 16 == 15) = false := by rw [beq_eq_false_iff_ne]; omega
          by_cases h160 : c / 16 = 0
          · have hq16 : ((c : Int) / 16 == 0) = true := by rw [beq_iff_eq]; omega
            have HR := hd (HS.out.bad hlt (HC.out ▸ h0) (HC.out ▸ h160))
            clear h15 h160
            go_wp2_with (go_at_call 120; refine (C1.out _).mono ?_; rintro e w'' ⟨rfl, rfl⟩)
            go_ret2
            rw [HR.out]
            exact ⟨_, rfl, ElsW.nil _ _ _, hK⟩
          have hq16 : ((c : Int) / 16 == 0) = false := by rw [beq_eq_false_iff_ne]; omega
          by_cases hsh : bs.length < i + 1 + (c % 16 + 1)
          · have HR := hd (HS.out.short1 hlt (HC.out ▸ h0) (HC.out ▸ h15) (HC.out ▸ h160) (HC.out ▸ hsh))
            clear h15 h160
            go_wp2_with (go_at_call 120; refine (C1.out _).mono ?_; rintro e w'' ⟨rfl, rfl⟩)
            go_ret2
            rw [HR.out]
            exact ⟨_, rfl, ElsW.nil _ _ _, hK⟩
          have hne : ¬ cap = i + 1 := by omega
          have hcut := (h.all hK).cut (i + 1) (c % 16 + 1) (cap - (i + 1)) (by rw [bv_length]; omega) (by omega)
          rw [show ((bv bs).drop (i + 1)).take (c % 16 + 1) = bv ((bs.drop (i + 1)).take (c % 16 + 1)) from bv_cut bs _ _] at hcut
          have hdl : ((bs.drop (i + 1)).take (c % 16 + 1)).length = c % 16 + 1 := by rw [List.length_take, List.length_drop]; omega
          have hdb : Bts ((bs.drop (i + 1)).take (c % 16 + 1)) := (hb.drop _).take _
          have HS2 : Hd (Still true bs R (i + 1 + (c % 16 + 1)) (acc ++ [(c / 16, (bs.drop (i + 1)).take (c % 16 + 1))])) := by
            have t := HS.out.one_ hlt (HC.out ▸ h0) (HC.out ▸ h15) (HC.out ▸ h160) (HC.out ▸ hsh)
            rw [HC.out] at t
            exact t
          generalize (bs.drop (i + 1)).take (c % 16 + 1) = d at *
          have HD := hd hdl
          clear hdl
          have hcut2 : Sl wr (.slice (some ⟨g, off + (i + 1), none⟩) (i + 1 + (c % 16 + 1) - (i + 1)) (cap - (i + 1))) (bv d) := by rw [show i + 1 + (c % 16 + 1) - (i + 1) = c % 16 + 1 from by omega]; exact hcut
          clear hcut
          obtain ⟨L, hLo, hLl, hLi⟩ := hE
          go_wp2_with (first | (go_at_call 120; refine (C1.out _).mono ?_; rintro e w'' ⟨rfl, rfl⟩) | (at_builtin; refine wpList_apps rfl (.tmp 77) (.tmp 87) 38 rfl w'.heap.size 5 j0 (.int .u8 0) 1 Try.underlying38 hj0 hy0 hy1 hy2 rfl (.slice none 0 0) 0 [] rfl (World.ownsRow_nil _ _ _ _) _ (bv d) rfl hcut2 (bv_oneCell d) (by rw [bv_length, HD.out]; omega) (by decide) hK.size ?_; intro v2 w2 ho2 hg2 _; obtain ⟨B, cB, rfl⟩ := (Sl.of_own ho2).form; have hK2 : Kp (fun _ => True) _ w2 := Kp.of_grown hg2 (fun k _ _ e => by cases e)) | (at_builtin; (refine wpList_app rfl (.tmp 74) (.tmp 90) 154 rfl w'.heap.size 164 i0 _ 2 32 Try.underlying154 hi0 hz0 hz1 hz2 rfl (by decide) _ acc.length (els L) (by exact rfl) (own_kp hLo hK2 (fun _ _ _ => trivial)) [.int .u8 ((c / 16 : Nat) : Int), .slice B (bv d).length cB] 1 rfl rfl (el_oneCell _ _ _ _) (by omega) (by decide) (Nat.le_trans hK.size hK2.size) ?_); intro g3 c3 w3 ho3 hg3 _))
          go_roundw
          case rel =>
            simp only [List.nil_append, Nat.zero_add, bv_length] at ho2 ho3
            have hE2 : ElsW w'.heap.size 164 w3 _ (acc ++ [(c / 16, d)]) := elsW_snoc hLl (fun j h h' => by
              obtain ⟨h1, h2, h3, h4⟩ := hLi j h h'
              exact ⟨h1, h2, h3, own_kp h4 hK2 (fun _ _ _ => trivial)⟩) ho2 (by omega) hdb (by decide) (own_kp hLo hK2 (fun _ _ _ => trivial)) ho3 hg3
            exact ⟨i + 1 + (c % 16 + 1), acc ++ [(c / 16, d)], by omega, by simp; omega, by simp, hE2, HS2.out, ((((hK.trans hK2).mono fun _ _ _ => trivial).trans (kp_own (own_kp hLo hK2 (fun _ _ _ => trivial)) hg3)).all)⟩
          case measure => simp [intOf]; omega
    · have hR := hS.end_ (by omega)
      subst hR
      go_wp2
      go_ret2
      exact ⟨_, rfl, hE, hK⟩
end Go.Proofs.Ytjcejgolcdgipaa

/- Package ext's Parse. -/
namespace Go.Proofs.Ytjcejgolcdgipaa
open Go.RowKit

/-- The call's own state in its loop. -/
structure PS (w0 w : World) (B fb tb p : Nat) (D M S : Int) (bs : List Nat) (vr : Value) (at_ : Nat) (err : Int) (ov : Value) (acc : List (Nat × List Nat)) : Prop where
  els : ElsS B 160 w ov acc
  rd : Rd w p bs at_ err vr
  fbk : ∃ x y z, Blk w fb 178 #[.int .i64 D, .int .i64 M, x, y, z, .int .u64 S]
  tbk : Blk w tb 182 #[.pointer (some ⟨p, 0, none⟩), .func (Fn.func 69) #[.pointer (some ⟨p, 0, none⟩)] #[]]
  size : B ≤ w.heap.size
  kp : Kp (· < w0.heap.size) w0 w
  fbB : fb < B
  tbB : tb < B
  pB : p < B
  vB : ∀ g, vr.ownBlock = some g → g < B
  pw : w0.heap.size ≤ p
section
variable {w0 w w' : World} {B fb tb p : Nat} {D M S : Int} {bs : List Nat} {vr ov : Value} {at_ at2 : Nat} {err err2 : Int} {acc : List (Nat × List Nat)}
theorem PS.cells (h : PS w0 w B fb tb p D M S bs vr at_ err ov acc) : w.cell? ⟨fb, 0, none⟩ = some (.int .i64 D) ∧ w.cell? ⟨fb, 1, none⟩ = some (.int .i64 M) ∧ w.cell? ⟨fb, 5, none⟩ = some (.int .u64 S) ∧
    w.cell? ⟨tb, 0, none⟩ = some (.pointer (some ⟨p, 0, none⟩)) ∧ w.cell? ⟨tb, 1, none⟩ = some (.func (Fn.func 69) #[.pointer (some ⟨p, 0, none⟩)] #[]) := by
  obtain ⟨x, y, z, hf⟩ := h.fbk
  exact ⟨hf.cell 0, hf.cell 1, hf.cell 5, h.tbk.cell 0, h.tbk.cell 1⟩
theorem PS.moved (h : PS w0 w B fb tb p D M S bs vr at_ err ov acc) (hr : Rd w' p bs at2 err2 vr) (hk : Kp (· ≠ p) w w') : PS w0 w' B fb tb p D M S bs vr at2 err2 ov acc := by
  obtain ⟨x, y, z, hf⟩ := h.fbk
  have hB := h.pB
  have hw := h.pw
  exact ⟨h.els.kp hk (fun g hg => by omega), hr, ⟨x, y, z, hf.kp hk (hf.ne_ h.rd.blk (by decide))⟩, h.tbk.kp hk (h.tbk.ne_ h.rd.blk (by decide)), Nat.le_trans h.size hk.size, h.kp.low hk (fun i hi => by omega), h.fbB, h.tbB, h.pB, h.vB, h.pw⟩
theorem PS.drewN (h : PS w0 w B fb tb p D M S bs vr at_ err ov acc) (n : Nat) : PS w0 (w.drewN n) B fb tb p D M S bs vr at_ err ov acc := by
  obtain ⟨x, y, z, hf⟩ := h.fbk
  exact ⟨h.els.drewN n, h.rd.drewN n, ⟨x, y, z, hf.drewN n⟩, h.tbk.drewN n, h.size, h.kp.drewN n, h.fbB, h.tbB, h.pB, h.vB, h.pw⟩
theorem PS.alloc (h : PS w0 w B fb tb p D M S bs vr at_ err ov acc) (o : Obj) : PS w0 (w.alloc o) B fb tb p D M S bs vr at_ err ov acc := by
  obtain ⟨x, y, z, hf⟩ := h.fbk
  have hs := h.size
  exact ⟨h.els.kp ((Kp.refl (fun _ => True) w).alloc o) (fun _ _ => trivial), h.rd.alloc o, ⟨x, y, z, hf.alloc o⟩, h.tbk.alloc o, by simp; omega, h.kp.alloc o, h.fbB, h.tbB, h.pB, h.vB, h.pw⟩
theorem PS.grow {v' : Value} {acc' : List (Nat × List Nat)} (h : PS w0 w B fb tb p D M S bs vr at_ err ov acc) (hg : w.grownBy w' ov.ownBlock) (he : ElsS B 160 w' v' acc') : PS w0 w' B fb tb p D M S bs vr at_ err v' acc' := by
  obtain ⟨x, y, z, hf⟩ := h.fbk
  obtain ⟨L, ho, _⟩ := h.els
  have hk : Kp (· < B) w w' := kp_own ho hg
  have hpw := h.pw
  have hpB := h.pB
  exact ⟨he, h.rd.kp hk h.pB h.vB, ⟨x, y, z, hf.kp hk h.fbB⟩, h.tbk.kp hk h.tbB, Nat.le_trans h.size hk.size, h.kp.low hk (fun i hi => by omega), h.fbB, h.tbB, h.pB, h.vB, h.pw⟩
/-- One element more, its bytes new. -/
theorem elsS_snoc {base : Nat} {e : TypeId} {w w' : World} {v v' dv : Value} {E : List (Nat × List Nat)} {L : List (Nat × Value)} {c B : Nat} {d : List Nat}
    (hl : L.length = E.length) (hi : (∀ i (h : i < E.length) (h' : i < L.length), L[i].1 = E[i].1 ∧ E[i].1 < 256 ∧ Bts E[i].2 ∧ w.ownsRow base 5 1 L[i].2 E[i].2.length (bv E[i].2)) ∧ Dj L ∧ ∀ i (h : i < L.length) k, L[i].2.ownBlock = some k → k < B)
    (hn : ∀ k, dv.ownBlock = some k → B ≤ k)
    (hd : w.ownsRow base 5 1 dv d.length (bv d)) (hc : c < 256) (hb : Bts d) (he : e ≠ 5)
    (ho : w.ownsRow base e 2 v E.length (els L)) (ho' : w'.ownsRow base e 2 v' (E.length + 1) (els L ++ [.int .u8 (c : Int), dv])) (hg : w.grownBy w' v.ownBlock) :
    ElsS base e w' v' (E ++ [(c, d)]) := by
  obtain ⟨hi, hD, hf⟩ := hi
  have far : ∀ {u : Value} {m : Nat} {ys : List Value}, w.ownsRow base 5 1 u m ys → w'.ownsRow base 5 1 u m ys := by
    intro u m ys h
    refine h.kept hg ?_
    by_cases hn : u.ownBlock = none
    · exact .inl hn
    · right
      intro heq
      obtain ⟨g, hgu⟩ := Option.ne_none_iff_exists'.1 hn
      rw [hgu] at heq
      rcases ho.2 with ⟨rfl, _⟩ | ⟨g', cap, cur, rfl, _, hh, _⟩
      · cases heq
      · have hgg : g = g' := by simpa [Value.ownBlock] using heq
        subst hgg
        exact own_blk_ne h (show Blk w g e cur from hh) (Ne.symm he) hgu
  refine ⟨L ++ [(c, dv)], ?_, by simp [hl], fun i h h' => ?_, fun i j h1 h2 k hne hk => ?_⟩
  · rw [els_snoc, List.length_append]
    exact ho'
  · by_cases hlt : i < E.length
    · rw [List.getElem_append_left (by omega), List.getElem_append_left hlt]
      obtain ⟨h1, h2, h3, h4⟩ := hi i hlt (by omega)
      exact ⟨h1, h2, h3, far h4⟩
    · simp only [List.length_append, List.length_cons, List.length_nil] at h
      obtain rfl : i = E.length := by omega
      rw [List.getElem_append_right (by omega), List.getElem_append_right (by omega)]
      simp only [hl, Nat.sub_self, List.getElem_cons_zero]
      exact ⟨by first | rfl | trivial, hc, hb, far hd⟩
  · simp only [List.length_append, List.length_cons, List.length_nil] at h1 h2
    by_cases hil : i < L.length <;> by_cases hjl : j < L.length
    · rw [List.getElem_append_left hil] at hk
      rw [List.getElem_append_left hjl]
      exact hD i j hil hjl k hne hk
    · rw [List.getElem_append_left hil] at hk
      rw [List.getElem_append_right (by omega)]
      simp only [show j - L.length = 0 by omega, List.getElem_cons_zero]
      intro e2
      have := hn k e2
      have := hf i hil k hk
      omega
    · rw [List.getElem_append_right (by omega)] at hk
      simp only [show i - L.length = 0 by omega, List.getElem_cons_zero] at hk
      rw [List.getElem_append_left hjl]
      intro e2
      have := hn k hk
      have := hf j hjl k e2
      omega
    · omega
theorem PS.fin (h : PS w0 w B fb tb p D M S bs vr at_ err ov acc) : ElsS w0.heap.size 160 w ov acc ∧ Kp (fun _ => True) w0 w := by
  have h1 := h.pB
  have h2 := h.pw
  exact ⟨h.els.mono (by omega), h.kp.all⟩
end
/-- Bytes are asked: whatever comes. -/
theorem RBytes_some {w : World} {p : Nat} {bs : List Nat} {at_ : Nat} {v : Value} (h : Rd w p bs at_ 0 v) (c : Int) (n : Nat) (hc : c = n) (hn : n ≤ 1000000) :
    Calls Try.prog 116 #[.pointer (some ⟨p, 0, none⟩), .int .i64 c] w fun e w' => ∃ A m k at2 err2, e = .returned (.slice A m k) ∧ Rd w' p bs at2 err2 v ∧ Kp (· ≠ p) w w' := by
  by_cases hle : at_ + 8 * n ≤ 8 * bs.length
  · refine (RBytes_ok h c n hc hle).mono ?_
    rintro e w' ⟨v', rfl, ho, hr, hk⟩
    obtain ⟨A, k, rfl⟩ := (Sl.of_own ho).form
    exact ⟨_, _, _, _, _, rfl, hr, hk⟩
  · have hf : bErr 0 c (8 * bs.length - at_) ≠ 0 := by
      subst hc
      unfold bErr
      rw [if_neg (by decide), if_neg (by omega), if_pos (by omega)]
      decide
    refine (RBytes_bad h c (by omega) (by omega) hf).mono ?_
    rintro e w' ⟨rfl, hr, hk⟩
    exact ⟨_, _, _, _, _, rfl, hr, hk⟩

set_option maxHeartbeats 4000000 in
set_option maxRecDepth 100000 in
theorem extParse_one {w : World} {v : Value} {bs : List Nat} (h : Sl w v (bv bs)) (hb : Bts bs) (hl : bs.length ≤ 1000000) :
    Calls Try.prog 87 #[.int .u16 48862, v] w fun e w' => ∃ lv, e = .returned (.tuple #[lv, .int .i64 (extP 48862 bs).2]) ∧ ElsS w.heap.size 160 w' lv (extP 48862 bs).1 ∧ Kp (fun _ => True) w w' := by
  obtain ⟨A, cap, rfl⟩ := h.form8
  have hmf : ∀ (fn : Fn) (first cap : Array Value) (w : World), (Instr.makeFunc fn first cap).run Try.prog w = .ok (.func fn first cap) w := fun _ _ _ _ => rfl
  by_cases h4 : bs.length % 4 ≠ 0
  · have hX : extP 48862 bs = ([], 3) := by unfold extP; rw [if_neg (by decide), if_pos h4]
    rw [hX]
    have hq : ((bs.length : Int) % 4 != 0) = true := by rw [bne_iff_ne]; omega
    clear hX h4
    go_enter Try.func87, Try.ntmps87
    go_wp2
    go_step3
    go_wp2_with (go_at_call 115; refine (extOf_one _).mono ?_; rintro e w1 ⟨rfl, hK1⟩; unfold form1)
    rw [Exit.noGoto_ret]
    go_ret2
    exact ⟨_, rfl, ElsS.nil _ _ _, hK1.alloc _⟩
  have hX : extP 48862 bs = prs true bs (bs.length + 1) 0 [] := by unfold extP; rw [if_neg (by decide), if_neg h4]; rfl
  have hS0 : Still true bs (extP 48862 bs) 0 [] := ⟨bs.length + 1, by omega, hX.symm⟩
  generalize extP 48862 bs = R at *
  have hq : ((bs.length : Int) % 4 != 0) = false := by rw [bne_eq_false_iff_eq]; omega
  clear hX h4
  obtain ⟨i0, hi0, hz0, hz1, hz2⟩ := info_parts Try.info_El
  go_enter Try.func87, Try.ntmps87
  go_wp2
  go_step3
  go_wp2_with (first | (go_at_call 115; refine (extOf_one _).mono ?_; rintro e w1 ⟨rfl, hK1⟩; unfold form1) | (go_at_call 68; refine (Of_any ((h.all hK1).alloc _) hb (by omega)).mono ?_; rintro e w2 ⟨p, vr, rfl, hp, hR, hv, hK2⟩))
  go_step3
  go_wp2
  obtain ⟨B, hB⟩ : ∃ B, B = w2.heap.size + 1 := ⟨_, rfl⟩
  have hP0 : PS w (w2.alloc (.cells #[.pointer (some ⟨p, 0, none⟩), .func (Fn.func 69) #[.pointer (some ⟨p, 0, none⟩)] #[]] 182)) B w1.heap.size w2.heap.size p 4 1 15 bs vr 0 0 (.slice none 0 0) [] := by
    have h1 := hR.blk.lt
    have h2 := hK1.size
    have h3 := hK2.size
    simp at hp h3
    exact ⟨ElsS.nil _ _ _, hR.alloc _, ⟨_, _, _, ((Blk.new w1 _ _).kp hK2 trivial).alloc _⟩, Blk.new _ _ _, by simp; omega, ((((hK1.alloc _).trans hK2).alloc _).mono fun _ _ _ => trivial), by omega, by omega, by omega, fun g hg => by have := hR.vlt g hg; omega, by omega⟩
  clear hR hv hK2 hp hB
  go_loopg [8] bs.length (fun (g : Nat) (ov : Value) (wr : World) => ∃ (i : Nat) (acc : List (Nat × List Nat)), g = bs.length - i ∧ i ≤ bs.length ∧ acc.length ≤ i ∧ Still true bs R i acc ∧ PS w wr B w1.heap.size w2.heap.size p 4 1 15 bs vr (8 * i) 0 ov acc)
  case atStart => exact ⟨0, [], rfl, Nat.zero_le _, Nat.le_refl _, hS0, hP0⟩
  case round =>
    obtain ⟨i, acc, hg, hi, hacc, hS, hP⟩ := hrel
    obtain ⟨d0, d1, d5, t0, t1⟩ := hP.cells
    by_cases hlt : i < bs.length
    · have hpos : decide ((0 : Int) < 8 * (bs.length : Int) - ((8 * i : Nat) : Int)) = true := decide_eq_true (by omega)
      have A1 := hS.pad hlt
      have A2 := hS.stop hlt
      have A3 := hS.bad hlt
      have A4 := hS.short1 hlt
      have A5 := hS.one_ hlt
      have hc := hb.getD i
      have hv1 := hd (vl_high bs i hc)
      have hv2 := hd (vl_low bs i)
      generalize bs.getD i 0 = c at *
      have hcX : c = 16 * (c / 16) + c % 16 := by omega
      have hX : c / 16 < 16 := by omega
      have hm : c % 16 < 16 := by omega
      generalize c / 16 = X at *
      generalize c % 16 = m at *
      subst hcX
      clear hS hc
      by_cases hX15 : X = 15
      · have HR := hd (A2 (by omega) hX15)
        have hq15 : ((X : Int) == 15) = true := by rw [beq_iff_eq]; omega
        have hq0 : ((X : Int) == 0) = false := by rw [beq_eq_false_iff_ne]; omega
        clear A1 A2 A3 A4 A5 hX15
        go_wp2_with (first | (go_at_call 71; refine (left_any hP.rd).mono ?_; rintro e w4 ⟨rfl, n4, rfl⟩) | (go_at_call 69; refine (Take_lit (hP.drewN n4).rd 4 4 (X : Int) rfl (by rw [hv1.out]) (by decide) (by omega)).mono ?_; rintro e w5 ⟨rfl, hR5, hK5⟩; have hP5 := (hP.drewN n4).moved hR5 hK5; obtain ⟨e0, e1, e5, s0, s1⟩ := hP5.cells))
        rw [Exit.noGoto_ret]
        go_ret2
        rw [HR.out]
        exact ⟨_, rfl, hP5.fin⟩
      have hq15 : ((X : Int) == 15) = false := by rw [beq_eq_false_iff_ne]; omega
      by_cases hX0 : X = 0
      · have hq0 : ((X : Int) == 0) = true := by rw [beq_iff_eq]; omega
        by_cases hm0 : m = 0
        · have hqm : ((m : Int) == 0) = true := by rw [beq_iff_eq]; omega
          have HS := hd (A1 (by omega))
          clear A1 A2 A3 A4 A5 hX15 hX0 hm0
          go_wp2_with (first | (go_at_call 71; refine (left_any hP.rd).mono ?_; rintro e w4 ⟨rfl, n4, rfl⟩) | (go_at_call 69; refine (Take_lit (hP.drewN n4).rd 4 4 (X : Int) rfl (by rw [hv1.out]) (by decide) (by omega)).mono ?_; rintro e w5 ⟨rfl, hR5, hK5⟩; have hP5 := (hP.drewN n4).moved hR5 hK5; obtain ⟨e0, e1, e5, s0, s1⟩ := hP5.cells) | (go_at_call 69; refine (Take_lit hP5.rd 4 4 (m : Int) rfl (by rw [hv2.out]) (by decide) (by omega)).mono ?_; rintro e w6 ⟨rfl, hR6, hK6⟩; have hP6 := hP5.moved hR6 hK6; obtain ⟨f0, f1, f5, r0, r1⟩ := hP6.cells))
          go_roundg (bs.length - (i + 1))
          case measure => omega
          case rel => exact ⟨i + 1, acc, rfl, by omega, by omega, HS.out, hP6⟩
        · have hqm : ((m : Int) == 0) = false := by rw [beq_eq_false_iff_ne]; omega
          have HR := hd (A3 (by omega) hX0)
          clear A1 A2 A3 A4 A5 hX15 hX0 hm0
          go_wp2_with (first | (go_at_call 71; refine (left_any hP.rd).mono ?_; rintro e w4 ⟨rfl, n4, rfl⟩) | (go_at_call 69; refine (Take_lit (hP.drewN n4).rd 4 4 (X : Int) rfl (by rw [hv1.out]) (by decide) (by omega)).mono ?_; rintro e w5 ⟨rfl, hR5, hK5⟩; have hP5 := (hP.drewN n4).moved hR5 hK5; obtain ⟨e0, e1, e5, s0, s1⟩ := hP5.cells) | (go_at_call 69; refine (Take_lit hP5.rd 4 4 (m : Int) rfl (by rw [hv2.out]) (by decide) (by omega)).mono ?_; rintro e w6 ⟨rfl, hR6, hK6⟩; have hP6 := hP5.moved hR6 hK6; obtain ⟨f0, f1, f5, r0, r1⟩ := hP6.cells) | (go_at_call 116; refine (RBytes_some hP6.rd ((m : Int) + 1) (m + 1) (by omega) (by omega)).mono ?_; rintro e w7 ⟨A7, m7, k7, at7, err7, rfl, hR7, hK7⟩; have hP7 := hP6.moved hR7 hK7))
          rw [Exit.noGoto_ret]
          go_ret2
          rw [HR.out]
          exact ⟨_, rfl, ElsS.nil _ _ _, (hP7.alloc _).fin.2⟩
      have hq0 : ((X : Int) == 0) = false := by rw [beq_eq_false_iff_ne]; omega
      by_cases hsh : bs.length < i + 1 + (m + 1)
      · have HR := hd (A4 (by omega) hX15 hX0 hsh)
        have hbe : Hd (bErr 0 ((m : Int) + 1) (8 * bs.length - (8 * i + 4 + 4 : Nat)) = 10) := by
          show bErr 0 _ _ = 10
          unfold bErr
          rw [if_neg (by decide), if_neg (by omega), if_pos (by omega)]
        clear A1 A2 A3 A4 A5 hX15 hX0
        go_wp2_with (first | (go_at_call 71; refine (left_any hP.rd).mono ?_; rintro e w4 ⟨rfl, n4, rfl⟩) | (go_at_call 69; refine (Take_lit (hP.drewN n4).rd 4 4 (X : Int) rfl (by rw [hv1.out]) (by decide) (by omega)).mono ?_; rintro e w5 ⟨rfl, hR5, hK5⟩; have hP5 := (hP.drewN n4).moved hR5 hK5; obtain ⟨e0, e1, e5, s0, s1⟩ := hP5.cells) | (go_at_call 69; refine (Take_lit hP5.rd 4 4 (m : Int) rfl (by rw [hv2.out]) (by decide) (by omega)).mono ?_; rintro e w6 ⟨rfl, hR6, hK6⟩; have hP6 := hP5.moved hR6 hK6; obtain ⟨f0, f1, f5, r0, r1⟩ := hP6.cells) | (go_at_call 116; refine (RBytes_bad hP6.rd ((m : Int) + 1) (by omega) (by omega) (by rw [hbe.out]; decide)).mono ?_; rw [hbe.out]; rintro e w7 ⟨rfl, hR7, hK7⟩; have hP7 := (hP6.moved hR7 hK7).alloc (.cells #[.int .u8 (X : Int), .slice none 0 0] 160); obtain ⟨g0, g1, g5, q0, q1⟩ := hP7.cells) | (go_at_call 70; refine (rerr_any hP7.rd).mono ?_; rintro e w8 ⟨rfl, rfl⟩))
        rw [Exit.noGoto_ret]
        go_ret2
        rw [HR.out]
        exact ⟨_, rfl, ElsS.nil _ _ _, hP7.fin.2⟩
      have HS := A5 (by omega) hX15 hX0 hsh
      have hby : Hd (bys bs (8 * i + 4 + 4) (m + 1) = (bs.drop (i + 1)).take (m + 1)) := by
        show _ = _
        rw [show 8 * i + 4 + 4 = 8 * (i + 1) from by omega]
        exact bys_whole hb (i + 1) (m + 1) (by omega)
      have hdl : Hd (((bs.drop (i + 1)).take (m + 1)).length = m + 1) := by show _ = _; rw [List.length_take, List.length_drop]; omega
      have hdb : Bts ((bs.drop (i + 1)).take (m + 1)) := (hb.drop _).take _
      generalize (bs.drop (i + 1)).take (m + 1) = d at *
      clear A1 A2 A3 A4 A5 hX15 hX0
      go_wp2_with (first | (go_at_call 71; refine (left_any hP.rd).mono ?_; rintro e w4 ⟨rfl, n4, rfl⟩) | (go_at_call 69; refine (Take_lit (hP.drewN n4).rd 4 4 (X : Int) rfl (by rw [hv1.out]) (by decide) (by omega)).mono ?_; rintro e w5 ⟨rfl, hR5, hK5⟩; have hP5 := (hP.drewN n4).moved hR5 hK5; obtain ⟨e0, e1, e5, s0, s1⟩ := hP5.cells) | (go_at_call 69; refine (Take_lit hP5.rd 4 4 (m : Int) rfl (by rw [hv2.out]) (by decide) (by omega)).mono ?_; rintro e w6 ⟨rfl, hR6, hK6⟩; have hP6 := hP5.moved hR6 hK6; obtain ⟨f0, f1, f5, r0, r1⟩ := hP6.cells) | (go_at_call 116; refine (RBytes_ok hP6.rd ((m : Int) + 1) (m + 1) (by omega) (by omega)).mono ?_; rw [hby.out]; rintro e w7 ⟨v7, rfl, ho7, hR7, hK7⟩; obtain ⟨A7, k7, rfl⟩ := (Sl.of_own ho7).form; have hP7 := (hP6.moved hR7 hK7).alloc (.cells #[.int .u8 (X : Int), .slice A7 (bv d).length k7] 160); obtain ⟨g0, g1, g5, q0, q1⟩ := hP7.cells; have ho8 := own_mono (own_kp ho7 ((Kp.refl (fun _ => True) w7).alloc (.cells #[.int .u8 (X : Int), .slice A7 (bv d).length k7] 160)) (fun _ _ _ => trivial)) hP6.size; obtain ⟨L, hLo, hLl, hLi⟩ := hP6.els.fresh (hK7.alloc (.cells #[.int .u8 (X : Int), .slice A7 (bv d).length k7] 160)) (fun g hg => (by have := hP6.pB; omega)); have hge : Hd (∀ k, (Value.slice A7 (bv d).length k7).ownBlock = some k → w6.heap.size ≤ k) := (fun k hk => (ho7.lt k hk).1); have hsz : Hd (w7.heap.size + 1 = (w7.alloc (.cells #[.int .u8 (X : Int), .slice A7 (bv d).length k7] 160)).heap.size) := (by show _ = _; simp)) | (go_at_call 70; refine (rerr_any hP7.rd).mono ?_; rintro e w8 ⟨rfl, rfl⟩) | (at_builtin; (refine wpList_app rfl (.tmp 83) (.tmp 85) 149 rfl B 160 i0 _ 2 32 Try.underlying149 hi0 hz0 hz1 hz2 rfl (by decide) _ acc.length (els L) (by exact rfl) hLo [.int .u8 (X : Int), .slice A7 (bv d).length k7] 1 (Eq.trans rfl (congrArg (fun n => Value.slice (some ⟨n, 0, none⟩) 1 1) hsz.out)) rfl (el_oneCell _ _ _ _) (by omega) (by decide) hP7.size ?_); intro g9 c9 w9 ho9 hg9 _))
      go_roundg (bs.length - (i + 1 + (m + 1)))
      case measure => omega
      case rel =>
        have hdl2 := hdl.out
        rw [← hdl2] at ho8
        have hE2 : ElsS B 160 w9 _ (acc ++ [(X, d)]) := elsS_snoc hLl hLi.out hge.out ho8 (by omega) hdb (by decide) hLo ho9 hg9
        have hPn := hP7.grow hg9 hE2
        rw [show 8 * i + 4 + 4 + 8 * (m + 1) = 8 * (i + 1 + (m + 1)) from by omega] at hPn
        exact ⟨i + 1 + (m + 1), acc ++ [(X, d)], rfl, by omega, by simp; omega, HS, hPn⟩
    · have HR := hd (hS.end_ (by omega))
      have hle : decide ((0 : Int) < 8 * (bs.length : Int) - ((8 * i : Nat) : Int)) = false := decide_eq_false (by omega)
      clear hS
      go_wp2_with (go_at_call 71; refine (left_any hP.rd).mono ?_; rintro e w4 ⟨rfl, n4, rfl⟩)
      rw [Exit.noGoto_ret]
      go_ret2
      rw [HR.out]
      exact ⟨_, rfl, (hP.drewN n4).fin⟩
end Go.Proofs.Ytjcejgolcdgipaa

/- Package ext's Parse, the form of two bytes; and all. -/
namespace Go.Proofs.Ytjcejgolcdgipaa
open Go.RowKit

set_option maxHeartbeats 4000000 in
set_option maxRecDepth 100000 in
theorem extParse_two {w : World} {v : Value} {bs : List Nat} (p : Nat) (hp6 : p < 65536) (h2p : isTwo p = true) (h : Sl w v (bv bs)) (hb : Bts bs) (hl : bs.length ≤ 1000000) :
    Calls Try.prog 87 #[.int .u16 p, v] w fun e w' => ∃ lv, e = .returned (.tuple #[lv, .int .i64 (extP p bs).2]) ∧ ElsS w.heap.size 160 w' lv (extP p bs).1 ∧ Kp (fun _ => True) w w' := by
  have hkn : isKnown p = true := by unfold isKnown; simp [h2p]
  have hon : isOne p = false := by unfold isOne; unfold isTwo at h2p; simp at h2p; simp; omega
  have H2 := hd h2p
  clear h2p
  obtain ⟨A, cap, rfl⟩ := h.form8
  have hmf : ∀ (fn : Fn) (first cap : Array Value) (w : World), (Instr.makeFunc fn first cap).run Try.prog w = .ok (.func fn first cap) w := fun _ _ _ _ => rfl
  by_cases h4 : bs.length % 4 ≠ 0
  · have hX : extP p bs = ([], 3) := by unfold extP; rw [if_neg (by rw [hkn]; decide), if_pos h4]
    rw [hX]
    have hq : ((bs.length : Int) % 4 != 0) = true := by rw [bne_iff_ne]; omega
    clear hX h4
    go_enter Try.func87, Try.ntmps87
    go_wp2
    go_step3
    go_wp2_with (go_at_call 115; refine (extOf_two p _ hp6 H2.out).mono ?_; rintro e w1 ⟨rfl, hK1⟩; unfold form2)
    rw [Exit.noGoto_ret]
    go_ret2
    exact ⟨_, rfl, ElsS.nil _ _ _, hK1.alloc _⟩
  have hX : extP p bs = prs false bs (bs.length + 1) 0 [] := by unfold extP; rw [if_neg (by rw [hkn]; decide), if_neg h4, hon]
  have hS0 : Still false bs (extP p bs) 0 [] := ⟨bs.length + 1, by omega, hX.symm⟩
  generalize extP p bs = R at *
  have hq : ((bs.length : Int) % 4 != 0) = false := by rw [bne_eq_false_iff_eq]; omega
  clear hX h4
  obtain ⟨i0, hi0, hz0, hz1, hz2⟩ := info_parts Try.info_El
  go_enter Try.func87, Try.ntmps87
  go_wp2
  go_step3
  go_wp2_with (first | (go_at_call 115; refine (extOf_two p _ hp6 H2.out).mono ?_; rintro e w1 ⟨rfl, hK1⟩; unfold form2) | (go_at_call 68; refine (Of_any ((h.all hK1).alloc _) hb (by omega)).mono ?_; rintro e w2 ⟨q, vr, rfl, hp, hR, hv, hK2⟩))
  go_step3
  go_wp2
  obtain ⟨B, hB⟩ : ∃ B, B = w2.heap.size + 1 := ⟨_, rfl⟩
  have hP0 : PS w (w2.alloc (.cells #[.pointer (some ⟨q, 0, none⟩), .func (Fn.func 69) #[.pointer (some ⟨q, 0, none⟩)] #[]] 182)) B w1.heap.size w2.heap.size q 8 0 256 bs vr 0 0 (.slice none 0 0) [] := by
    have h1 := hR.blk.lt
    have h2 := hK1.size
    have h3 := hK2.size
    simp at hp h3
    exact ⟨ElsS.nil _ _ _, hR.alloc _, ⟨_, _, _, ((Blk.new w1 _ _).kp hK2 trivial).alloc _⟩, Blk.new _ _ _, by simp; omega, ((((hK1.alloc _).trans hK2).alloc _).mono fun _ _ _ => trivial), by omega, by omega, by omega, fun g hg => by have := hR.vlt g hg; omega, by omega⟩
  clear hR hv hK2 hp hB
  go_loopg [8] bs.length (fun (g : Nat) (ov : Value) (wr : World) => ∃ (i : Nat) (acc : List (Nat × List Nat)), g = bs.length - i ∧ i ≤ bs.length ∧ acc.length ≤ i ∧ Still false bs R i acc ∧ PS w wr B w1.heap.size w2.heap.size q 8 0 256 bs vr (8 * i) 0 ov acc)
  case atStart => exact ⟨0, [], rfl, Nat.zero_le _, Nat.le_refl _, hS0, hP0⟩
  case round =>
    obtain ⟨i, acc, hg, hi, hacc, hS, hP⟩ := hrel
    obtain ⟨d0, d1, d5, t0, t1⟩ := hP.cells
    by_cases hlt : i < bs.length
    · have hpos : decide ((0 : Int) < 8 * (bs.length : Int) - ((8 * i : Nat) : Int)) = true := decide_eq_true (by omega)
      have A1 := hS.pad hlt
      have A4 := hS.short2 hlt
      have A5 := hS.two_ hlt
      have hX := hb.getD i
      have hv1 := hd (vl_byte bs i hX)
      generalize bs.getD i 0 = X at *
      have hq15 : ((X : Int) == 256) = false := by rw [beq_eq_false_iff_ne]; omega
      clear hS
      by_cases hX0 : X = 0
      · have hq0 : ((X : Int) == 0) = true := by rw [beq_iff_eq]; omega
        have HS := hd (A1 hX0)
        clear A1 A4 A5 hX0
        go_wp2_with (first | (go_at_call 71; refine (left_any hP.rd).mono ?_; rintro e w4 ⟨rfl, n4, rfl⟩) | (go_at_call 69; refine (Take_lit (hP.drewN n4).rd 8 8 (X : Int) rfl (by rw [hv1.out]) (by decide) (by omega)).mono ?_; rintro e w5 ⟨rfl, hR5, hK5⟩; have hP5 := (hP.drewN n4).moved hR5 hK5; obtain ⟨e0, e1, e5, s0, s1⟩ := hP5.cells))
        go_roundg (bs.length - (i + 1))
        case measure => omega
        case rel =>
          rw [show 8 * i + 8 = 8 * (i + 1) from by omega] at hP5
          exact ⟨i + 1, acc, rfl, by omega, by omega, HS.out, hP5⟩
      have hq0 : ((X : Int) == 0) = false := by rw [beq_eq_false_iff_ne]; omega
      by_cases hi1 : bs.length ≤ i + 1
      · have HR := hd (A4 hX0 (.inl hi1))
        have hte : Hd (tErr 0 8 (8 * bs.length - (8 * i + 8 : Nat)) = 10) := by
          show tErr 0 8 _ = 10
          unfold tErr
          rw [if_neg (by decide), if_neg (by decide), if_pos (by omega)]
        have hbe : Hd (bErr 10 0 (8 * bs.length - (8 * i + 8 : Nat)) = 10) := by
          show bErr 10 0 _ = 10
          unfold bErr
          rw [if_pos (by decide)]
        clear A1 A4 A5 hX0
        go_wp2_with (first | (go_at_call 71; refine (left_any hP.rd).mono ?_; rintro e w4 ⟨rfl, n4, rfl⟩) | (go_at_call 69; refine (Take_lit (hP.drewN n4).rd 8 8 (X : Int) rfl (by rw [hv1.out]) (by decide) (by omega)).mono ?_; rintro e w5 ⟨rfl, hR5, hK5⟩; have hP5 := (hP.drewN n4).moved hR5 hK5; obtain ⟨e0, e1, e5, s0, s1⟩ := hP5.cells) | (go_at_call 69; refine (Take_bad hP5.rd 8 (by rw [hte.out]; decide)).mono ?_; rw [hte.out]; rintro e w6 ⟨rfl, hR6, hK6⟩; have hP6 := hP5.moved hR6 hK6; obtain ⟨f0, f1, f5, r0, r1⟩ := hP6.cells) | (go_at_call 116; refine (RBytes_bad hP6.rd 0 (by omega) (by omega) (by rw [hbe.out]; decide)).mono ?_; rw [hbe.out]; rintro e w7 ⟨rfl, hR7, hK7⟩; have hP7 := (hP6.moved hR7 hK7).alloc (.cells #[.int .u8 (X : Int), .slice none 0 0] 160); obtain ⟨g0, g1, g5, q0, q1⟩ := hP7.cells) | (go_at_call 70; refine (rerr_any hP7.rd).mono ?_; rintro e w8 ⟨rfl, rfl⟩))
        rw [Exit.noGoto_ret]
        go_ret2
        rw [HR.out]
        exact ⟨_, rfl, ElsS.nil _ _ _, hP7.fin.2⟩
      have hm := hb.getD (i + 1)
      have hv2 := hd (vl_byte bs (i + 1) hm)
      rw [show 8 * (i + 1) = 8 * i + 8 from by omega] at hv2
      generalize bs.getD (i + 1) 0 = m at *
      by_cases hsh : bs.length < i + 2 + m
      · have HR := hd (A4 hX0 (.inr hsh))
        have hbe : Hd (bErr 0 (m : Int) (8 * bs.length - (8 * i + 8 + 8 : Nat)) = 10) := by
          show bErr 0 _ _ = 10
          unfold bErr
          rw [if_neg (by decide), if_neg (by omega), if_pos (by omega)]
        clear A1 A4 A5 hX0
        go_wp2_with (first | (go_at_call 71; refine (left_any hP.rd).mono ?_; rintro e w4 ⟨rfl, n4, rfl⟩) | (go_at_call 69; refine (Take_lit (hP.drewN n4).rd 8 8 (X : Int) rfl (by rw [hv1.out]) (by decide) (by omega)).mono ?_; rintro e w5 ⟨rfl, hR5, hK5⟩; have hP5 := (hP.drewN n4).moved hR5 hK5; obtain ⟨e0, e1, e5, s0, s1⟩ := hP5.cells) | (go_at_call 69; refine (Take_lit hP5.rd 8 8 (m : Int) rfl (by rw [hv2.out]) (by decide) (by omega)).mono ?_; rintro e w6 ⟨rfl, hR6, hK6⟩; have hP6 := hP5.moved hR6 hK6; obtain ⟨f0, f1, f5, r0, r1⟩ := hP6.cells) | (go_at_call 116; refine (RBytes_bad hP6.rd (m : Int) (by omega) (by omega) (by rw [hbe.out]; decide)).mono ?_; rw [hbe.out]; rintro e w7 ⟨rfl, hR7, hK7⟩; have hP7 := (hP6.moved hR7 hK7).alloc (.cells #[.int .u8 (X : Int), .slice none 0 0] 160); obtain ⟨g0, g1, g5, q0, q1⟩ := hP7.cells) | (go_at_call 70; refine (rerr_any hP7.rd).mono ?_; rintro e w8 ⟨rfl, rfl⟩))
        rw [Exit.noGoto_ret]
        go_ret2
        rw [HR.out]
        exact ⟨_, rfl, ElsS.nil _ _ _, hP7.fin.2⟩
      have HS := A5 hX0 (by omega) (by omega)
      have hby : Hd (bys bs (8 * i + 8 + 8) m = (bs.drop (i + 2)).take m) := by
        show _ = _
        rw [show 8 * i + 8 + 8 = 8 * (i + 2) from by omega]
        exact bys_whole hb (i + 2) m (by omega)
      have hdl : Hd (((bs.drop (i + 2)).take m).length = m) := by show _ = _; rw [List.length_take, List.length_drop]; omega
      have hdb : Bts ((bs.drop (i + 2)).take m) := (hb.drop _).take _
      generalize (bs.drop (i + 2)).take m = d at *
      clear A1 A4 A5 hX0
      go_wp2_with (first | (go_at_call 71; refine (left_any hP.rd).mono ?_; rintro e w4 ⟨rfl, n4, rfl⟩) | (go_at_call 69; refine (Take_lit (hP.drewN n4).rd 8 8 (X : Int) rfl (by rw [hv1.out]) (by decide) (by omega)).mono ?_; rintro e w5 ⟨rfl, hR5, hK5⟩; have hP5 := (hP.drewN n4).moved hR5 hK5; obtain ⟨e0, e1, e5, s0, s1⟩ := hP5.cells) | (go_at_call 69; refine (Take_lit hP5.rd 8 8 (m : Int) rfl (by rw [hv2.out]) (by decide) (by omega)).mono ?_; rintro e w6 ⟨rfl, hR6, hK6⟩; have hP6 := hP5.moved hR6 hK6; obtain ⟨f0, f1, f5, r0, r1⟩ := hP6.cells) | (go_at_call 116; refine (RBytes_ok hP6.rd (m : Int) m rfl (by omega)).mono ?_; rw [hby.out]; rintro e w7 ⟨v7, rfl, ho7, hR7, hK7⟩; obtain ⟨A7, k7, rfl⟩ := (Sl.of_own ho7).form; have hP7 := (hP6.moved hR7 hK7).alloc (.cells #[.int .u8 (X : Int), .slice A7 (bv d).length k7] 160); obtain ⟨g0, g1, g5, q0, q1⟩ := hP7.cells; have ho8 := own_mono (own_kp ho7 ((Kp.refl (fun _ => True) w7).alloc (.cells #[.int .u8 (X : Int), .slice A7 (bv d).length k7] 160)) (fun _ _ _ => trivial)) hP6.size; obtain ⟨L, hLo, hLl, hLi⟩ := hP6.els.fresh (hK7.alloc (.cells #[.int .u8 (X : Int), .slice A7 (bv d).length k7] 160)) (fun g hg => (by have := hP6.pB; omega)); have hge : Hd (∀ k, (Value.slice A7 (bv d).length k7).ownBlock = some k → w6.heap.size ≤ k) := (fun k hk => (ho7.lt k hk).1); have hsz : Hd (w7.heap.size + 1 = (w7.alloc (.cells #[.int .u8 (X : Int), .slice A7 (bv d).length k7] 160)).heap.size) := (by show _ = _; simp)) | (go_at_call 70; refine (rerr_any hP7.rd).mono ?_; rintro e w8 ⟨rfl, rfl⟩) | (at_builtin; (refine wpList_app rfl (.tmp 83) (.tmp 85) 149 rfl B 160 i0 _ 2 32 Try.underlying149 hi0 hz0 hz1 hz2 rfl (by decide) _ acc.length (els L) (by exact rfl) hLo [.int .u8 (X : Int), .slice A7 (bv d).length k7] 1 (Eq.trans rfl (congrArg (fun n => Value.slice (some ⟨n, 0, none⟩) 1 1) hsz.out)) rfl (el_oneCell _ _ _ _) (by omega) (by decide) hP7.size ?_); intro g9 c9 w9 ho9 hg9 _))
      go_roundg (bs.length - (i + 2 + m))
      case measure => omega
      case rel =>
        have hdl2 := hdl.out
        rw [← hdl2] at ho8
        have hE2 : ElsS B 160 w9 _ (acc ++ [(X, d)]) := elsS_snoc hLl hLi.out hge.out ho8 (by omega) hdb (by decide) hLo ho9 hg9
        have hPn := hP7.grow hg9 hE2
        rw [show 8 * i + 8 + 8 + 8 * m = 8 * (i + 2 + m) from by omega] at hPn
        exact ⟨i + 2 + m, acc ++ [(X, d)], rfl, by omega, by simp; omega, HS, hPn⟩
    · have HR := hd (hS.end_ (by omega))
      have hle : decide ((0 : Int) < 8 * (bs.length : Int) - ((8 * i : Nat) : Int)) = false := decide_eq_false (by omega)
      clear hS
      go_wp2_with (go_at_call 71; refine (left_any hP.rd).mono ?_; rintro e w4 ⟨rfl, n4, rfl⟩)
      rw [Exit.noGoto_ret]
      go_ret2
      rw [HR.out]
      exact ⟨_, rfl, (hP.drewN n4).fin⟩

set_option maxHeartbeats 4000000 in
set_option maxRecDepth 100000 in
theorem extParse_no {w : World} {v : Value} (p : Nat) (hp6 : p < 65536) (hk : isKnown p = false) :
    Calls Try.prog 87 #[.int .u16 p, v] w fun e w' => e = .returned (.tuple #[.slice none 0 0, .int .i64 30]) ∧ Kp (fun _ => True) w w' := by
  have H2 := hd hk
  clear hk
  go_enter Try.func87, Try.ntmps87
  go_wp2
  go_step3
  go_wp2_with (go_at_call 115; refine (extOf_no p _ hp6 H2.out).mono ?_; rintro e w1 ⟨rfl, hK1⟩; unfold form0)
  rw [Exit.noGoto_ret]
  go_ret2
  exact ⟨rfl, hK1.alloc _⟩
theorem extParse_anyS {w : World} {v : Value} {bs : List Nat} (p : Nat) (hp6 : p < 65536) (h : Sl w v (bv bs)) (hb : Bts bs) (hl : bs.length ≤ 1000000) :
    Calls Try.prog 87 #[.int .u16 p, v] w fun e w' => ∃ lv, e = .returned (.tuple #[lv, .int .i64 (extP p bs).2]) ∧ ElsS w.heap.size 160 w' lv (extP p bs).1 ∧ Kp (fun _ => True) w w' := by
  by_cases h1 : isOne p = true
  · have : p = 48862 := by unfold isOne at h1; simpa using h1
    subst this
    exact extParse_one h hb hl
  · by_cases h2 : isTwo p = true
    · exact extParse_two p hp6 h2 h hb hl
    · have hk : isKnown p = false := by unfold isKnown; simp [h1, h2]
      have hX : extP p bs = ([], 30) := by unfold extP; rw [if_pos hk]
      rw [hX]
      refine (extParse_no p hp6 hk).mono ?_
      rintro e w' ⟨rfl, hK⟩
      exact ⟨_, rfl, ElsS.nil _ _ _, hK⟩
theorem extParse_any {w : World} {v : Value} {bs : List Nat} (p : Nat) (hp6 : p < 65536) (h : Sl w v (bv bs)) (hb : Bts bs) (hl : bs.length ≤ 1000000) :
    Calls Try.prog 87 #[.int .u16 p, v] w fun e w' => ∃ lv, e = .returned (.tuple #[lv, .int .i64 (extP p bs).2]) ∧ ElsW w.heap.size 160 w' lv (extP p bs).1 ∧ Kp (fun _ => True) w w' := by
  refine (extParse_anyS p hp6 h hb hl).mono ?_
  rintro e w' ⟨lv, rfl, hE, hK⟩
  exact ⟨lv, rfl, hE.w, hK⟩
end Go.Proofs.Ytjcejgolcdgipaa

/- Rows that may be spoilt, all of them; elements compared. -/
namespace Go.Proofs.Ytjcejgolcdgipaa
open Go.RowKit

/-- A row of bytes of the call's own, whatever it holds. -/
def Rw (base : Nat) (w : World) (v : Value) (n : Nat) : Prop := ∃ xs, w.ownsRow base 5 1 v n xs
theorem Rw.of {base n : Nat} {w : World} {v : Value} {xs : List Value} (h : w.ownsRow base 5 1 v n xs) : Rw base w v n := ⟨xs, h⟩
theorem Rw.kp {base n : Nat} {w w' : World} {v : Value} (h : Rw base w v n) (hk : Kp (fun _ => True) w w') : Rw base w' v n := by
  obtain ⟨xs, h⟩ := h
  exact ⟨xs, own_kp h hk (fun _ _ _ => trivial)⟩
theorem Rw.set {base n : Nat} {w : World} {v : Value} (h : Rw base w v n) (g k : Nat) (u : Value) : Rw base (w.setCell ⟨g, k, none⟩ u) v n := by
  obtain ⟨xs, h1, h2⟩ := h
  rcases h2 with h0 | ⟨g', cap, cur, rfl, hb, hg, hn, hm, hs, ht⟩
  · exact ⟨xs, h1, .inl h0⟩
  · by_cases hgg : g' = g
    · subst hgg
      refine ⟨(cur.setIfInBounds k u).toList.take (n * 1), ?_, .inr ⟨g', cap, cur.setIfInBounds k u, rfl, hb, Blk.set (t := 5) hg k u, hn, hm, by simpa using hs, rfl⟩⟩
      simp
      omega
    · exact ⟨xs, h1, .inr ⟨g', cap, cur, rfl, hb, Blk.far (t := 5) hg hgg u, hn, hm, hs, ht⟩⟩

set_option maxRecDepth 100000 in
theorem Spoil_rw {w : World} {v : Value} {base n : Nat} (h : Rw base w v n) (hn : n ≤ 140737488351232) :
    Calls Try.prog 35 #[v] w fun e w' => e = .returned (.tuple #[]) ∧ Kp (fun k => some k ≠ v.ownBlock) w w' ∧ Hd (∀ v2 n2, Rw base w v2 n2 → Rw base w' v2 n2) := by
  obtain ⟨xs, h⟩ := h
  rcases Nat.eq_zero_or_pos n with h0 | h0
  · subst h0
    obtain ⟨A, cap, rfl⟩ : ∃ A cap, v = .slice A 0 cap := by
      rcases h.2 with ⟨rfl, _⟩ | ⟨g, cap, cur, rfl, _⟩
      · exact ⟨_, _, rfl⟩
      · exact ⟨_, _, rfl⟩
    go_enter Try.func35, Try.ntmps35
    go_wp2
    refine wp_loop_rounds 1 ?_
    rw [rounds_succ]
    go_wp2
    go_end0
    exact ⟨rfl, Kp.refl _ _, fun _ _ h => h⟩
  · obtain ⟨g, cap, rfl, _, _⟩ := h.form h0
    go_enter Try.func35, Try.ntmps35
    go_wp2
    go_loopw [2] (fun i wr => ∃ (k : Nat) (ys : List Value), k ≤ n ∧ i = .int .i64 k ∧ wr.ownsRow base 5 1 (.slice (some ⟨g, 0, none⟩) n cap) n ys ∧ Kp (fun k => some k ≠ some g) w wr ∧ Hd (∀ v2 n2, Rw base w v2 n2 → Rw base wr v2 n2)) (fun i _ => n - (intOf i).toNat)
    case atStart => exact ⟨0, xs, Nat.zero_le _, rfl, h, Kp.refl _ _, fun _ _ h => h⟩
    case round =>
      obtain ⟨k, ys, hk, rfl, ho, hK, hW⟩ := hrel
      by_cases hlt : k < n
      · have hyl : k < ys.length := by have := ho.1; omega
        have hc := ho.cellAt k (by omega)
        rw [List.getElem?_eq_getElem hyl] at hc
        have hf := ho.frozenAt k
        have hs := ho.stored k (.int .u8 165)
        generalize ys[k] = y at *
        go_wp2
        go_roundw
        case rel => exact ⟨k + 1, _, by omega, by go_num, hs.1, hK.next (Kp.of_grown hs.2 (fun _ h _ => h)) (fun _ h _ => h), fun v2 n2 h2 => (hW.out v2 n2 h2).set _ _ _⟩
        case measure => simp [intOf]; omega
      · go_wp2
        go_end0
        exact ⟨rfl, hK, hW⟩

theorem SameBytes_is {w : World} {v1 v2 : Value} {a b : List Nat} (h1 : Sl w v1 (bv a)) (h2 : Sl w v2 (bv b)) (hl : a.length ≤ 140737488351232) (r : Bool) (hr : decide (a = b) = r) :
    Calls Try.prog 42 #[v1, v2] w fun e w' => e = .returned (.bool r) ∧ ∃ n, w' = w.drewN n := by
  subst hr
  exact SameBytes_any h1 h2 hl

end Go.Proofs.Ytjcejgolcdgipaa

/- Chapter 03: the short calls. -/
namespace Go.Proofs.Ytjcejgolcdgipaa
open Go.RowKit

theorem extParse_lit (w : World) (p : Nat) (px : Int) (hpx : px = p) (hp : p < 65536) (bs : List Nat) (n : Nat) (hn : n = bs.length) (E : List (Nat × List Nat)) (m : Nat) (hm : m = E.length) (err : Nat) (x : Int)
    (hX : extP p bs = (E, err)) (hx : (err : Int) = x) (hb : Bts bs) (hl : bs.length ≤ 1000) (cells : Array Value) (hc : cells = (bv bs).toArray) :
    Calls Try.prog 87 #[.int .u16 px, .slice (some ⟨w.heap.size, 0, none⟩) n n] (w.alloc (.cells cells 5)) fun e w' => ∃ A c, e = .returned (.tuple #[.slice A m c, .int .i64 x]) ∧ Els w' (.slice A m c) E ∧ Kp (fun _ => True) w w' := by
  subst hpx hn hm hx hc
  have hs : Sl (w.alloc (.cells (bv bs).toArray 5)) (.slice (some ⟨w.heap.size, 0, none⟩) bs.length bs.length) (bv bs) := Sl.lit w 5 (bv bs) bs.length bs.length (by simp [bv_length]) (by simp [bv_length]) (by rw [bv_length]; unfold maxLen; omega)
  refine (extParse_any p hp hs hb (by omega)).mono ?_
  rw [hX]
  rintro e w' ⟨lv, rfl, hE, hK⟩
  have h := hE.els
  obtain ⟨A, c, rfl⟩ := h.form
  exact ⟨A, c, rfl, h, ((Kp.refl _ _).alloc _).trans (hK.mono fun _ _ _ => trivial)⟩

end Go.Proofs.Ytjcejgolcdgipaa

/- The law ExtReads. -/
namespace Go.Proofs.Ytjcejgolcdgipaa
open Go.RowKit

theorem rows_ne {w : World} {base e1 e2 s1 s2 n1 n2 : Nat} {v1 v2 : Value} {xs1 xs2 : List Value} (h1 : w.ownsRow base e1 s1 v1 n1 xs1) (h2 : w.ownsRow base e2 s2 v2 n2 xs2) (hne : e1 ≠ e2) :
    ∀ g, v1.ownBlock = some g → some g ≠ v2.ownBlock := by
  intro g hg heq
  rcases h1.2 with ⟨rfl, _⟩ | ⟨g', cap, cur, rfl, _, hh, _⟩
  · cases hg
  · have hgg : g' = g := by simpa [Value.ownBlock] using hg
    subst hgg
    exact own_blk_ne h2 (show Blk w g' e1 cur from hh) (Ne.symm hne) heq.symm

theorem prs_len (one : Bool) (bs : List Nat) : ∀ f i acc, (∀ x ∈ acc, x.2.length ≤ bs.length) → ∀ x ∈ (prs one bs f i acc).1, x.2.length ≤ bs.length := by
  intro f
  induction f with
  | zero => intro i acc h; exact h
  | succ f ih =>
    intro i acc h
    have app : ∀ c (k m : Nat), ∀ x ∈ acc ++ [(c, (bs.drop k).take m)], x.2.length ≤ bs.length := by
      intro c k m x hx
      rcases List.mem_append.1 hx with hx | hx
      · exact h x hx
      · simp at hx
        subst hx
        simp only [List.length_take, List.length_drop]
        omega
    simp only [prs]
    split
    · exact h
    split
    · exact ih _ _ h
    split
    · split
      · exact h
      split
      · simp
      split
      · simp
      · exact ih _ _ (app _ _ _)
    · split
      · simp
      split
      · simp
      · exact ih _ _ (app _ _ _)
theorem extP_len (p : Nat) (bs : List Nat) : ∀ i (h : i < (extP p bs).1.length), ((extP p bs).1)[i].2.length ≤ bs.length := by
  intro i h
  have hx : ((extP p bs).1)[i] ∈ (extP p bs).1 := List.getElem_mem h
  generalize ((extP p bs).1)[i] = x at *
  unfold extP at hx
  split at hx
  · simp at hx
  split at hx
  · simp at hx
  · exact prs_len _ _ _ _ _ (by simp) x hx
theorem prs_num (one : Bool) (bs : List Nat) : ∀ f i acc, acc.length ≤ i → i ≤ bs.length → (prs one bs f i acc).1.length ≤ bs.length := by
  intro f
  induction f with
  | zero => intro i acc h h'; exact Nat.le_trans h h'
  | succ f ih =>
    intro i acc h h'
    simp only [prs]
    split
    · exact Nat.le_trans h h'
    split
    · exact ih _ _ (by omega) (by omega)
    split
    · split
      · exact Nat.le_trans h h'
      split
      · simp
      split
      · simp
      · exact ih _ _ (by simp; omega) (by omega)
    · split
      · simp
      split
      · simp
      · exact ih _ _ (by simp; omega) (by omega)
theorem extP_num (p : Nat) (bs : List Nat) : (extP p bs).1.length ≤ bs.length := by
  unfold extP
  split
  · simp
  split
  · simp
  · exact prs_num _ _ _ _ _ (by simp) (by omega)

end Go.Proofs.Ytjcejgolcdgipaa
