/- Slices whose elements are several cells; rows of elements (an id, bytes). -/
import Derived.Test.YtoonnlphfanmhaaKit
import Derived.Test.YtoonnlphfanmhaaExt0
namespace Go.Proofs.Ytoonnlphfanmhaa
open Go.RowKit

/-- A slice of n elements of k cells each reads as the cells xs. -/
def SlN (w : World) (k : Nat) (v : Value) (n : Nat) (xs : List Value) : Prop :=
  xs.length = n * k ∧ ((n = 0 ∧ ∃ A cap, v = .slice A 0 cap) ∨
    (n ≠ 0 ∧ ∃ g off cap, v = .slice (some ⟨g, off, none⟩) n cap ∧ n ≤ cap ∧ g < w.heap.size ∧ ∀ j u, xs[j]? = some u → w.cell? ⟨g, off + j, none⟩ = some u))
section
variable {w w' : World} {k n : Nat} {v : Value} {xs : List Value} {F : Nat → Prop}
theorem SlN.keep (h : SlN w k v n xs) (hs : w.heap.size ≤ w'.heap.size) (hk : n ≠ 0 → ∀ p : Addr, some p.block = v.ownBlock → p.block < w.heap.size → w'.cell? p = w.cell? p) : SlN w' k v n xs := by
  obtain ⟨hl, h⟩ := h
  refine ⟨hl, ?_⟩
  rcases h with h | ⟨hne, g, off, cap, rfl, hn, hg, hc⟩
  · exact .inl h
  · exact .inr ⟨hne, g, off, cap, rfl, hn, by omega, fun j u hu => (hk hne ⟨g, off + j, none⟩ rfl hg).trans (hc j u hu)⟩
theorem SlN.kp (h : SlN w k v n xs) (hk : Kp F w w') (hF : n ≠ 0 → ∀ g, v.ownBlock = some g → g < w.heap.size → F g) : SlN w' k v n xs :=
  h.keep hk.size fun hne _ hp hl => hk.cell (hF hne _ hp.symm hl) hl
theorem SlN.low (h : SlN w k v n xs) (hk : Kp (· < w.heap.size) w w') : SlN w' k v n xs := h.kp hk fun _ _ _ hl => hl
theorem SlN.all (h : SlN w k v n xs) (hk : Kp (fun _ => True) w w') : SlN w' k v n xs := h.kp hk fun _ _ _ _ => trivial
theorem SlN.drewN (h : SlN w k v n xs) (m : Nat) : SlN (w.drewN m) k v n xs := h
theorem SlN.alloc (h : SlN w k v n xs) (o : Obj) : SlN (w.alloc o) k v n xs := h.keep (by simp) fun _ _ _ hl => World.cell?_alloc_lt w o _ hl
theorem SlN.form (h : SlN w k v n xs) : ∃ A cap, v = .slice A n cap := by
  rcases h.2 with ⟨rfl, A, cap, rfl⟩ | ⟨_, g, off, cap, rfl, _⟩
  · exact ⟨A, cap, rfl⟩
  · exact ⟨_, cap, rfl⟩
theorem SlN.at_ {A : Option Addr} {cap j : Nat} {u : Value} (h : SlN w k (.slice A n cap) n xs) (hu : xs[j]? = some u) : ∃ g off, A = some ⟨g, off, none⟩ ∧ g < w.heap.size ∧ w.cell? ⟨g, off + j, none⟩ = some u := by
  obtain ⟨hl, h⟩ := h
  rcases h with ⟨h0, _⟩ | ⟨_, g, off, c, he, _, hg, hc⟩
  · subst h0
    have : xs = [] := List.eq_nil_of_length_eq_zero (by simpa using hl)
    subst this; simp at hu
  · injection he with he
    exact ⟨g, off, he, hg, hc j u hu⟩
theorem SlN.of_own {base : Nat} {e : TypeId} (h : w.ownsRow base e k v n xs) : SlN w k v n xs := by
  obtain ⟨hl, h2⟩ := h
  refine ⟨hl, ?_⟩
  rcases h2 with ⟨rfl, rfl⟩ | ⟨g, cap, cur, rfl, hb, hg, hn, hm, hcs, ht⟩
  · exact .inl ⟨rfl, _, _, rfl⟩
  · by_cases hne : n = 0
    · subst hne
      exact .inl ⟨rfl, _, _, rfl⟩
    · refine .inr ⟨hne, g, 0, cap, rfl, hn, lt_of_block hg, fun j u hu => ?_⟩
      rw [cell_of_row w g _ cur e (0, 0) hg, Nat.zero_add]
      rw [← ht, List.getElem?_take] at hu
      split at hu
      · simpa using hu
      · cases hu
end

/-- A row of cells out of rows of k. -/
theorem flat_get {α : Type} (f : α → List Value) (k : Nat) (hf : ∀ x, (f x).length = k) (L : List α) (i j : Nat) (hj : j < k) (x : α) (hx : L[i]? = some x) : (L.flatMap f)[i * k + j]? = (f x)[j]? := by
  induction L generalizing i with
  | nil => simp at hx
  | cons a L ih =>
    rw [List.flatMap_cons]
    cases i with
    | zero =>
      simp only [List.getElem?_cons_zero, Option.some.injEq] at hx
      subst hx
      rw [Nat.zero_mul, Nat.zero_add, List.getElem?_append_left (by rw [hf]; exact hj)]
    | succ i =>
      rw [List.getElem?_cons_succ] at hx
      rw [List.getElem?_append_right (by rw [hf, Nat.succ_mul]; omega), hf, show (i + 1) * k + j - k = i * k + j from by rw [Nat.succ_mul]; omega]
      exact ih i hx
theorem flat_length {α : Type} (f : α → List Value) (k : Nat) (hf : ∀ x, (f x).length = k) (L : List α) : (L.flatMap f).length = L.length * k := by
  induction L with
  | nil => simp
  | cons a L ih => rw [List.flatMap_cons, List.length_append, hf, ih, List.length_cons, Nat.succ_mul]; omega

/-- An element's cells. -/
def el (p : Nat × Value) : List Value := [.int .u8 (p.1 : Int), p.2]
def els (L : List (Nat × Value)) : List Value := L.flatMap el
theorem els_length (L : List (Nat × Value)) : (els L).length = L.length * 2 := flat_length el 2 (fun _ => rfl) L
theorem els_id (L : List (Nat × Value)) (i : Nat) (h : i < L.length) : (els L)[i * 2]? = some (.int .u8 (L[i].1 : Int)) :=
  flat_get el 2 (fun _ => rfl) L i 0 (by decide) L[i] (List.getElem?_eq_getElem h)
theorem els_data (L : List (Nat × Value)) (i : Nat) (h : i < L.length) : (els L)[i * 2 + 1]? = some L[i].2 :=
  flat_get el 2 (fun _ => rfl) L i 1 (by decide) L[i] (List.getElem?_eq_getElem h)
theorem els_snoc (L : List (Nat × Value)) (p : Nat × Value) : els (L ++ [p]) = els L ++ el p := by simp [els]

theorem own_mono {w : World} {b b' : Nat} {e : TypeId} {k n : Nat} {v : Value} {xs : List Value} (h : w.ownsRow b e k v n xs) (hb : b' ≤ b) : w.ownsRow b' e k v n xs := by
  refine ⟨h.1, ?_⟩
  rcases h.2 with h0 | ⟨g, cap, cur, h1, h2, h3⟩
  · exact .inl h0
  · exact .inr ⟨g, cap, cur, h1, Nat.le_trans hb h2, h3⟩

theorem own_capmax {w : World} {b : Nat} {e : TypeId} {k n : Nat} {v : Value} {xs : List Value} (h : w.ownsRow b e k v n xs) : ∀ A m cap, v = .slice A m cap → cap ≤ maxLen := by
  rintro A m cap rfl
  rcases h.2 with ⟨he, _⟩ | ⟨g, c, cur, he, _, _, _, hm, _⟩
  · injection he with _ _ h3; subst h3; unfold maxLen; omega
  · injection he with _ _ h3; subst h3; exact hm

/-- Elements (of type e) that the call itself made: each one's bytes in a row of its own. -/
def ElsW (base : Nat) (e : TypeId) (w : World) (v : Value) (E : List (Nat × List Nat)) : Prop :=
  ∃ L : List (Nat × Value), w.ownsRow base e 2 v E.length (els L) ∧ L.length = E.length ∧
    ∀ i (h : i < E.length) (h' : i < L.length), L[i].1 = E[i].1 ∧ E[i].1 < 256 ∧ Bts E[i].2 ∧ w.ownsRow base 5 1 L[i].2 E[i].2.length (bv E[i].2)
theorem ElsW.nil (base : Nat) (e : TypeId) (w : World) : ElsW base e w (.slice none 0 0) [] := ⟨[], World.ownsRow_nil _ _ _ _, rfl, fun i h _ => absurd h (by simp)⟩
theorem ElsW.kp {base : Nat} {e : TypeId} {w w' : World} {v : Value} {E : List (Nat × List Nat)} {F : Nat → Prop} (h : ElsW base e w v E) (hk : Kp F w w') (hF : ∀ g, base ≤ g → F g) : ElsW base e w' v E := by
  obtain ⟨L, ho, hl, hi⟩ := h
  refine ⟨L, own_kp ho hk (fun g hg _ => hF g hg), hl, fun i h h' => ?_⟩
  obtain ⟨h1, h2, h3, h4⟩ := hi i h h'
  exact ⟨h1, h2, h3, own_kp h4 hk (fun g hg _ => hF g hg)⟩
theorem ElsW.drewN {base : Nat} {e : TypeId} {w : World} {v : Value} {E : List (Nat × List Nat)} (h : ElsW base e w v E) (n : Nat) : ElsW base e (w.drewN n) v E := h

/-- No two of them lead to one block. -/
def Dj (L : List (Nat × Value)) : Prop := ∀ i j (hi : i < L.length) (hj : j < L.length) k, i ≠ j → L[i].2.ownBlock = some k → L[j].2.ownBlock ≠ some k
/-- The same, each one's bytes apart. -/
def ElsS (base : Nat) (e : TypeId) (w : World) (v : Value) (E : List (Nat × List Nat)) : Prop :=
  ∃ L : List (Nat × Value), w.ownsRow base e 2 v E.length (els L) ∧ L.length = E.length ∧
    (∀ i (h : i < E.length) (h' : i < L.length), L[i].1 = E[i].1 ∧ E[i].1 < 256 ∧ Bts E[i].2 ∧ w.ownsRow base 5 1 L[i].2 E[i].2.length (bv E[i].2)) ∧ Dj L
theorem ElsS.w {base : Nat} {e : TypeId} {w : World} {v : Value} {E : List (Nat × List Nat)} (h : ElsS base e w v E) : ElsW base e w v E := by
  obtain ⟨L, h1, h2, h3, _⟩ := h
  exact ⟨L, h1, h2, h3⟩
theorem ElsS.nil (base : Nat) (e : TypeId) (w : World) : ElsS base e w (.slice none 0 0) [] := ⟨[], World.ownsRow_nil _ _ _ _, rfl, fun i h _ => absurd h (by simp), fun i _ hi => absurd hi (by simp)⟩
theorem ElsS.kp {base : Nat} {e : TypeId} {w w' : World} {v : Value} {E : List (Nat × List Nat)} {F : Nat → Prop} (h : ElsS base e w v E) (hk : Kp F w w') (hF : ∀ g, base ≤ g → F g) : ElsS base e w' v E := by
  obtain ⟨L, ho, hl, hi, hd⟩ := h
  refine ⟨L, own_kp ho hk (fun g hg _ => hF g hg), hl, fun i h h' => ?_, hd⟩
  obtain ⟨h1, h2, h3, h4⟩ := hi i h h'
  exact ⟨h1, h2, h3, own_kp h4 hk (fun g hg _ => hF g hg)⟩
theorem ElsS.drewN {base : Nat} {e : TypeId} {w : World} {v : Value} {E : List (Nat × List Nat)} (h : ElsS base e w v E) (n : Nat) : ElsS base e (w.drewN n) v E := h
theorem ElsS.mono {B B' : Nat} {e : TypeId} {w : World} {v : Value} {E : List (Nat × List Nat)} (h : ElsS B e w v E) (hb : B' ≤ B) : ElsS B' e w v E := by
  obtain ⟨L, ho, hl, hi, hd⟩ := h
  refine ⟨L, own_mono ho hb, hl, fun i h h' => ?_, hd⟩
  obtain ⟨h1, h2, h3, h4⟩ := hi i h h'
  exact ⟨h1, h2, h3, own_mono h4 hb⟩
/-- What lay there before: older than what is made now. -/
theorem ElsS.fresh {base : Nat} {e : TypeId} {w w' : World} {v : Value} {E : List (Nat × List Nat)} {F : Nat → Prop} (h : ElsS base e w v E) (hk : Kp F w w') (hF : ∀ g, base ≤ g → F g) :
    ∃ L : List (Nat × Value), w'.ownsRow base e 2 v E.length (els L) ∧ L.length = E.length ∧
      Hd ((∀ i (h : i < E.length) (h' : i < L.length), L[i].1 = E[i].1 ∧ E[i].1 < 256 ∧ Bts E[i].2 ∧ w'.ownsRow base 5 1 L[i].2 E[i].2.length (bv E[i].2)) ∧ Dj L ∧ ∀ i (h : i < L.length) k, L[i].2.ownBlock = some k → k < w.heap.size) := by
  obtain ⟨L, ho, hl, hi, hd⟩ := h
  refine ⟨L, own_kp ho hk (fun g hg _ => hF g hg), hl, fun i h h' => ?_, hd, fun i h k hk => ?_⟩
  · obtain ⟨h1, h2, h3, h4⟩ := hi i h h'
    exact ⟨h1, h2, h3, own_kp h4 hk (fun g hg _ => hF g hg)⟩
  · exact ((hi i (by omega) h).2.2.2.lt k hk).2

/-- Elements that are there to be read. -/
def Els (w : World) (v : Value) (E : List (Nat × List Nat)) : Prop :=
  ∃ L : List (Nat × Value), SlN w 2 v E.length (els L) ∧ L.length = E.length ∧
    ∀ i (h : i < E.length) (h' : i < L.length), L[i].1 = E[i].1 ∧ E[i].1 < 256 ∧ Bts E[i].2 ∧ Sl w L[i].2 (bv E[i].2)
theorem ElsW.els {base : Nat} {e : TypeId} {w : World} {v : Value} {E : List (Nat × List Nat)} (h : ElsW base e w v E) : Els w v E := by
  obtain ⟨L, ho, hl, hi⟩ := h
  refine ⟨L, SlN.of_own ho, hl, fun i h h' => ?_⟩
  obtain ⟨h1, h2, h3, h4⟩ := hi i h h'
  exact ⟨h1, h2, h3, Sl.of_own h4⟩
theorem Els.low {w w' : World} {v : Value} {E : List (Nat × List Nat)} (h : Els w v E) (hk : Kp (· < w.heap.size) w w') : Els w' v E := by
  obtain ⟨L, ho, hl, hi⟩ := h
  refine ⟨L, ho.low hk, hl, fun i h h' => ?_⟩
  obtain ⟨h1, h2, h3, h4⟩ := hi i h h'
  exact ⟨h1, h2, h3, h4.low hk⟩
theorem Els.all {w w' : World} {v : Value} {E : List (Nat × List Nat)} (h : Els w v E) (hk : Kp (fun _ => True) w w') : Els w' v E := h.low (hk.mono fun _ _ _ => trivial)
theorem Els.form {w : World} {v : Value} {E : List (Nat × List Nat)} (h : Els w v E) : ∃ A cap, v = .slice A E.length cap := by
  obtain ⟨L, ho, _⟩ := h
  exact ho.form
/-- One of them. -/
theorem Els.at_ {w : World} {A : Option Addr} {cap : Nat} {E : List (Nat × List Nat)} (h : Els w (.slice A E.length cap) E) (i : Nat) (hi : i < E.length) :
    ∃ g off B c, A = some ⟨g, off, none⟩ ∧ g < w.heap.size ∧ w.cell? ⟨g, off + i * 2, none⟩ = some (.int .u8 (E[i].1 : Int)) ∧ w.cell? ⟨g, off + i * 2 + 1, none⟩ = some (.slice B E[i].2.length c) ∧ Sl w (.slice B E[i].2.length c) (bv E[i].2) ∧ Bts E[i].2 ∧ E[i].1 < 256 := by
  obtain ⟨L, ho, hl, hx⟩ := h
  obtain ⟨h1, h2, h3, h4⟩ := hx i hi (by omega)
  obtain ⟨g, off, rfl, hg, hc⟩ := ho.at_ (els_id L i (by omega))
  obtain ⟨g', off', he, _, hc'⟩ := ho.at_ (els_data L i (by omega))
  simp only [Option.some.injEq, Addr.mk.injEq, and_true] at he
  obtain ⟨rfl, rfl⟩ := he
  obtain ⟨B, c, hB⟩ := h4.form8
  rw [hB] at hc' h4
  rw [h1] at hc
  exact ⟨g, off, B, c, rfl, hg, hc, by rw [Nat.add_assoc]; exact hc', h4, h3, h2⟩
end Go.Proofs.Ytoonnlphfanmhaa
