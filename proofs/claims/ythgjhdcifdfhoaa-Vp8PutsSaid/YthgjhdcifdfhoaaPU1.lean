/- Texts of this session, one behind the other, what the row does not use left out: walks and laws over plain data. -/
import Derived.Test.YthgjhdcifdfhoaaWWords
import Derived.Deep.Slices
import Derived.ChangeArms

namespace Go.Proofs.Ythgjhdcifdfhoaa.Op
open Go.RowKit Go.Proofs.YthgjhdcifdfhoaaW.PrintWords Go.ChangeShapes Go.WideShapes Go.Deep

/-- Whatever reads at type t reads as a value of the kind d. -/
def Op (P : Program) (t : TypeId) {α : Type} (d : Kd α) (wf : α → Prop) : Prop :=
  ∀ {H : Type} {enc : TypeId × Value → H} {w : World} {base : Nat} {spare : Nat → Bool} {held : Bool} {fuel : Nat} {cs : List Value} {x : DataW H × List MemPlace}, DataW.trod enc P w base spare held fuel t cs = some x → ∃ a, d.K w a cs ∧ wf a
/-- The same of a struct's fields from cell o on. -/
def OpT (P : Program) (fs : List Field) (o : Nat) {α : Type} (d : Kd α) (wf : α → Prop) : Prop :=
  ∀ {H : Type} {enc : TypeId × Value → H} {w : World} {base : Nat} {spare : Nat → Bool} {held : Bool} {n : Nat} {cs : List Value}, (∀ f ∈ fs, ∃ y, DataW.trod enc P w base spare held n f.type ((cs.drop f.offset).take (P.cellsOf f.type)) = some y) → cs.length = o + d.sz → ∃ a, d.K w a (cs.drop o) ∧ wf a
section
variable {P : Program} {t e : TypeId} {α β : Type} {d : Kd α} {d2 : Kd β} {wf : α → Prop} {wf2 : β → Prop}
theorem Op.int {k : IntKind} (ht : P.underlying t = some (.int k)) : Op P t (Kd.int k) (fun n => (Lit.int k n).wf = true) := by
  intro H enc w base spare held fuel cs x h
  obtain ⟨n, rfl, _, hw⟩ := DataW.trod_int ht h
  exact ⟨n, rfl, hw⟩
theorem Op.bool (ht : P.underlying t = some .bool) : Op P t Kd.bool (fun _ => True) := by
  intro H enc w base spare held fuel cs x h
  obtain ⟨b, rfl, _⟩ := DataW.trod_bool ht h
  exact ⟨b, rfl, trivial⟩
theorem list_choose {α : Type} (Q : Nat → α → Prop) : ∀ n, (∀ j, j < n → ∃ y, Q j y) → ∃ L : List α, L.length = n ∧ ∀ j y, L[j]? = some y → Q j y
  | 0, _ => ⟨[], rfl, fun j y h => by simp at h⟩
  | n + 1, h => by
    obtain ⟨L, hl, hp⟩ := list_choose Q n (fun j hj => h j (by omega))
    obtain ⟨y, hy⟩ := h n (by omega)
    refine ⟨L ++ [y], by simp [hl], fun j z hz => ?_⟩
    by_cases hlt : j < L.length
    · rw [List.getElem?_append_left hlt] at hz
      exact hp j z hz
    · rw [List.getElem?_append_right (by omega)] at hz
      have hj : j - L.length = 0 := by
        have := (List.getElem?_eq_some_iff.1 hz).1
        simp at this
        omega
      rw [hj] at hz
      simp at hz
      subst hz
      have : j = n := by omega
      subst this
      exact hy
theorem Op.slice (ht : P.underlying t = some (.slice e)) (hc : P.cellsOf e = d.sz) (he : Op P e d wf) (q : Nat) : Op P t (Kd.slice q d) (fun l => l.length ≤ maxLen ∧ ∀ x ∈ l, wf x) := by
  intro H enc w base spare held fuel cs x h
  rcases open_slice ht h with ⟨rfl, _⟩ | ⟨a, len, cap, m, n, D, Pl, rfl, hb, hl, hm, hmm, rfl, hx⟩
  · exact ⟨[], ⟨none, 0, rfl, Nat.le_refl _, rfl, by simp, fun h => absurd h (by simp)⟩, by simp, by simp⟩
  · rw [hc] at hx
    have hle : len ≤ m := by rw [hmm]; split <;> omega
    obtain ⟨L, hL, hp⟩ := list_choose (fun j y => wf y ∧ ∃ c : List Value, c.length = d.sz ∧ d.K w y c ∧ ∀ i u, c[i]? = some u → w.cell? (a.add (j * d.sz + i)) = some u) len (fun j hj => by
      obtain ⟨cs', h1, h2⟩ := hx j (by omega)
      obtain ⟨y, hy, hw⟩ := he h2
      obtain ⟨_, hlen, hat⟩ := World.cells?_some h1
      refine ⟨y, hw, cs', hlen, hy, fun i u hu => ?_⟩
      have hi : i < d.sz := by
        have := (List.getElem?_eq_some_iff.1 hu).1
        omega
      rw [← Go.Deep.add_add, hat i hi, hu])
    refine ⟨L, ⟨some a, cap, by rw [hL], by rw [hL]; exact hl, rfl, ?_, fun _ => ⟨a, rfl, fun j p hj => (hp j p hj).2⟩⟩, by rw [hL]; omega, fun y hy => ?_⟩
    · rw [hL]
      unfold maxLen at hm
      omega
    · obtain ⟨j, hj, rfl⟩ := List.mem_iff_getElem.1 hy
      exact (hp j _ (List.getElem?_eq_getElem hj)).1
theorem OpT.one {f : Field} {o : Nat} (ho : f.offset = o) (hc : P.cellsOf f.type = d.sz) (he : Op P f.type d wf) : OpT P [f] o d wf := by
  intro H enc w base spare held n cs h hl
  obtain ⟨y, hy⟩ := h f (by simp)
  rw [ho, hc, List.take_of_length_le (by rw [List.length_drop]; omega)] at hy
  exact he hy
theorem OpT.cons {f : Field} {fs : List Field} {o : Nat} (ho : f.offset = o) (hc : P.cellsOf f.type = d.sz) (he : Op P f.type d wf) (hs : OpT P fs (o + d.sz) d2 wf2) : OpT P (f :: fs) o (Kd.pair d d2) (fun x => wf x.1 ∧ wf2 x.2) := by
  intro H enc w base spare held n cs h hl
  have hl' : cs.length = o + (d.sz + d2.sz) := hl
  obtain ⟨y, hy⟩ := h f (by simp)
  rw [ho, hc] at hy
  obtain ⟨a, ha, hwa⟩ := he hy
  obtain ⟨b, hb, hwb⟩ := hs (fun g hg => h g (by simp [hg])) (by omega)
  refine ⟨(a, b), ⟨_, _, ?_, ha, hb⟩, hwa, hwb⟩
  rw [← List.drop_drop, List.take_append_drop]
theorem Op.struct {fs : Array Field} (ht : P.underlying t = some (.struct fs)) (hc : P.cellsOf t = d.sz) (hs : OpT P fs.toList 0 d wf) : Op P t d wf := by
  intro H enc w base spare held fuel cs x h
  obtain ⟨xs, n, _, _, hlen, hxl, hf⟩ := DataW.trod_struct ht h
  have := hs (enc := enc) (w := w) (base := base) (spare := spare) (held := held) (n := n) (cs := cs) (fun f hfm => by
    obtain ⟨i, hi, rfl⟩ := List.mem_iff_getElem.1 hfm
    have hi' : i < fs.size := by simpa using hi
    have h1 := hf i _ (Array.getElem?_eq_getElem hi')
    refine ⟨xs[i]'(by omega), ?_⟩
    rw [Array.getElem_toList, h1]
    exact List.getElem?_eq_getElem _) (by rw [hlen, hc]; omega)
  simpa using this
theorem Op.iso (h : Op P t d wf) (f : β → α) (g : α → β) (hfg : ∀ a, f (g a) = a) : Op P t (Kd.iso d f) (fun b => wf (f b)) := by
  intro H enc w base spare held fuel cs x hx
  obtain ⟨a, ha, hw⟩ := h hx
  exact ⟨g a, by show d.K w (f (g a)) cs; rw [hfg]; exact ha, by show wf (f (g a)); rw [hfg]; exact hw⟩
/-- A slice that came in. -/
theorem Op.arg_slice {q : Nat} {wf' : List α → Prop} (h : Op P t (Kd.slice q d) wf') {H : Type} {enc : TypeId × Value → H} {w : World} {base : Nat} {spare : Nat → Bool} {held : Bool} {a : Option Addr} {len cap : Nat} {dd : DataW H} {ps : List MemPlace} (ht : DataW.Trod enc P w base spare held t (.slice a len cap) dd ps) :
    ∃ l : List α, l.length = len ∧ len ≤ cap ∧ Kd.C d w a len l ∧ wf' l := by
  obtain ⟨fuel, hf⟩ := ht
  obtain ⟨l, ⟨A, c, he, hl, hC⟩, hw⟩ := h hf
  have he' : [Value.slice a len cap] = [Value.slice A l.length c] := by simpa [Value.cells] using he
  simp only [List.cons.injEq, Value.slice.injEq, and_true] at he'
  obtain ⟨rfl, rfl, rfl⟩ := he'
  exact ⟨l, rfl, hl, hC, hw⟩
/-- A struct that came in, by value. -/
theorem Op.arg_agg (h : Op P t d wf) {H : Type} {enc : TypeId × Value → H} {w : World} {base : Nat} {spare : Nat → Bool} {held : Bool} {cs : Array Value} {dd : DataW H} {ps : List MemPlace} (ht : DataW.Trod enc P w base spare held t (.agg cs) dd ps) :
    ∃ a : α, d.K w a cs.toList ∧ wf a := by
  obtain ⟨fuel, hf⟩ := ht
  exact h hf
end
end Go.Proofs.Ythgjhdcifdfhoaa.Op
