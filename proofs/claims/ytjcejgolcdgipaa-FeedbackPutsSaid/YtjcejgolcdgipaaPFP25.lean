/- Texts of this session, one behind the other, what the row does not use left out: walks and laws over plain data. -/
import Derived.Test.YtjcejgolcdgipaaPFP20
import Derived.Test.YtjcejgolcdgipaaPFP21

namespace Go.Proofs.Ytjcejgolcdgipaa.K7
open Go.RowKit Go.Proofs.YtjcejgolcdgipaaW.PrintWords Go.Proofs.YtjcejgolcdgipaaW.PrintLast Go.Proofs.YtjcejgolcdgipaaW.PrintMore
set_option linter.unusedVariables false

theorem few_val (a b c : Int) (l3 : List S82) (l4 : List S134) (d e : Int) (l7 : List Int) : easellaw07_few.f a b c l3 l4 d e l7 = some (decide (l3.length ≤ 300 ∧ l4.length ≤ 300 ∧ l7.length ≤ 300)) := by
  unfold easellaw07_few.f
  by_cases h3 : l3.length ≤ 300
  · rw [if_pos (by omega)]
    by_cases h4 : l4.length ≤ 300
    · rw [if_pos (by omega)]
      congr 1
      exact decide_eq_decide.2 ⟨fun z => ⟨h3, h4, by omega⟩, fun z => by omega⟩
    · rw [if_neg (by omega), decide_eq_false (fun z => h4 z.2.1)]
  · rw [if_neg (by omega), decide_eq_false (fun z => h3 z.1)]
theorem inM_ok {s sd md e mn : Int} {lp : List S82} {lo : List S134} {ls : List Int} (h : OkM s sd md lp lo e mn ls) : OkPM (inM s sd md lp lo e mn ls) := by
  obtain ⟨h0, h1, h2, h3, h4, h5, h6, h7, h8⟩ := h
  refine ⟨?_, ?_, ?_, ?_, ?_⟩
  · show sd.toNat < _; omega
  · show md.toNat < _; omega
  · intro x hx
    obtain ⟨y, hy, rfl⟩ := List.mem_map.1 hx
    have := h3.1 y hy
    show y.f0.toNat < _ ∧ y.f1.toNat < _
    omega
  · intro x hx
    obtain ⟨y, hy, rfl⟩ := List.mem_map.1 hx
    have := h4.1 y hy
    show y.f0.toNat < _ ∧ y.f1.toNat < _
    omega
  · intro x hx
    obtain ⟨y, hy, rfl⟩ := List.mem_map.1 hx
    have := h7 y hy
    omega
/-- A row's argument: its numbers have their digits. -/
def OkA (s sd md : Int) (lp : List S82) (lo : List S134) (e mn : Int) (ls : List Int) : Prop :=
  (0 ≤ s ∧ s < 256) ∧ (0 ≤ sd ∧ sd < 4294967296) ∧ (0 ≤ md ∧ md < 4294967296) ∧ Ok2 lp ∧ OkO lo ∧ (0 ≤ e ∧ e < 256) ∧ (0 ≤ mn ∧ mn < 4294967296) ∧ OkS ls
instance (s sd md : Int) (lp : List S82) (lo : List S134) (e mn : Int) (ls : List Int) : Decidable (OkA s sd md lp lo e mn ls) := by unfold OkA; exact inferInstance
/-- What a row's arguments are. -/
def OkFR (a0 a1 : Int) (l : List Int) (a3 : Int) : Prop := (0 ≤ a0 ∧ a0 < 256) ∧ (0 ≤ a1 ∧ a1 < 256) ∧ (0 ≤ a3 ∧ a3 < 256) ∧ OkN 256 l
instance (a0 a1 : Int) (l : List Int) (a3 : Int) : Decidable (OkFR a0 a1 l a3) := by unfold OkFR; exact inferInstance
end Go.Proofs.Ytjcejgolcdgipaa.K7
