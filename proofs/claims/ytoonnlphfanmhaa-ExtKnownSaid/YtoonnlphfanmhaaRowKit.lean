/- From what a row's frame tells of an argument to the words of the walks. -/
import Derived.Test.YtoonnlphfanmhaaKit
import Derived.OpenShut
namespace Go.Proofs.Ytoonnlphfanmhaa
open Go.RowKit

/-- A slice of integers that came in: it is nil, or it leads to a row of 'cap' cells. -/
def IsRow (k : IntKind) (w : World) (a : Option Addr) (len cap : Nat) (zs : List Int) : Prop :=
  (a = none ∧ len = 0 ∧ cap = 0 ∧ zs = []) ∨
  ∃ x, a = some x ∧ len ≤ cap ∧ cap ≤ maxLen ∧ zs.length = cap ∧ (∀ i, i < zs.length → w.cell? (x.add i) = some (.int k (zs.getD i 0))) ∧ ∀ n ∈ zs, (Lit.int k n).wf = true

theorem row_sl {k : IntKind} {w : World} {a : Option Addr} {len cap : Nat} {zs : List Int} (h : IsRow k w a len cap zs) :
    ∃ xs : List Int, xs.length = len ∧ len ≤ maxLen ∧ (∀ n ∈ xs, (Lit.int k n).wf = true) ∧ Sl w (.slice a len cap) (xs.map (Value.int k)) := by
  rcases h with ⟨rfl, rfl, rfl, rfl⟩ | ⟨x, rfl, hl, hm, hz, hc, hw⟩
  · exact ⟨[], rfl, Nat.zero_le _, by simp, .inl ⟨rfl, _, _, rfl⟩⟩
  · have hlen : (zs.take len).length = len := by rw [List.length_take]; omega
    refine ⟨zs.take len, hlen, by omega, fun n hn => hw n (List.mem_of_mem_take hn), ?_⟩
    by_cases h0 : len = 0
    · subst h0
      exact .inl ⟨by simp, _, _, rfl⟩
    · obtain ⟨b, off, spot⟩ := x
      have hc0 := hc 0 (by omega)
      have hspot : spot = none := by simpa [Addr.add] using World.cell?_spot hc0
      subst hspot
      have hb : b < w.heap.size := World.block_lt_of_cell? w _ hc0
      refine .inr ⟨fun e => by have h1 := List.map_eq_nil_iff.1 e; rw [h1] at hlen; exact h0 hlen.symm, b, off, cap, by rw [List.length_map, hlen], by rw [List.length_map, hlen]; exact hl, hb, fun j u hu => ?_⟩
      rw [List.getElem?_map, List.getElem?_take] at hu
      have hj : j < len := by
        by_cases hj : j < len
        · exact hj
        · rw [if_neg hj] at hu; cases hu
      rw [if_pos hj] at hu
      have := hc j (by omega)
      rw [Addr.add_lit] at this
      rw [this]
      rw [List.getElem?_eq_getElem (by omega)] at hu
      simp only [Option.map_some, Option.some.injEq] at hu
      rw [← hu]
      simp [show j < zs.length by omega]
theorem row_nat {k : IntKind} {w : World} {a : Option Addr} {len cap : Nat} {zs : List Int} (h : IsRow k w a len cap zs) (B : Nat) (hk : ∀ n, (Lit.int k n).wf = true → 0 ≤ n ∧ n < B) :
    ∃ xs : List Nat, xs.length = len ∧ len ≤ maxLen ∧ (∀ n ∈ xs, n < B) ∧ Sl w (.slice a len cap) (xs.map fun (n : Nat) => Value.int k (n : Int)) := by
  obtain ⟨xs, hl, hm, hw, hs⟩ := row_sl h
  refine ⟨xs.map Int.toNat, by simpa using hl, hm, fun n hn => ?_, ?_⟩
  · obtain ⟨z, hz, rfl⟩ := List.mem_map.1 hn
    have := hk z (hw z hz)
    omega
  · rw [List.map_map]
    have : xs.map ((fun (n : Nat) => Value.int k (n : Int)) ∘ Int.toNat) = xs.map (Value.int k) := by
      apply List.map_congr_left
      intro z hz
      have := hk z (hw z hz)
      show Value.int k ((z.toNat : Nat) : Int) = Value.int k z
      rw [Int.toNat_of_nonneg this.1]
    rw [this]
    exact hs
theorem wf_u8 (n : Int) (h : (Lit.int .u8 n).wf = true) : 0 ≤ n ∧ n < (256 : Nat) := by
  simp [Lit.wf, IntKind.min, IntKind.max, IntKind.signed, IntKind.bits] at h; omega
theorem wf_u16 (n : Int) (h : (Lit.int .u16 n).wf = true) : 0 ≤ n ∧ n < (65536 : Nat) := by
  simp [Lit.wf, IntKind.min, IntKind.max, IntKind.signed, IntKind.bits] at h; omega
theorem wf_u32 (n : Int) (h : (Lit.int .u32 n).wf = true) : 0 ≤ n ∧ n < (4294967296 : Nat) := by
  simp [Lit.wf, IntKind.min, IntKind.max, IntKind.signed, IntKind.bits] at h; omega
theorem wf_u64 (n : Int) (h : (Lit.int .u64 n).wf = true) : 0 ≤ n ∧ n < (18446744073709551616 : Nat) := by
  simp [Lit.wf, IntKind.min, IntKind.max, IntKind.signed, IntKind.bits] at h; omega
theorem wf_i64 (n : Int) (h : (Lit.int .i64 n).wf = true) : -9223372036854775808 ≤ n ∧ n ≤ 9223372036854775807 := by
  simp [Lit.wf, IntKind.min, IntKind.max, IntKind.signed, IntKind.bits] at h; omega
theorem row_bytes {w : World} {a : Option Addr} {len cap : Nat} {zs : List Int} (h : IsRow .u8 w a len cap zs) :
    ∃ bs : List Nat, bs.length = len ∧ len ≤ maxLen ∧ Bts bs ∧ Sl w (.slice a len cap) (bv bs) := row_nat h 256 wf_u8
theorem row_u64s {w : World} {a : Option Addr} {len cap : Nat} {zs : List Int} (h : IsRow .u64 w a len cap zs) :
    ∃ xs : List Nat, xs.length = len ∧ len ≤ maxLen ∧ U64s xs ∧ Sl w (.slice a len cap) (uv xs) := by
  obtain ⟨xs, h1, h2, h3, h4⟩ := row_nat h 18446744073709551616 wf_u64
  exact ⟨xs, h1, h2, fun x hx => by have := h3 x hx; omega, h4⟩
theorem Kp.below {w w' : World} (h : Kp (fun _ => True) w w') : Below w.heap.size w w' := h.to_below (Nat.le_refl _) fun _ _ => trivial
end Go.Proofs.Ytoonnlphfanmhaa
