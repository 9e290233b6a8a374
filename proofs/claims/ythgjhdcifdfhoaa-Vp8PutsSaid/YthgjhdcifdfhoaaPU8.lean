/- Texts of this session, one behind the other, what the row does not use left out: walks and laws over plain data. -/
import Derived.Test.YthgjhdcifdfhoaaPU7
import Derived.Deep.RegionLaw
import Derived.Deep.AppendLies
import Derived.Deep.RegionHeld3

namespace Go.Proofs.Ythgjhdcifdfhoaa.V5
open Go.RowKit Go.Proofs.Ythgjhdcifdfhoaa Go.Proofs.YthgjhdcifdfhoaaW.PrintWords
set_option linter.unusedVariables false
set_option linter.unusedSimpArgs false

/-- A row of the call's own, since world wA. -/
structure PS (wA : World) (B : Nat) (L : List Nat) (v : Value) (wc : World) : Prop where
  own : wc.ownsRow B 5 1 v L.length (bv L)
  kp : Kp (· < B) wA wc
  size : B ≤ wc.heap.size
theorem PS.drew {wA : World} {B : Nat} {L : List Nat} {v : Value} {wc : World} (h : PS wA B L v wc) : PS wA B L v wc.drew := ⟨h.own, h.kp.drew, h.size⟩
/-- A row that was just written out. -/
theorem PS.lit {wA w0 : World} {B : Nat} (hk : Kp (· < B) wA w0) (hB : B ≤ w0.heap.size) (L : List Nat) (hl : L.length ≤ 1000) (m : Nat) (hm : m = L.length) (cs : Array Value) (hcs : cs = (bv L).toArray) :
    PS wA B L (.slice (some ⟨w0.heap.size, 0, none⟩) m m) (w0.alloc (.cells cs 5)) := by
  subst hm hcs
  exact ⟨⟨by rw [bv_length, Nat.mul_one], .inr ⟨w0.heap.size, L.length, (bv L).toArray, rfl, hB, heap_alloc_new w0 _, Nat.le_refl _, by unfold maxLen; omega, by simp [bv_length], by rw [Nat.mul_one, ← bv_length L]; simp⟩⟩, hk.alloc _, by simp; omega⟩
end Go.Proofs.Ythgjhdcifdfhoaa.V5

namespace Go.Proofs.Ythgjhdcifdfhoaa.V5
open Go.RowKit Go.Proofs.Ythgjhdcifdfhoaa Go.Proofs.YthgjhdcifdfhoaaW.PrintWords
set_option linter.unusedVariables false
set_option linter.unusedSimpArgs false

/-- A block of a descriptor's cells. -/
def Row13 (w : World) (g : Nat) : Prop := ∃ old, w.heap[g]? = some (.cells old 27 (0, 0)) ∧ old.size = 13
theorem st13 (w : World) (g : Nat) (h : Row13 w g) (n st hp lg ht hi sy hk : Bool) (part pic tl ti ky : Int) :
    (storeVar 27 ⟨g, 0, none⟩ (.agg #[.bool n, .bool st, .int .u8 part, .bool hp, .bool lg, .int .u16 pic, .bool ht, .int .u8 tl, .bool hi, .int .u8 ti, .bool sy, .bool hk, .int .u8 ky])).run Try.prog w = .ok () (w.setRow g #[.bool n, .bool st, .int .u8 part, .bool hp, .bool lg, .int .u16 pic, .bool ht, .int .u8 tl, .bool hi, .int .u8 ti, .bool sy, .bool hk, .int .u8 ky]) := by
  obtain ⟨old, h1, h2⟩ := h
  exact run_storeVar_row w g 27 27 old _ h1 (by kernel_rfl) (by rw [h2]; rfl) (by simp [Value.oneCell'])
attribute [local go_sem high] st13
end Go.Proofs.Ythgjhdcifdfhoaa.V5
