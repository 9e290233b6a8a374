/- ReorderNone: the law's call. -/
import Derived.Test.YthgjhdcifdfhoaaN10
namespace Go.Proofs.Ythgjhdcifdfhoaa
open Go.RowKit Rn
set_option linter.unusedVariables false
set_option linter.unusedSimpArgs false
theorem less {B B' : Nat} {a b : World} (h : Below B a b) (hl : B' ≤ B) : Below B' a b := ⟨h.os, h.tape, h.output, h.size, fun k hk => h.block k (Nat.lt_of_lt_of_le hk hl)⟩
set_option maxRecDepth 100000 in
theorem none10_any {w : World} {d now v0 v1 v2 v3 v4 v6 v7 v10 : Value} {a5 a8 a9 : Option Addr} {n5 n8 n9 c5 c8 c9 : Nat} {n : Int} :
    Calls Try.prog 9 #[.agg #[d, .int .u64 n, now, v0, v1, v2, v3, v4, .slice a5 n5 c5, v6, v7, .slice a8 n8 c8, .slice a9 n9 c9, v10]] w fun e w' => e = .returned (.bool true) ∧ Below w.heap.size w w' := by
  let cs : Array Value := #[d, .int .u64 n, now, v0, v1, v2, v3, v4, .slice a5 n5 c5, v6, v7, .slice a8 n8 c8, .slice a9 n9 c9, v10]
  have hb0 : Below w.heap.size w ((w.alloc (.cells cs 80)).alloc (.cells cs 80)) := ((Below.refl _ _).alloc (Nat.le_refl _) _).alloc (by simp) _
  have hg : ((w.alloc (.cells cs 80)).alloc (.cells cs 80)).heap[w.heap.size + 1]? = some (.cells cs 80 (0, 0)) := by
    show ((w.heap.push _).push _)[w.heap.size + 1]? = _
    rw [show w.heap.size + 1 = (w.heap.push (Obj.cells cs 80)).size by simp, Array.getElem?_push_size]
  have hg0 : ((w.alloc (.cells cs 80)).alloc (.cells cs 80)).heap[w.heap.size]? = some (.cells cs 80 (0, 0)) := by
    show ((w.heap.push _).push _)[w.heap.size]? = _
    rw [Array.getElem?_push, if_neg (by simp), Array.getElem?_push_size]
  have hsz : ((w.alloc (.cells cs 80)).alloc (.cells cs 80)).heap.size = w.heap.size + 2 := by simp
  go_enter Try.func9, Try.ntmps9
  change Code.wp _ (Code.seq _ (Code.seq _ rest10)) _ _ _
  go_wp2_with (first
    | (go_at_call 33; refine (few10_any hg).mono ?_; rintro e w1 ⟨⟨b, rfl⟩, hb1⟩)
    | (go_at_call 34; refine (says_calls works10_says _).mono ?_; rintro e w2 ⟨rfl, hb2⟩))
  rotate_left
  · have hB1 : Below w.heap.size w w1 := hb0.trans (less hb1 (by omega))
    have hblk : w1.heap[w.heap.size]? = some (.cells cs 80 (0, 0)) := (hb1.block _ (by omega)).trans hg0
    refine rest_wp (m := fun k => if k = 0 then some ⟨w.heap.size, 0, 0⟩ else none) rest10_says (by decide) ?_ (fun k hk => if_neg (Nat.ne_of_gt hk)) ⟨?_, ?_⟩ ?_ hB1 hB1.size
    · refine ⟨?_, rfl, ?_⟩
      rotate_left
      · have : marks tm10 = [] := by
          unfold marks tm10
          rw [T.get_set _ _ _ _ (by decide) (by decide), T.get_set _ _ _ _ (by decide) (by decide), T.get_nil]
          rfl
        rw [this]
        rfl
      intro t v ht hv
      unfold tm10 at hv
      rw [T.get_set _ _ _ _ (by decide) (by omega), T.get_set _ _ _ _ (by decide) (by omega), T.get_nil] at hv
      by_cases h1 : t = 1
      · subst h1
        rw [if_pos rfl] at hv
        injection hv with hv
        subst hv
        exact ⟨_, rfl, ⟨w.heap.size, 0, 0⟩, if_pos rfl, rfl⟩
      · rw [if_neg h1] at hv
        by_cases h0 : t = 0
        · subst h0
          rw [if_pos rfl] at hv
          injection hv with hv
          subst hv
          exact ⟨_, rfl, trivial⟩
        · rw [if_neg h0] at hv; cases hv
    · intro id o hid _ hgo
      have hgo : H.get (H.set H.nil 0 (some (AObj.cells (List.replicate 14 .unk) 14))) id = some o := hgo
      rw [H.get_set _ _ _ _ (by decide) hid, H.get_nil] at hgo
      by_cases h0 : id = 0
      · subst h0
        rw [if_pos rfl] at hgo
        injection hgo with hgo
        subst hgo
        exact ⟨⟨w.heap.size, 0, 0⟩, if_pos rfl, [], cs.toList, [], 80, by simpa using hblk, rfl, CRL_unks 14 _ rfl, by simp⟩
      · rw [if_neg h0] at hgo; cases hgo
    · intro id id' o o' L L' hid hid' _ _ h1 h2 _ _ hne
      have h1 : H.get (H.set H.nil 0 (some (AObj.cells (List.replicate 14 .unk) 14))) id = some o := h1
      have h2 : H.get (H.set H.nil 0 (some (AObj.cells (List.replicate 14 .unk) 14))) id' = some o' := h2
      rw [H.get_set _ _ _ _ (by decide) hid, H.get_nil] at h1
      rw [H.get_set _ _ _ _ (by decide) hid', H.get_nil] at h2
      by_cases h0 : id = 0
      · by_cases h0' : id' = 0
        · omega
        · rw [if_neg h0'] at h2; cases h2
      · rw [if_neg h0] at h1; cases h1
    · intro k L hk
      have hk : (if k = 0 then some (⟨w.heap.size, 0, 0⟩ : Rn.Loc) else none) = some L := hk
      by_cases h0 : k = 0
      · rw [if_pos h0] at hk; injection hk with hk; subst hk; exact Nat.le_refl _
      · rw [if_neg h0] at hk; cases hk
  · refine ⟨rfl, .bool true, ?_, rfl, (hb0.trans (less hb1 (by omega))).trans (less hb2 (Nat.le_trans (by omega) hb1.size))⟩
    simp [results, Try.results9]
end Go.Proofs.Ythgjhdcifdfhoaa
