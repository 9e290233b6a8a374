/- IngressNone: the law's call. -/
import Derived.Test.YtgfcakdpfedokaaN10
namespace Go.Proofs.Ytgfcakdpfedokaa
open Go.RowKit Rn
set_option linter.unusedVariables false
set_option linter.unusedSimpArgs false
noncomputable def rest12 : Code := match Try.f3.body with
  | some (.seq _ (.seq _ r)) => r
  | _ => .skip
noncomputable def tm12 : T AV := T.set (T.set (T.set T.nil 0 (some .unk)) 1 (some .unk)) 2 (some (.p 0 0))
noncomputable def S12 : St := ⟨H.set H.nil 0 (some (.cells (List.replicate 11 .unk) 11)), 1, 0, 0⟩
set_option maxRecDepth 100000 in
theorem works12_says : says 100 5 = some true := by kernel_rfl
set_option maxRecDepth 100000 in
theorem rest12_says : restSays 100 54 rest12 Try.f3.results.toList tm12 S12 = some true := by kernel_rfl
theorem less12 {B B' : Nat} {a b : World} (h : Below B a b) (hl : B' ≤ B) : Below B' a b := ⟨h.os, h.tape, h.output, h.size, fun k hk => h.block k (Nat.lt_of_lt_of_le hk hl)⟩
set_option maxRecDepth 100000 in
theorem none12_any {w : World} {v0 v1 v2 v3 v4 v6 v7 v10 now : Value} {a5 a8 a9 : Option Addr} {n5 n8 n9 c5 c8 c9 : Nat} :
    Calls Try.prog 3 #[.agg #[v0, v1, v2, v3, v4, .slice a5 n5 c5, v6, v7, .slice a8 n8 c8, .slice a9 n9 c9, v10], now] w fun e w' => e = .returned (.bool true) ∧ Below w.heap.size w w' := by
  let cs : Array Value := #[v0, v1, v2, v3, v4, .slice a5 n5 c5, v6, v7, .slice a8 n8 c8, .slice a9 n9 c9, v10]
  have hb0 : Below w.heap.size w (w.alloc (.cells cs 27)) := (Below.refl _ _).alloc (Nat.le_refl _) _
  have hg0 : (w.alloc (.cells cs 27)).heap[w.heap.size]? = some (.cells cs 27 (0, 0)) := by
    show (w.heap.push _)[w.heap.size]? = _
    rw [Array.getElem?_push_size]
  have hsz : (w.alloc (.cells cs 27)).heap.size = w.heap.size + 1 := by simp
  go_enter Try.func3, Try.ntmps3
  change Code.wp _ (Code.seq _ (Code.seq _ rest12)) _ _ _
  go_wp2_with (first
    | (go_at_call 4; refine fewPacket_any.mono ?_; rintro e w1 ⟨⟨b, rfl⟩, hb1⟩)
    | (go_at_call 5; refine (says_calls works12_says _).mono ?_; rintro e w2 ⟨rfl, hb2⟩))
  rotate_left
  · have hB1 : Below w.heap.size w w1 := hb0.trans (less12 hb1 (by simp))
    have hblk : w1.heap[w.heap.size]? = some (.cells cs 27 (0, 0)) := (hb1.block _ (by simp)).trans hg0
    refine rest_wp (m := fun k => if k = 0 then some ⟨w.heap.size, 0, 0⟩ else none) rest12_says (by decide) ?_ (fun k hk => if_neg (Nat.ne_of_gt hk)) ⟨?_, ?_⟩ ?_ hB1 hB1.size
    · refine ⟨?_, rfl, ?_⟩
      rotate_left
      · have : marks tm12 = [] := by
          unfold marks tm12
          rw [T.get_set _ _ _ _ (by decide) (by decide), T.get_set _ _ _ _ (by decide) (by decide), T.get_set _ _ _ _ (by decide) (by decide), T.get_nil]
          rfl
        rw [this]
        rfl
      intro t v ht hv
      unfold tm12 at hv
      rw [T.get_set _ _ _ _ (by decide) (by omega), T.get_set _ _ _ _ (by decide) (by omega), T.get_set _ _ _ _ (by decide) (by omega), T.get_nil] at hv
      by_cases h2 : t = 2
      · subst h2
        rw [if_pos rfl] at hv
        injection hv with hv
        subst hv
        exact ⟨_, rfl, ⟨w.heap.size, 0, 0⟩, if_pos rfl, rfl⟩
      · rw [if_neg h2] at hv
        by_cases h1 : t = 1
        · subst h1
          rw [if_pos rfl] at hv
          injection hv with hv
          subst hv
          exact ⟨_, rfl, trivial⟩
        · rw [if_neg h1] at hv
          by_cases h0 : t = 0
          · subst h0
            rw [if_pos rfl] at hv
            injection hv with hv
            subst hv
            exact ⟨_, rfl, trivial⟩
          · rw [if_neg h0] at hv; cases hv
    · intro id o hid _ hgo
      have hgo : H.get (H.set H.nil 0 (some (AObj.cells (List.replicate 11 .unk) 11))) id = some o := hgo
      rw [H.get_set _ _ _ _ (by decide) hid, H.get_nil] at hgo
      by_cases h0 : id = 0
      · subst h0
        rw [if_pos rfl] at hgo
        injection hgo with hgo
        subst hgo
        exact ⟨⟨w.heap.size, 0, 0⟩, if_pos rfl, [], cs.toList, [], 27, by simpa using hblk, rfl, CRL_unks 11 _ rfl, by simp⟩
      · rw [if_neg h0] at hgo; cases hgo
    · intro id id' o o' L L' hid hid' _ _ h1 h2 _ _ hne
      have h1 : H.get (H.set H.nil 0 (some (AObj.cells (List.replicate 11 .unk) 11))) id = some o := h1
      have h2 : H.get (H.set H.nil 0 (some (AObj.cells (List.replicate 11 .unk) 11))) id' = some o' := h2
      rw [H.get_set _ _ _ _ (by decide) hid, H.get_nil] at h1
      rw [H.get_set _ _ _ _ (by decide) hid', H.get_nil] at h2
      by_cases h0 : id = 0
      · by_cases h0' : id' = 0
        · omega
        · rw [if_neg h0'] at h2; cases h2
      · rw [if_neg h0] at h1; cases h1
    · intro k L hk
      have hk : (if k = 0 then some (⟨w.heap.size, 0, 0⟩ : Rn.Loc) else none) = some L := hk
      by_cases h0 : k = 0
      · rw [if_pos h0] at hk; injection hk with hk; subst hk; exact Nat.le_refl _
      · rw [if_neg h0] at hk; cases hk
  · refine ⟨rfl, .bool true, ?_, rfl, (hb0.trans (less12 hb1 (by simp))).trans (less12 hb2 (Nat.le_trans (by simp) hb1.size))⟩
    simp [results, Try.results3]
end Go.Proofs.Ytgfcakdpfedokaa
