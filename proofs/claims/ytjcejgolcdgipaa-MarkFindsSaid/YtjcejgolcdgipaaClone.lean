/- slices.Clone at bytes and at whole numbers of 32 digits: whatever cells the row has. -/
import Derived.Test.YtjcejgolcdgipaaA
import Derived.Test.YtjcejgolcdgipaaWMore
namespace Go.Proofs.Ytjcejgolcdgipaa
open Go.RowKit
theorem Try.info_u32 : (Try.prog.info? 28).map (fun i => (i.zero, i.size, i.bytes)) = some (some (.int .u32 0), 1, 4) := by kernel_rfl
theorem eqNilW (w : World) (a : Option Addr) (n c : Nat) : (binOp .eql 44 (.slice a n c) (.slice none 0 0)).run Try.prog w = .ok (.bool a.isNone) w := Lib.run_eql_slice_nil (P := Try.prog) w 44 28 a n c 0 0 Try.underlying44
set_option maxRecDepth 100000 in
theorem CloneB_gen {w : World} {v : Value} {xs : List Value} (h : Sl w v xs) (h1 : ∀ u ∈ xs, u.oneCell' = true) (hl : xs.length ≤ 140737488351232) :
    Calls Try.prog 110 #[v] w fun e w' => ∃ v', e = .returned v' ∧ w'.ownsRow w.heap.size 5 1 v' xs.length xs ∧ Kp (fun _ => True) w w' := by
  obtain ⟨i0, hi, hz0, hz1, hz2⟩ := info_parts Try.info_u8
  have hen := eqNilB
  obtain ⟨A, cap, rfl⟩ := h.form
  rcases A with _ | ad
  · have hq : xs = [] := by
      rcases h with ⟨h0, _⟩ | ⟨_, g, off, c, he, _⟩
      · exact h0
      · cases he
    subst hq
    go_enter Try.func110, Try.ntmps110
    go_wp2
    go_ret
    exact ⟨.slice none 0 0, rfl, World.ownsRow_nil _ _ _ _, Kp.refl _ _⟩
  · go_enter Try.func110, Try.ntmps110
    go_wp2_with (at_builtin; refine wpList_apps rfl _ _ 38 rfl w.heap.size 5 i0 (.int .u8 0) 1 Try.underlying38 hi hz0 hz1 hz2 rfl (.slice (some ⟨w.heap.size, 0, none⟩) 0 0) 0 [] rfl (World.ownsRow_made w #[] 0 (Nat.le_refl _) (Nat.zero_le _) rfl) _ xs rfl (h.alloc _) h1 (by omega) (by decide) (by simp) ?_; intro v2 w2 ho2 hg2 _)
    go_ret
    refine ⟨_, rfl, ?_, (((Kp.refl _ _).alloc _).grown hg2 (fun k _ hlt e => by simp [Value.ownBlock] at e; omega))⟩
    simpa using ho2
set_option maxRecDepth 100000 in
theorem CloneW_gen {w : World} {v : Value} {xs : List Value} (h : Sl w v xs) (h1 : ∀ u ∈ xs, u.oneCell' = true) (hl : xs.length ≤ 35184372087808) :
    Calls Try.prog 121 #[v] w fun e w' => ∃ v', e = .returned v' ∧ w'.ownsRow w.heap.size 28 1 v' xs.length xs ∧ Kp (fun _ => True) w w' := by
  obtain ⟨i0, hi, hz0, hz1, hz2⟩ := info_parts Try.info_u32
  have hen := eqNilW
  obtain ⟨A, cap, rfl⟩ := h.form
  rcases A with _ | ad
  · have hq : xs = [] := by
      rcases h with ⟨h0, _⟩ | ⟨_, g, off, c, he, _⟩
      · exact h0
      · cases he
    subst hq
    go_enter Try.func121, Try.ntmps121
    go_wp2
    go_ret
    exact ⟨.slice none 0 0, rfl, World.ownsRow_nil _ _ _ _, Kp.refl _ _⟩
  · go_enter Try.func121, Try.ntmps121
    go_wp2_with (at_builtin; refine wpList_apps rfl _ _ 44 rfl w.heap.size 28 i0 (.int .u32 0) 4 Try.underlying44 hi hz0 hz1 hz2 rfl (.slice (some ⟨w.heap.size, 0, none⟩) 0 0) 0 [] rfl (World.ownsRow_made w #[] 0 (Nat.le_refl _) (Nat.zero_le _) rfl) _ xs rfl (h.alloc _) h1 (by omega) (by decide) (by simp) ?_; intro v2 w2 ho2 hg2 _)
    go_ret
    refine ⟨_, rfl, ?_, (((Kp.refl _ _).alloc _).grown hg2 (fun k _ hlt e => by simp [Value.ownBlock] at e; omega))⟩
    simpa using ho2
end Go.Proofs.Ytjcejgolcdgipaa
namespace Go.Proofs.Ytjcejgolcdgipaa
open Go.RowKit Go.Proofs.YtjcejgolcdgipaaW.PrintWords Go.Proofs.YtjcejgolcdgipaaW.PrintLast Go.Proofs.YtjcejgolcdgipaaW.PrintMore
/-- A slice of scalars that is read, as the hand walks have it. -/
theorem sl_of_scalar {α : Type} {enc : α → Value} {h1 : ∀ x, (enc x).oneCell' = true} {w : World} {A : Option Addr} {l : List α} {c : Nat} (h : Kd.C (Kd.scalar enc h1) w A l.length l) (hc : l.length ≤ c) : Sl w (.slice A l.length c) (l.map enc) := by
  obtain ⟨_, _, hn⟩ := h
  rcases List.eq_nil_or_concat l with rfl | ⟨l', x', rfl⟩
  · exact .inl ⟨rfl, _, _, rfl⟩
  · rw [List.concat_eq_append] at *
    generalize hl : l' ++ [x'] = l at *
    have hpos : 0 < l.length := by rw [← hl]; simp
    obtain ⟨ad, rfl, hcell⟩ := hn hpos
    have hat : ∀ j u, l[j]? = some u → w.cell? (ad.add j) = some (enc u) := by
      intro j u hu
      obtain ⟨cs, _, hK, hcc⟩ := hcell j u hu
      have hK' : cs = [enc u] := hK
      subst hK'
      have := hcc 0 _ rfl
      rwa [show j * (Kd.scalar enc h1).sz + 0 = j from Nat.mul_one j] at this
    have h0 := hat 0 l[0] (List.getElem?_eq_getElem hpos)
    obtain ⟨b, off, spot⟩ := ad
    have hspot : spot = none := by simpa [Addr.add] using World.cell?_spot h0
    subst hspot
    have hb : b < w.heap.size := World.block_lt_of_cell? w _ h0
    refine .inr ⟨fun e => by rw [List.map_eq_nil_iff] at e; rw [e] at hpos; simp at hpos, b, off, c, by rw [List.length_map], by rw [List.length_map]; exact hc, hb, fun j u hu => ?_⟩
    rw [List.getElem?_map] at hu
    obtain ⟨x, hx, rfl⟩ := Option.map_eq_some_iff.1 hu
    have := hat j x hx
    rwa [Addr.add_lit] at this
def clone_b.f (l0 : List Int) : Option (List Int) := if l0.length ≤ 140737488351232 then some l0 else none
theorem clone_b.calls (A0 : Option Addr) (c0 : Nat) (l0 : List Int) (r : List Int) (w : World) (hr0 : Kd.C (Kd.int .u8) w A0 l0.length l0) (hc0 : l0.length ≤ c0) (h : clone_b.f l0 = some r) :
    Calls Try.prog 110 #[.slice A0 l0.length c0] w fun e w' => ∃ v0_ : Value, e = .returned (v0_) ∧ Kd.R (Kd.int .u8) 5 w' w.heap.size (fun _ => True) v0_ r ∧ Below w.heap.size w w' := by
  unfold clone_b.f at h
  split at h
  · rename_i hl
    injection h with h
    subst h
    refine (CloneB_gen (sl_of_scalar hr0 hc0) (fun u hu => ?_) (by rw [List.length_map]; exact hl)).mono ?_
    · obtain ⟨x, _, rfl⟩ := List.mem_map.1 hu
      rfl
    rintro e w' ⟨v, rfl, ho, hk⟩
    rw [List.length_map] at ho
    exact ⟨v, rfl, Kd.R_of_own ho (fun _ _ => trivial), hk.below⟩
  · cases h
def clone_w.f (l0 : List Int) : Option (List Int) := if l0.length ≤ 35184372087808 then some l0 else none
theorem clone_w.calls (A0 : Option Addr) (c0 : Nat) (l0 : List Int) (r : List Int) (w : World) (hr0 : Kd.C (Kd.int .u32) w A0 l0.length l0) (hc0 : l0.length ≤ c0) (h : clone_w.f l0 = some r) :
    Calls Try.prog 121 #[.slice A0 l0.length c0] w fun e w' => ∃ v0_ : Value, e = .returned (v0_) ∧ Kd.R (Kd.int .u32) 28 w' w.heap.size (fun _ => True) v0_ r ∧ Below w.heap.size w w' := by
  unfold clone_w.f at h
  split at h
  · rename_i hl
    injection h with h
    subst h
    refine (CloneW_gen (sl_of_scalar hr0 hc0) (fun u hu => ?_) (by rw [List.length_map]; exact hl)).mono ?_
    · obtain ⟨x, _, rfl⟩ := List.mem_map.1 hu
      rfl
    rintro e w' ⟨v, rfl, ho, hk⟩
    rw [List.length_map] at ho
    exact ⟨v, rfl, Kd.R_of_own ho (fun _ _ => trivial), hk.below⟩
  · cases h
end Go.Proofs.Ytjcejgolcdgipaa
