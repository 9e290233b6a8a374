/- What the statements share: Pick, SameBytes, Own, Spoil. -/
import Derived.Test.YtoonnlphfanmhaaWriteC
namespace Go.Proofs.Ytoonnlphfanmhaa
open Go.RowKit

/-- i brought from 0 up to n. -/
def pick (i : Int) (n : Nat) : Nat := ((i.tmod n + n) % n).toNat
theorem pick_lt (i : Int) (n : Nat) (h : 0 < n) : pick i n < n := by
  unfold pick
  have := Int.emod_lt_of_pos (i.tmod n + n) (b := (n : Int)) (by omega)
  have := Int.emod_nonneg (i.tmod n + n) (b := (n : Int)) (by omega)
  omega
theorem Pick_any (i : Int) (c : Int) (n : Nat) (hc : c = n) (h0 : 0 < n) (hn : n ≤ 1000000000) (w : World) :
    Calls Try.prog 17 #[.int .i64 i, .int .i64 c] w fun e w' => e = .returned (.int .i64 (pick i n)) ∧ w' = w := by
  subst hc
  have h1 : -(n : Int) < i.tmod n ∧ i.tmod n < n := by
    have := Int.tmod_lt_of_pos i (b := (n : Int)) (by omega)
    have h2 := Int.lt_tmod_of_pos i (b := (n : Int)) (by omega)
    omega
  obtain ⟨a, b⟩ := h1
  have hw : ((i.tmod n + n) % n : Int) = pick i n := by
    unfold pick
    have := Int.emod_nonneg (i.tmod n + n) (b := (n : Int)) (by omega)
    omega
  have HW := hd hw
  clear hw
  go_enter Try.func17, Try.ntmps17
  go_wp2
  go_ret
  exact ⟨ret_int HW.out, rfl⟩

set_option maxRecDepth 100000 in
theorem SameBytes_any {w : World} {v1 v2 : Value} {a b : List Nat} (h1 : Sl w v1 (bv a)) (h2 : Sl w v2 (bv b)) (hl : a.length ≤ 140737488351232) :
    Calls Try.prog 39 #[v1, v2] w fun e w' => e = .returned (.bool (decide (a = b))) ∧ ∃ n, w' = w.drewN n := by
  obtain ⟨A, cap, rfl⟩ := h1.form8
  obtain ⟨B, cap2, rfl⟩ := h2.form8
  by_cases hne : a.length = b.length
  · have hq : ((a.length : Int) != (b.length : Int)) = false := by simp; omega
    go_enter Try.func39, Try.ntmps39
    go_wp2
    go_loopw [5] (fun i wr => ∃ k m : Nat, k ≤ a.length ∧ i = .int .i64 k ∧ a.take k = b.take k ∧ wr = w.drewN m) (fun i _ => a.length - (intOf i).toNat)
    case atStart => exact ⟨0, 0, Nat.zero_le _, rfl, rfl, rfl⟩
    case round =>
      obtain ⟨k, m, hk, rfl, ht, rfl⟩ := hrel
      have HT := hd ht
      clear ht
      by_cases hlt : k < a.length
      · obtain ⟨g, off, rfl, _, c1⟩ := h1.at_ (bv_getD a k hlt)
        obtain ⟨g', off', rfl, _, c2⟩ := h2.at_ (bv_getD b k (by omega))
        have hs1 : a.take (k + 1) = a.take k ++ [a.getD k 0] := by rw [List.take_succ_eq_append_getElem hlt]; simp [hlt]
        have hs2 : b.take (k + 1) = b.take k ++ [b.getD k 0] := by rw [List.take_succ_eq_append_getElem (by omega)]; simp [show k < b.length by omega]
        have hne' : a.getD k 0 ≠ b.getD k 0 → a ≠ b := fun h e => h (by rw [e])
        generalize a.getD k 0 = x at *
        generalize b.getD k 0 = y at *
        have hkb : k < b.length := by omega
        have HN := hd hne
        clear hne
        have HS := hd (And.intro hs1 hs2)
        have HN' := hd hne'
        clear hs1 hs2 hne'
        by_cases hxy : x = y
        · subst hxy
          go_wp2
          go_quiet (fail)
          go_wp2
          go_roundw
          case rel => exact ⟨k + 1, _, by omega, by go_num, by rw [HS.out.1, HS.out.2, HT.out], rfl⟩
          case measure => simp [intOf]; omega
        · have hq2 : ((x : Int) != (y : Int)) = true := by simp; omega
          have hab : decide (a = b) = false := by simp; exact HN'.out hxy
          have HX := hd hab
          clear hxy hab
          go_wp2
          go_quiet (fail)
          go_wp2
          go_ret
          exact ⟨ret_bool HX.out.symm, _, World.drewN_drewN _ _ _⟩
      · obtain rfl : k = a.length := by omega
        have hab : decide (a = b) = true := by
          have := HT.out
          rw [List.take_of_length_le (Nat.le_refl _), List.take_of_length_le (by omega)] at this
          simpa using this
        have HX := hd hab
        clear hab
        go_wp2
        go_ret
        exact ⟨ret_bool HX.out.symm, _, rfl⟩
  · have hab : decide (a = b) = false := by simp; intro e; exact hne (by rw [e])
    have hq : ((a.length : Int) != (b.length : Int)) = true := by simp; omega
    rw [hab]
    clear hab hne
    go_enter Try.func39, Try.ntmps39
    go_wp2
    go_ret
    exact ⟨rfl, 0, rfl⟩

set_option maxRecDepth 100000 in
theorem Own_any {w : World} {v : Value} {bs : List Nat} (h : Sl w v (bv bs)) (hl : bs.length ≤ 140737488351232) :
    Calls Try.prog 34 #[v] w fun e w' => ∃ v', e = .returned v' ∧ w'.ownsRow w.heap.size 5 1 v' bs.length (bv bs) ∧ Kp (fun _ => True) w w' := by
  obtain ⟨i0, hi, hz0, hz1, hz2⟩ := info_parts Try.info_u8
  go_enter Try.func34, Try.ntmps34
  go_wp2_with (at_builtin; refine wpList_apps rfl _ _ 32 rfl w.heap.size 5 i0 (.int .u8 0) 1 Try.underlying32 hi hz0 hz1 hz2 rfl (.slice none 0 0) 0 [] rfl (World.ownsRow_nil _ _ _ _) _ (bv bs) rfl h (bv_oneCell bs) (by rw [bv_length]; omega) (by decide) (Nat.le_refl _) ?_; intro v2 w2 ho2 hg2 _)
  go_ret
  rw [bv_length] at ho2
  exact ⟨_, rfl, by simpa using ho2, Kp.of_grown hg2 (fun k _ _ e => by cases e)⟩

set_option maxRecDepth 100000 in
theorem Spoil_any {w : World} {v : Value} {base n : Nat} {xs : List Value} (h : w.ownsRow base 5 1 v n xs) (hn : n ≤ 140737488351232) :
    Calls Try.prog 38 #[v] w fun e w' => e = .returned (.tuple #[]) ∧ Kp (fun k => some k ≠ v.ownBlock) w w' := by
  rcases Nat.eq_zero_or_pos n with h0 | h0
  · subst h0
    obtain ⟨A, cap, rfl⟩ : ∃ A cap, v = .slice A 0 cap := by
      rcases h.2 with ⟨rfl, _⟩ | ⟨g, cap, cur, rfl, _⟩
      · exact ⟨_, _, rfl⟩
      · exact ⟨_, _, rfl⟩
    go_enter Try.func38, Try.ntmps38
    go_wp2
    refine wp_loop_rounds 1 ?_
    rw [rounds_succ]
    go_wp2
    go_end0
    exact ⟨rfl, Kp.refl _ _⟩
  · obtain ⟨g, cap, rfl, _, _⟩ := h.form h0
    go_enter Try.func38, Try.ntmps38
    go_wp2
    go_loopw [2] (fun i wr => ∃ (k : Nat) (ys : List Value), k ≤ n ∧ i = .int .i64 k ∧ wr.ownsRow base 5 1 (.slice (some ⟨g, 0, none⟩) n cap) n ys ∧ Kp (fun k => some k ≠ some g) w wr) (fun i _ => n - (intOf i).toNat)
    case atStart => exact ⟨0, xs, Nat.zero_le _, rfl, h, Kp.refl _ _⟩
    case round =>
      obtain ⟨k, ys, hk, rfl, ho, hK⟩ := hrel
      by_cases hlt : k < n
      · have hyl : k < ys.length := by have := ho.1; omega
        have hc := ho.cellAt k (by omega)
        rw [List.getElem?_eq_getElem hyl] at hc
        have hf := ho.frozenAt k
        have hs := ho.stored k (.int .u8 165)
        generalize ys[k] = y at *
        go_wp2
        go_roundw
        case rel => exact ⟨k + 1, _, by omega, by go_num, hs.1, hK.next (Kp.of_grown hs.2 (fun _ h _ => h)) (fun _ h _ => h)⟩
        case measure => simp [intOf]; omega
      · go_wp2
        go_end0
        exact ⟨rfl, hK⟩

/-- A slice that was just written out. -/
theorem Sl.lit (w : World) (t : TypeId) (xs : List Value) (n c : Nat) (hn : n = xs.length) (hc : c = xs.length) (_hm : xs.length ≤ maxLen) : Sl (w.alloc (.cells xs.toArray t)) (.slice (some ⟨w.heap.size, 0, none⟩) n c) xs := by
  subst hn hc
  by_cases hne : xs = []
  · subst hne
    exact .inl ⟨rfl, _, _, rfl⟩
  refine .inr ⟨hne, w.heap.size, 0, xs.length, rfl, Nat.le_refl _, by simp, fun j u hu => ?_⟩
  rw [cell_of_row _ _ _ _ _ _ (heap_alloc_new w _), Nat.zero_add]
  simpa using hu
theorem Kp.all {w w' : World} (h : Kp (· < w.heap.size) w w') : Kp (fun _ => True) w w' := h.mono fun _ _ hl => hl
theorem Kp.low {F : Nat → Prop} {w0 w w' : World} (h : Kp (· < w0.heap.size) w0 w) (k : Kp F w w') (hF : ∀ i, i < w0.heap.size → F i) : Kp (· < w0.heap.size) w0 w' := h.next k fun i hi _ => hF i hi
end Go.Proofs.Ytoonnlphfanmhaa
