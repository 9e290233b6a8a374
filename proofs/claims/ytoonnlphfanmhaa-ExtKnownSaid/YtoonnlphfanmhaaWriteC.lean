/- The writers of package bits: Bytes, Pack; all methods at nothing. -/
import Derived.Test.YtoonnlphfanmhaaWriteB
namespace Go.Proofs.Ytoonnlphfanmhaa
open Go.RowKit

/-- The digits of bytes. -/
def bd (bs : List Nat) : List Nat := bs.flatMap fun b => ofn b 8
theorem bd_length (bs : List Nat) : (bd bs).length = 8 * bs.length := by
  induction bs with
  | nil => rfl
  | cons b bs ih =>
    have : bd (b :: bs) = ofn b 8 ++ bd bs := rfl
    rw [this, List.length_append, ih, ofn_length, List.length_cons]; omega
theorem bd_append (a b : List Nat) : bd (a ++ b) = bd a ++ bd b := by simp [bd]
theorem bd_single (b : Nat) : bd [b] = ofn b 8 := by simp [bd]

/-- A slice of slices of bytes. -/
def Sls (F : Nat → Prop) (w : World) (v : Value) (bss : List (List Nat)) : Prop :=
  ∃ vs : List Value, Sl w v vs ∧ (vs ≠ [] → ∀ g, v.ownBlock = some g → F g) ∧ vs.length = bss.length ∧ ∀ i (h : i < bss.length), Bts bss[i] ∧ ∃ A cap, vs[i]? = some (.slice A bss[i].length cap) ∧ Sl w (.slice A bss[i].length cap) (bv bss[i]) ∧ (bv bss[i] ≠ [] → ∀ g, (Value.slice A bss[i].length cap).ownBlock = some g → F g)
theorem Sls.kp {F : Nat → Prop} {w w' : World} {v : Value} {bss : List (List Nat)} (h : Sls F w v bss) (hk : Kp F w w') : Sls F w' v bss := by
  obtain ⟨vs, h1, h2, h3, h4⟩ := h
  refine ⟨vs, h1.kp hk (fun hne g hg _ => h2 hne g hg), h2, h3, fun i hi => ?_⟩
  obtain ⟨hb, A, cap, h5, h6, h7⟩ := h4 i hi
  exact ⟨hb, A, cap, h5, h6.kp hk (fun hne g hg _ => h7 hne g hg), h7⟩

set_option maxHeartbeats 1000000 in
set_option maxRecDepth 100000 in
theorem WBytes_any {F : Nat → Prop} {w : World} {p : Nat} {D : List Nat} (h : Wr F w p D) {v : Value} {bss : List (List Nat)} (hv : Sls F w v bss) (hF : ∀ k, F k → k < w.heap.size) (hl : D.length + 8 * bss.flatten.length ≤ 999999999900) (hn : bss.length ≤ 1000000000) :
    Calls Try.prog 28 #[.pointer (some ⟨p, 0, none⟩), v] w fun e w' => e = .returned (.pointer (some ⟨p, 0, none⟩)) ∧ Wr F w' p (D ++ bd bss.flatten) ∧ Kp F w w' := by
  have hv' := hv
  obtain ⟨vs, hs, hsF, hvl, hvi⟩ := hv'
  obtain ⟨A0, cap0, rfl⟩ := hs.form
  rw [hvl] at hv hs hsF ⊢
  have HV := hd hvl
  have HL := hd hl
  clear hvl hl hvi hs hsF
  go_enter Try.func28, Try.ntmps28
  go_wp2
  go_loopw [11] (fun i wr => ∃ k : Nat, k ≤ bss.length ∧ i = .int .i64 k ∧ Wr F wr p (D ++ bd (bss.take k).flatten) ∧ Kp F w wr) (fun i _ => bss.length - (intOf i).toNat)
  case atStart => exact ⟨0, Nat.zero_le _, rfl, by simpa [bd] using h, Kp.refl _ _⟩
  case round =>
    obtain ⟨k, hk, rfl, hW, hK⟩ := hrel
    obtain ⟨wo, rfl⟩ : ∃ wo : World, wo = wr := ⟨_, rfl⟩
    by_cases hlt : k < bss.length
    · obtain ⟨vs, hs, hsF, hvl, hvi⟩ := hv.kp hK
      obtain ⟨hbk, A, cap, hvk, hsk, hFk⟩ := hvi k hlt
      obtain ⟨g, off, rfl, _, hck⟩ := hs.at_ hvk
      have hbl : 8 * bss[k].length + (D ++ bd (bss.take k).flatten).length ≤ 999999999900 := by
        have e : bss.flatten = (bss.take k).flatten ++ bss[k] ++ (bss.drop (k + 1)).flatten := by
          conv => lhs; rw [← List.take_append_drop k bss]
          rw [List.flatten_append, List.drop_eq_getElem_cons hlt, List.flatten_cons, List.append_assoc]
        have := HL.out
        rw [e] at this
        simp only [List.length_append, bd_length] at this ⊢
        omega
      generalize hbk' : bss[k] = bk at *
      have HB := hd hbk'
      clear hbk' hvk hs hvi hvl hsF
      go_wp2_with fail
      go_loopw [17] (fun i wr => ∃ j : Nat, j ≤ bk.length ∧ i = .int .i64 j ∧ Wr F wr p (D ++ bd ((bss.take k).flatten ++ bk.take j)) ∧ Kp F wo wr) (fun i _ => bk.length - (intOf i).toNat)
      case atStart => exact ⟨0, Nat.zero_le _, rfl, by simpa using hW, Kp.refl _ _⟩
      case round =>
        obtain ⟨j, hj, rfl, hW2, hK2⟩ := hrel
        by_cases hjl : j < bk.length
        · obtain ⟨g2, off2, rfl, _, hck2⟩ := (hsk.kp hK2 (fun hne g hg _ => hFk hne g hg)).at_ (bv_getD bk j hjl)
          have hx := hbk.getD j
          have hlen : (D ++ bd ((bss.take k).flatten ++ bk.take j)).length ≤ 999999999900 := by
            simp only [List.length_append, bd_length] at hbl ⊢
            have := List.length_take_le j bk
            omega
          have hst : bk.take (j + 1) = bk.take j ++ [bk.getD j 0] := by rw [List.take_succ_eq_append_getElem hjl]; simp [hjl]
          generalize bk.getD j 0 = x at *
          have HS := hd hst
          clear hst
          go_wp2_with (go_at_call 16; refine (Put_any hW2 _ x rfl (by omega) _ 8 rfl (fun k hk => Nat.lt_of_lt_of_le (hF k hk) (Nat.le_trans hK.size hK2.size)) hlen).mono ?_; rintro e w' ⟨rfl, hW', hK'⟩)
          go_roundw
          case rel => exact ⟨j + 1, by omega, by go_num, by rw [HS.out, ← List.append_assoc, bd_append _ [x], bd_single, ← List.append_assoc]; exact hW', hK2.trans hK'⟩
          case measure => simp [intOf]; omega
        · obtain rfl : j = bk.length := by omega
          go_wp2
          go_roundw
          case rel => exact ⟨k + 1, by omega, by go_num, by rw [List.take_succ_eq_append_getElem hlt, List.flatten_append, HB.out]; simpa using hW2, hK.trans hK2⟩
          case measure => simp [intOf]; omega
    · obtain rfl : k = bss.length := by omega
      go_wp2
      go_ret
      refine ⟨rfl, ?_, hK⟩
      rwa [List.take_length] at hW

/-- Numbers as values. -/
def uv (xs : List Nat) : List Value := xs.map fun (n : Nat) => Value.int .u64 (n : Int)
theorem uv_length (xs : List Nat) : (uv xs).length = xs.length := by simp [uv]
theorem uv_getD (xs : List Nat) (j : Nat) (h : j < xs.length) : (uv xs)[j]? = some (.int .u64 (xs.getD j 0 : Nat)) := by simp [uv, h]
def U64s (xs : List Nat) : Prop := ∀ x ∈ xs, x < 2 ^ 64
theorem U64s.getD {xs : List Nat} (h : U64s xs) (j : Nat) : xs.getD j 0 < 2 ^ 64 := by
  by_cases hj : j < xs.length
  · simp [hj]; exact h _ (List.getElem_mem hj)
  · simp [Nat.not_lt.1 hj]
/-- The digits of numbers, k of each. -/
def nd (xs : List Nat) (k : Nat) : List Nat := xs.flatMap fun x => ofn x k
theorem nd_length (xs : List Nat) (k : Nat) : (nd xs k).length = k * xs.length := by
  induction xs with
  | nil => rfl
  | cons b bs ih =>
    have : nd (b :: bs) k = ofn b k ++ nd bs k := rfl
    rw [this, List.length_append, ih, ofn_length, List.length_cons, Nat.mul_succ]; omega
theorem nd_snoc (xs : List Nat) (x k : Nat) : nd (xs ++ [x]) k = nd xs k ++ ofn x k := by simp [nd]

set_option maxHeartbeats 400000 in
set_option maxRecDepth 100000 in
theorem Pack_any {w : World} {v : Value} {xs : List Nat} (h : Sl w v (uv xs)) (hx : U64s xs) (hn : xs.length ≤ 1000000000) (c : Int) :
    Calls Try.prog 63 #[.int .i64 c, v] w fun e w' => ∃ v', e = .returned v' ∧ w'.ownsRow w.heap.size 5 1 v' (pack (nd xs (pk c))).length (bv (pack (nd xs (pk c)))) ∧ Kp (fun _ => True) w w' := by
  obtain ⟨A, cap, rfl⟩ := h.form
  rw [uv_length] at h ⊢
  have hk64 := pk_le c
  go_enter Try.func63, Try.ntmps63
  go_wp2_with (go_at_call 15; refine (New_any _).mono ?_; rintro e w1 ⟨rfl, hW, hK⟩)
  go_loopw [11] (fun i wr => ∃ j : Nat, j ≤ xs.length ∧ i = .int .i64 j ∧ Wr (· < w.heap.size) wr w.heap.size (nd (xs.take j) (pk c)) ∧ Kp (· < w.heap.size) w wr) (fun i _ => xs.length - (intOf i).toNat)
  case atStart => exact ⟨0, Nat.zero_le _, rfl, hW, hK.mono fun _ _ _ => trivial⟩
  case round =>
    obtain ⟨j, hj, rfl, hW2, hK2⟩ := hrel
    by_cases hjl : j < xs.length
    · obtain ⟨g2, off2, rfl, _, hck⟩ := (h.low hK2).at_ (uv_getD xs j hjl)
      have hx2 := hx.getD j
      have hlen : (nd (xs.take j) (pk c)).length ≤ 999999999900 := by
        rw [nd_length]
        have h1 := List.length_take_le j xs
        have h2 := Nat.mul_le_mul hk64 h1
        omega
      have hst : xs.take (j + 1) = xs.take j ++ [xs.getD j 0] := by rw [List.take_succ_eq_append_getElem hjl]; simp [hjl]
      generalize xs.getD j 0 = x at *
      have HS := hd hst
      clear hst
      go_wp2_with (go_at_call 16; refine (Put_any hW2 _ x rfl hx2 _ _ rfl (fun k hk => Nat.lt_of_lt_of_le hk hK2.size) hlen).mono ?_; rintro e w' ⟨rfl, hW', hK'⟩)
      go_roundw
      case rel => exact ⟨j + 1, by omega, by go_num, by rw [HS.out, nd_snoc]; exact hW', hK2.trans hK'⟩
      case measure => simp [intOf]; omega
    · obtain rfl : j = xs.length := by omega
      rw [List.take_length] at hW2
      have hlen : (nd xs (pk c)).length ≤ 1000000000000 := by
        rw [nd_length]
        have h2 := Nat.mul_le_mul hk64 hn
        omega
      go_wp2_with (go_at_call 19; refine (Out_any hW2 hlen).mono ?_; rintro e w' ⟨v', rfl, ho, hk⟩)
      go_ret
      refine ⟨v', rfl, ⟨ho.1, ?_⟩, ?_⟩
      · rcases ho.2 with h0 | ⟨g, cap, cur, h1, h2, h3⟩
        · exact .inl h0
        · exact .inr ⟨g, cap, cur, h1, Nat.le_trans hK2.size h2, h3⟩
      · exact ((hK2.next hk (fun _ _ _ => trivial)).mono fun k _ hl => hl)

/-! ### At nothing -/
theorem left_nil (w : World) : Calls Try.prog 21 #[.pointer none] w fun e w' => e = .returned (.int .i64 0) ∧ w' = w := by
  go_enter Try.func21, Try.ntmps21
  go_wp2
  go_ret
  exact ⟨rfl, rfl⟩
theorem rerr_nil (w : World) : Calls Try.prog 22 #[.pointer none] w fun e w' => e = .returned (.int .i64 1) ∧ w' = w := by
  go_enter Try.func22, Try.ntmps22
  go_wp2
  go_ret
  exact ⟨rfl, rfl⟩
theorem fails_nil (n : Int) (w : World) : Calls Try.prog 66 #[.pointer none, .int .i64 n] w fun e w' => e = .returned (.bool true) ∧ w' = w := by
  go_enter Try.func66, Try.ntmps66
  go_wp2
  go_ret
  exact ⟨rfl, rfl⟩
theorem Take_nil (n : Int) (w : World) : Calls Try.prog 20 #[.pointer none, .int .i64 n] w fun e w' => e = .returned (.int .u64 0) ∧ w' = w := by
  by_cases h : 64 < n
  all_goals
    go_enter Try.func20, Try.ntmps20
    go_wp2_with (go_at_call 66; refine (fails_nil _ _).mono ?_; rintro e w' ⟨rfl, rfl⟩)
    go_ret
    exact ⟨rfl, rfl⟩
theorem RFlag_nil (w : World) : Calls Try.prog 23 #[.pointer none] w fun e w' => e = .returned (.bool false) ∧ w' = w := by
  go_enter Try.func23, Try.ntmps23
  go_wp2_with (go_at_call 20; refine (Take_nil _ _).mono ?_; rintro e w' ⟨rfl, rfl⟩)
  go_ret
  exact ⟨rfl, rfl⟩
theorem Skip_nil (n : Int) (w : World) : Calls Try.prog 25 #[.pointer none, .int .i64 n] w fun e w' => e = .returned (.tuple #[]) ∧ w' = w := by
  go_enter Try.func25, Try.ntmps25
  go_wp2_with (go_at_call 66; refine (fails_nil _ _).mono ?_; rintro e w' ⟨rfl, rfl⟩)
  go_end0
  exact ⟨rfl, rfl⟩
theorem Rest_nil (w : World) : Calls Try.prog 24 #[.pointer none] w fun e w' => e = .returned (.slice none 0 0) ∧ w' = w := by
  go_enter Try.func24, Try.ntmps24
  go_wp2
  go_ret
  exact ⟨rfl, rfl⟩
theorem RBytes_nil (n : Int) (w : World) : Calls Try.prog 26 #[.pointer none, .int .i64 n] w fun e w' => e = .returned (.slice none 0 0) ∧ w' = w := by
  rcases (by omega : n < -1 ∨ n = -1 ∨ n = 0 ∨ n = 1 ∨ 1 < n) with h | rfl | rfl | rfl | h
  all_goals
    go_enter Try.func26, Try.ntmps26
    go_wp2_with (first | (go_at_call 21; refine (left_nil _).mono ?_; rintro e w' ⟨rfl, rfl⟩) | (go_at_call 66; refine (fails_nil _ _).mono ?_; rintro e w' ⟨rfl, rfl⟩))
    go_ret
    exact ⟨rfl, rfl⟩
theorem Put_nil (a n : Int) (w : World) : Calls Try.prog 16 #[.pointer none, .int .u64 a, .int .i64 n] w fun e w' => e = .returned (.pointer none) ∧ w' = w := by
  go_enter Try.func16, Try.ntmps16
  go_wp2
  go_ret
  exact ⟨rfl, rfl⟩
theorem WFlag_nil (b : Bool) (w : World) : Calls Try.prog 27 #[.pointer none, .bool b] w fun e w' => e = .returned (.pointer none) ∧ w' = w := by
  cases b
  all_goals
    go_enter Try.func27, Try.ntmps27
    go_wp2_with (go_at_call 16; refine (Put_nil _ _ _).mono ?_; rintro e w' ⟨rfl, rfl⟩)
    go_ret
    exact ⟨rfl, rfl⟩
theorem WLen_nil (w : World) : Calls Try.prog 30 #[.pointer none] w fun e w' => e = .returned (.int .i64 0) ∧ w' = w := by
  go_enter Try.func30, Try.ntmps30
  go_wp2
  go_ret
  exact ⟨rfl, rfl⟩
theorem Out_nil (w : World) : Calls Try.prog 19 #[.pointer none] w fun e w' => e = .returned (.slice none 0 0) ∧ w' = w := by
  go_enter Try.func19, Try.ntmps19
  go_wp2
  go_ret
  exact ⟨rfl, rfl⟩
theorem Fill_nil (n : Int) (w : World) : Calls Try.prog 29 #[.pointer none, .int .i64 n] w fun e w' => e = .returned (.pointer none) ∧ w' = w := by
  go_enter Try.func29, Try.ntmps29
  go_wp2
  refine wp_loop_rounds 1 ?_
  rw [rounds_succ]
  go_wp2
  go_ret
  exact ⟨rfl, rfl⟩
set_option maxRecDepth 100000 in
theorem WBytes_nil {F : Nat → Prop} {w : World} {v : Value} {bss : List (List Nat)} (hv : Sls F w v bss) (hn : bss.length ≤ 1000000000) (hb : ∀ b ∈ bss, b.length ≤ 9223372036854775807) :
    Calls Try.prog 28 #[.pointer none, v] w fun e w' => e = .returned (.pointer none) ∧ w' = w := by
  obtain ⟨vs, hs, hsF, hvl, hvi⟩ := hv
  obtain ⟨A0, cap0, rfl⟩ := hs.form
  have HV := hd hvl
  rw [hvl] at hs ⊢
  clear hvl hsF
  go_enter Try.func28, Try.ntmps28
  go_wp2
  go_loop [11] (fun i => ∃ k : Nat, k ≤ bss.length ∧ i = .int .i64 k) (fun i => bss.length - (intOf i).toNat)
  case atStart => exact ⟨0, Nat.zero_le _, rfl⟩
  case round =>
    obtain ⟨k, hk, rfl⟩ := hrel
    by_cases hlt : k < bss.length
    · obtain ⟨hbk, A, cap, hvk, hsk, hFk⟩ := hvi k hlt
      obtain ⟨g, off, rfl, _, hck⟩ := hs.at_ hvk
      have hbl := hb _ (List.getElem_mem hlt)
      generalize bss[k] = bk at *
      clear hvk hs hvi
      go_wp2_with fail
      go_loop [17] (fun i => ∃ j : Nat, j ≤ bk.length ∧ i = .int .i64 j) (fun i => bk.length - (intOf i).toNat)
      case atStart => exact ⟨0, Nat.zero_le _, rfl⟩
      case round =>
        obtain ⟨j, hj, rfl⟩ := hrel
        by_cases hjl : j < bk.length
        · obtain ⟨g2, off2, rfl, _, hck2⟩ := hsk.at_ (bv_getD bk j hjl)
          have hx := hbk.getD j
          generalize bk.getD j 0 = x at *
          go_wp2_with (go_at_call 16; refine (Put_nil _ _ _).mono ?_; rintro e w' ⟨rfl, rfl⟩)
          go_round
          case rel => exact ⟨j + 1, by omega, by go_num⟩
          case measure => simp [intOf]; omega
        · obtain rfl : j = bk.length := by omega
          go_wp2
          go_round
          case rel => exact ⟨k + 1, by omega, by go_num⟩
          case measure => simp [intOf]; omega
    · obtain rfl : k = bss.length := by omega
      go_wp2
      go_ret
      exact ⟨rfl, rfl⟩
end Go.Proofs.Ytoonnlphfanmhaa
