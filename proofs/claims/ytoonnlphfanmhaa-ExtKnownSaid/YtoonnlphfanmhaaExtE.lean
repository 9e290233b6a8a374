/- Rows that may be spoilt, all of them; elements compared. -/
import Derived.Test.YtoonnlphfanmhaaExtA
namespace Go.Proofs.Ytoonnlphfanmhaa
open Go.RowKit

/-- A row of bytes of the call's own, whatever it holds. -/
def Rw (base : Nat) (w : World) (v : Value) (n : Nat) : Prop := ∃ xs, w.ownsRow base 5 1 v n xs
theorem Rw.of {base n : Nat} {w : World} {v : Value} {xs : List Value} (h : w.ownsRow base 5 1 v n xs) : Rw base w v n := ⟨xs, h⟩
theorem Rw.kp {base n : Nat} {w w' : World} {v : Value} (h : Rw base w v n) (hk : Kp (fun _ => True) w w') : Rw base w' v n := by
  obtain ⟨xs, h⟩ := h
  exact ⟨xs, own_kp h hk (fun _ _ _ => trivial)⟩
theorem Rw.set {base n : Nat} {w : World} {v : Value} (h : Rw base w v n) (g k : Nat) (u : Value) : Rw base (w.setCell ⟨g, k, none⟩ u) v n := by
  obtain ⟨xs, h1, h2⟩ := h
  rcases h2 with h0 | ⟨g', cap, cur, rfl, hb, hg, hn, hm, hs, ht⟩
  · exact ⟨xs, h1, .inl h0⟩
  · by_cases hgg : g' = g
    · subst hgg
      refine ⟨(cur.setIfInBounds k u).toList.take (n * 1), ?_, .inr ⟨g', cap, cur.setIfInBounds k u, rfl, hb, Blk.set (t := 5) hg k u, hn, hm, by simpa using hs, rfl⟩⟩
      simp
      omega
    · exact ⟨xs, h1, .inr ⟨g', cap, cur, rfl, hb, Blk.far (t := 5) hg hgg u, hn, hm, hs, ht⟩⟩

set_option maxRecDepth 100000 in
theorem Spoil_rw {w : World} {v : Value} {base n : Nat} (h : Rw base w v n) (hn : n ≤ 140737488351232) :
    Calls Try.prog 38 #[v] w fun e w' => e = .returned (.tuple #[]) ∧ Kp (fun k => some k ≠ v.ownBlock) w w' ∧ Hd (∀ v2 n2, Rw base w v2 n2 → Rw base w' v2 n2) := by
  obtain ⟨xs, h⟩ := h
  rcases Nat.eq_zero_or_pos n with h0 | h0
  · subst h0
    obtain ⟨A, cap, rfl⟩ : ∃ A cap, v = .slice A 0 cap := by
      rcases h.2 with ⟨rfl, _⟩ | ⟨g, cap, cur, rfl, _⟩
      · exact ⟨_, _, rfl⟩
      · exact ⟨_, _, rfl⟩
    go_enter Try.func38, Try.ntmps38
    go_wp2
    refine wp_loop_rounds 1 ?_
    rw [rounds_succ]
    go_wp2
    go_end0
    exact ⟨rfl, Kp.refl _ _, fun _ _ h => h⟩
  · obtain ⟨g, cap, rfl, _, _⟩ := h.form h0
    go_enter Try.func38, Try.ntmps38
    go_wp2
    go_loopw [2] (fun i wr => ∃ (k : Nat) (ys : List Value), k ≤ n ∧ i = .int .i64 k ∧ wr.ownsRow base 5 1 (.slice (some ⟨g, 0, none⟩) n cap) n ys ∧ Kp (fun k => some k ≠ some g) w wr ∧ Hd (∀ v2 n2, Rw base w v2 n2 → Rw base wr v2 n2)) (fun i _ => n - (intOf i).toNat)
    case atStart => exact ⟨0, xs, Nat.zero_le _, rfl, h, Kp.refl _ _, fun _ _ h => h⟩
    case round =>
      obtain ⟨k, ys, hk, rfl, ho, hK, hW⟩ := hrel
      by_cases hlt : k < n
      · have hyl : k < ys.length := by have := ho.1; omega
        have hc := ho.cellAt k (by omega)
        rw [List.getElem?_eq_getElem hyl] at hc
        have hf := ho.frozenAt k
        have hs := ho.stored k (.int .u8 165)
        generalize ys[k] = y at *
        go_wp2
        go_roundw
        case rel => exact ⟨k + 1, _, by omega, by go_num, hs.1, hK.next (Kp.of_grown hs.2 (fun _ h _ => h)) (fun _ h _ => h), fun v2 n2 h2 => (hW.out v2 n2 h2).set _ _ _⟩
        case measure => simp [intOf]; omega
      · go_wp2
        go_end0
        exact ⟨rfl, hK, hW⟩

theorem SameBytes_is {w : World} {v1 v2 : Value} {a b : List Nat} (h1 : Sl w v1 (bv a)) (h2 : Sl w v2 (bv b)) (hl : a.length ≤ 140737488351232) (r : Bool) (hr : decide (a = b) = r) :
    Calls Try.prog 39 #[v1, v2] w fun e w' => e = .returned (.bool r) ∧ ∃ n, w' = w.drewN n := by
  subst hr
  exact SameBytes_any h1 h2 hl

set_option maxHeartbeats 1000000 in
set_option maxRecDepth 100000 in
theorem l3same_any {w : World} {v1 v2 : Value} {E1 E2 : List (Nat × List Nat)} (h1 : Els w v1 E1) (h2 : Els w v2 E2) (hl : ∀ i (h : i < E1.length), E1[i].2.length ≤ 1000000) (hn : E1.length ≤ 1000000) :
    Calls Try.prog 37 #[v1, v2] w fun e w' => e = .returned (.bool (decide (E1 = E2))) ∧ ∃ n, w' = w.drewN n := by
  obtain ⟨A, cap, rfl⟩ := h1.form
  obtain ⟨B, cap2, rfl⟩ := h2.form
  by_cases hne : E1.length = E2.length
  · have hq : ((E1.length : Int) != (E2.length : Int)) = false := by simp; omega
    go_enter Try.func37, Try.ntmps37
    go_wp2
    go_loopw [5] (fun i wr => ∃ k m : Nat, k ≤ E1.length ∧ i = .int .i64 k ∧ E1.take k = E2.take k ∧ wr = w.drewN m) (fun i _ => E1.length - (intOf i).toNat)
    case atStart => exact ⟨0, 0, Nat.zero_le _, rfl, rfl, rfl⟩
    case round =>
      obtain ⟨k, m, hk, rfl, ht, rfl⟩ := hrel
      have HT := hd ht
      clear ht
      by_cases hlt : k < E1.length
      · obtain ⟨g, off, C1, k1, rfl, _, c1, e1, s1, _, b1⟩ := h1.at_ k hlt
        obtain ⟨g', off', C2, k2, rfl, _, c2, e2, s2, _, b2⟩ := h2.at_ k (by omega)
        have hl1 := hl k hlt
        have hs1 : E1.take (k + 1) = E1.take k ++ [E1[k]] := by rw [List.take_succ_eq_append_getElem hlt]
        have hs2 : E2.take (k + 1) = E2.take k ++ [E2[k]'(by omega)] := by rw [List.take_succ_eq_append_getElem (by omega)]
        have hne' : E1[k] ≠ E2[k]'(by omega) → E1 ≠ E2 := fun h e => h (by subst e; rfl)
        generalize E1[k] = x at *
        generalize E2[k]'(by omega) = y at *
        obtain ⟨x1, x2⟩ := x
        obtain ⟨y1, y2⟩ := y
        dsimp only at *
        have hkb : k < E2.length := by omega
        have HN := hd hne
        have HS := hd (And.intro hs1 hs2)
        have HN' := hd hne'
        have HL := hd hl1
        have HK := hd hlt
        clear hs1 hs2 hne' hne hl hl1
        by_cases hxy : x1 = y1
        · subst hxy
          have hq1 : ((x1 : Int) != (x1 : Int)) = false := by simp
          by_cases hd2 : x2 = y2
          · subst hd2
            go_wp2
            go_quiet (first | (go_at_call 39; refine (SameBytes_is (s1.drewN _) (s2.drewN _) (Nat.le_trans HL.out (by decide)) true (by simp)).mono ?_; rintro e w5 ⟨rfl, n5, rfl⟩; exact ⟨rfl, _, by rw [World.drewN_drewN, Nat.add_assoc]⟩))
            go_wp2
            go_roundw
            case rel => exact ⟨k + 1, _, by have := HK.out; omega, by go_num, by rw [HS.out.1, HS.out.2, HT.out], rfl⟩
            case measure => have := HK.out; simp [intOf]; omega
          · have hab : decide (E1 = E2) = false := by simp; exact HN'.out (by simp [hd2])
            have HX := hd hab
            have HD2 : Hd (decide (x2 = y2) = false) := by show _ = _; simpa using hd2
            clear hd2 hab
            go_wp2
            go_quiet (first | (go_at_call 39; refine (SameBytes_is (s1.drewN _) (s2.drewN _) (Nat.le_trans HL.out (by decide)) false HD2.out).mono ?_; rintro e w5 ⟨rfl, n5, rfl⟩; exact ⟨rfl, _, by rw [World.drewN_drewN, Nat.add_assoc]⟩))
            go_wp2
            go_ret
            exact ⟨ret_bool HX.out.symm, _, World.drewN_drewN _ _ _⟩
        · have hq2 : ((x1 : Int) != (y1 : Int)) = true := by simp; omega
          have hab : decide (E1 = E2) = false := by simp; exact HN'.out (by simp [hxy])
          have HX := hd hab
          clear hxy hab
          go_wp2
          go_quiet (fail)
          go_wp2
          go_ret
          exact ⟨ret_bool HX.out.symm, _, World.drewN_drewN _ _ _⟩
      · obtain rfl : k = E1.length := by omega
        have hab : decide (E1 = E2) = true := by
          have := HT.out
          rw [List.take_of_length_le (Nat.le_refl _), List.take_of_length_le (by omega)] at this
          simpa using this
        have HX := hd hab
        clear hab
        go_wp2
        go_ret
        exact ⟨ret_bool HX.out.symm, _, rfl⟩
  · have hab : decide (E1 = E2) = false := by simp; intro e; exact hne (by rw [e])
    have hq : ((E1.length : Int) != (E2.length : Int)) = true := by simp; omega
    rw [hab]
    clear hab hne
    go_enter Try.func37, Try.ntmps37
    go_wp2
    go_ret
    exact ⟨rfl, 0, rfl⟩
end Go.Proofs.Ytoonnlphfanmhaa
