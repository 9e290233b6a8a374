/- The writers of package bits, the rest; slices.Clone of bytes; Of; the methods at nothing. -/
import Derived.Test.YtoonnlphfanmhaaWrite
import Derived.WalkSpells
import Derived.Deep.LoopGhost
namespace Go.Proofs.Ytoonnlphfanmhaa
open Go.RowKit

theorem eqNilB (w : World) (a : Option Addr) (n c : Nat) : (binOp .eql 32 (.slice a n c) (.slice none 0 0)).run Try.prog w = .ok (.bool a.isNone) w := Lib.run_eql_slice_nil (P := Try.prog) w 32 5 a n c 0 0 Try.underlying32

set_option maxRecDepth 100000 in
/-- slices.Clone at bytes. -/
theorem CloneB_any {w : World} {v : Value} {bs : List Nat} (h : Sl w v (bv bs)) (hl : bs.length ≤ 140737488351232) :
    Calls Try.prog 65 #[v] w fun e w' => ∃ v', e = .returned v' ∧ w'.ownsRow w.heap.size 5 1 v' bs.length (bv bs) ∧ Kp (fun _ => True) w w' := by
  obtain ⟨i0, hi, hz0, hz1, hz2⟩ := info_parts Try.info_u8
  have hen := eqNilB
  obtain ⟨A, cap, rfl⟩ := h.form8
  rcases A with _ | ad
  · have hq : bs = [] := by
      rcases h with ⟨h0, _⟩ | ⟨_, g, off, c, he, _⟩
      · exact List.map_eq_nil_iff.1 h0
      · cases he
    subst hq
    go_enter Try.func65, Try.ntmps65
    go_wp2
    go_ret
    exact ⟨.slice none 0 0, rfl, World.ownsRow_nil _ _ _ _, Kp.refl _ _⟩
  · go_enter Try.func65, Try.ntmps65
    go_wp2_with (at_builtin; refine wpList_apps rfl _ _ 32 rfl w.heap.size 5 i0 (.int .u8 0) 1 Try.underlying32 hi hz0 hz1 hz2 rfl (.slice (some ⟨w.heap.size, 0, none⟩) 0 0) 0 [] rfl (World.ownsRow_made w #[] 0 (Nat.le_refl _) (Nat.zero_le _) rfl) _ (bv bs) rfl (h.alloc _) (bv_oneCell bs) (by rw [bv_length]; omega) (by decide) (by simp) ?_; intro v2 w2 ho2 hg2 _)
    go_ret
    refine ⟨_, rfl, ?_, (((Kp.refl _ _).alloc _).grown hg2 (fun k _ hlt e => by simp [Value.ownBlock] at e; omega))⟩
    rw [bv_length] at ho2
    simpa using ho2

/-- A reader of bytes. -/
theorem Of_any {w : World} {v : Value} {bs : List Nat} (h : Sl w v (bv bs)) (hb : Bts bs) (hl : bs.length ≤ 140737488351232) :
    Calls Try.prog 18 #[v] w fun e w' => ∃ p v', e = .returned (.pointer (some ⟨p, 0, none⟩)) ∧ w.heap.size ≤ p ∧ Rd w' p bs 0 0 v' ∧ (∀ g, v'.ownBlock = some g → w.heap.size ≤ g) ∧ Kp (fun _ => True) w w' := by
  go_enter Try.func18, Try.ntmps18
  go_wp2_with (go_at_call 65; refine (CloneB_any h hl).mono ?_; rintro e w' ⟨v', rfl, ho, hk⟩; obtain ⟨A, cap, rfl⟩ := (Sl.of_own ho).form8)
  go_ret
  refine ⟨_, _, rfl, hk.size, ⟨Blk.new _ _ _, (Sl.of_own ho).alloc _, ?_, fun g hg => by have := (ho.lt g hg).2; simp; omega, hb, hl, Nat.zero_le _⟩, fun g hg => (ho.lt g hg).1, hk.alloc _⟩
  intro e
  have := (ho.lt _ e).2
  omega

/-- What a writer has put. -/
theorem Out_any {F : Nat → Prop} {w : World} {p : Nat} {D : List Nat} (h : Wr F w p D) (hl : D.length ≤ 1000000000000) :
    Calls Try.prog 19 #[.pointer (some ⟨p, 0, none⟩)] w fun e w' => ∃ v', e = .returned v' ∧ w'.ownsRow w.heap.size 5 1 v' (pack D).length (bv (pack D)) ∧ Kp (fun _ => True) w w' := by
  obtain ⟨v, hb, ho, hD, hp, hv⟩ := h
  have c0 := hb.cell 0
  have hq := pack_length D
  have hl2 : (pack D).length ≤ 140737488351232 := by omega
  simp only [List.getElem?_toArray, List.getElem?_cons_zero] at c0
  clear hq
  go_enter Try.func19, Try.ntmps19
  go_wp2_with (go_at_call 65; refine (CloneB_any (Sl.of_own ho) hl2).mono ?_; rintro e w' ⟨v', rfl, ho', hk⟩)
  go_ret
  exact ⟨v', rfl, ho', hk⟩
theorem WLen_any {F : Nat → Prop} {w : World} {p : Nat} {D : List Nat} (h : Wr F w p D) :
    Calls Try.prog 30 #[.pointer (some ⟨p, 0, none⟩)] w fun e w' => e = .returned (.int .i64 D.length) ∧ w' = w := by
  obtain ⟨v, hb, ho, hD, hp, hv⟩ := h
  have c0 := hb.cell 1
  simp only [List.getElem?_toArray, List.getElem?_cons_zero, List.getElem?_cons_succ] at c0
  go_enter Try.func30, Try.ntmps30
  go_wp2
  go_ret
  exact ⟨rfl, rfl⟩
theorem WFlag_any {F : Nat → Prop} {w : World} {p : Nat} {D : List Nat} (h : Wr F w p D) (b : Bool) (hF : ∀ k, F k → k < w.heap.size) (hl : D.length ≤ 999999999900) :
    Calls Try.prog 27 #[.pointer (some ⟨p, 0, none⟩), .bool b] w fun e w' => e = .returned (.pointer (some ⟨p, 0, none⟩)) ∧ Wr F w' p (D ++ [b.toNat]) ∧ Kp F w w' := by
  cases b
  · go_enter Try.func27, Try.ntmps27
    go_wp2_with (go_at_call 16; refine (Put_any h _ 0 rfl (by omega) _ 1 rfl hF hl).mono ?_; rintro e w' ⟨rfl, hW, hK⟩)
    go_ret
    exact ⟨rfl, hW, hK⟩
  · go_enter Try.func27, Try.ntmps27
    go_wp2_with (go_at_call 16; refine (Put_any h _ 1 rfl (by omega) _ 1 rfl hF hl).mono ?_; rintro e w' ⟨rfl, hW, hK⟩)
    go_ret
    exact ⟨rfl, hW, hK⟩

/-- Filled up to a multiple of digits. -/
def fillN (n : Nat) (c : Int) : Nat := if 0 < c then (c.toNat - n % c.toNat) % c.toNat else 0
theorem fillN_zero {n : Nat} {c : Int} (h : ¬ (0 < c) ∨ n % c.toNat = 0) : fillN n c = 0 := by
  unfold fillN
  split
  · rcases h with h | h
    · omega
    · rw [h, Nat.sub_zero, Nat.mod_self]
  · rfl
theorem fillN_succ {n : Nat} {c : Int} (h0 : 0 < c) (h : n % c.toNat ≠ 0) : fillN n c = fillN (n + 1) c + 1 := by
  unfold fillN
  rw [if_pos h0, if_pos h0]
  generalize hm : c.toNat = m at *
  have hm0 : 0 < m := by omega
  have hlt := Nat.mod_lt n hm0
  rw [Nat.mod_eq_of_lt (show m - n % m < m by omega)]
  by_cases e : n % m + 1 = m
  · have hdm := Nat.div_add_mod n m
    have : (n + 1) % m = 0 := by
      rw [show n + 1 = m * (n / m + 1) from by rw [Nat.mul_add]; omega, Nat.mul_mod_right]
    rw [this, Nat.sub_zero, Nat.mod_self]; omega
  · have hdm := Nat.div_add_mod n m
    have : (n + 1) % m = n % m + 1 := by
      rw [show n + 1 = n % m + 1 + m * (n / m) from by omega, Nat.add_mul_mod_self_left, Nat.mod_eq_of_lt (by omega)]
    rw [this, Nat.mod_eq_of_lt (show m - (n % m + 1) < m by omega)]; omega

set_option maxHeartbeats 400000 in
set_option maxRecDepth 100000 in
theorem Fill_any {F : Nat → Prop} {w : World} {p : Nat} {D : List Nat} (h : Wr F w p D) (c : Int) (hc : c ≤ 999999999900) (hF : ∀ k, F k → k < w.heap.size) (hl : D.length + fillN D.length c ≤ 999999999900) :
    Calls Try.prog 29 #[.pointer (some ⟨p, 0, none⟩), .int .i64 c] w fun e w' => e = .returned (.pointer (some ⟨p, 0, none⟩)) ∧ Wr F w' p (D ++ List.replicate (fillN D.length c) 0) ∧ Kp F w w' := by
  by_cases h0 : 0 < c
  · obtain ⟨m, rfl⟩ := Int.eq_ofNat_of_zero_le (Int.le_of_lt h0)
    have h00 : (0 : Int) < m := h0
    generalize hG : D ++ List.replicate (fillN D.length m) 0 = G at *
    have hGl : G.length ≤ 999999999900 := by rw [← hG]; simpa using hl
    have HG := hd hG
    clear hl hG
    go_enter Try.func29, Try.ntmps29
    go_wp2
    go_loopg [] (fillN D.length m) (fun (g : Nat) (wr : World) => ∃ E : List Nat, g = fillN E.length m ∧ E ++ List.replicate g 0 = G ∧ Wr F wr p E ∧ Kp F w wr)
    case atStart => exact ⟨D, rfl, HG.out, h, Kp.refl _ _⟩
    case round =>
      obtain ⟨E, hg, hE, hW, hK⟩ := hrel
      have c1 := hW.cell1
      have hEl : E.length ≤ 999999999900 := by
        have := congrArg List.length hE
        simp at this; omega
      by_cases hz : E.length % m = 0
      · have hg0 : fillN E.length m = 0 := fillN_zero (.inr hz)
        have hq : ((E.length : Int) % (m : Int) != 0) = false := by simp; omega
        rw [hg0] at hg
        subst hg
        have HE := hd hE
        clear hE hz hg0
        go_wp2
        go_ret
        have hE := HE.out
        simp at hE
        exact ⟨rfl, hE ▸ hW, hK⟩
      · have hg1 := fillN_succ h0 hz
        have hq : ((E.length : Int) % (m : Int) != 0) = true := by simp; omega
        rw [hg1] at hg
        subst hg
        have HE := hd hE
        clear hE hz hg1
        go_wp2_with (go_at_call 64; refine (digit_any hW _ 0 rfl (by decide) (fun k hk => Nat.lt_of_lt_of_le (hF k hk) hK.size) (by omega)).mono ?_; rintro e w' ⟨rfl, hW', hK'⟩)
        go_roundg (fillN (E.length + 1) m)
        case measure => omega
        case rel => exact ⟨E ++ [0], by simp, by rw [← HE.out]; simp [List.replicate_succ], hW', hK.trans hK'⟩
  · have h1 : decide ((0 : Int) < c) = false := by simpa using h0
    have hz : fillN D.length c = 0 := fillN_zero (.inl h0)
    rw [hz]
    go_enter Try.func29, Try.ntmps29
    go_wp2
    refine wp_loop_rounds 1 ?_
    rw [rounds_succ]
    go_wp2
    go_ret
    exact ⟨rfl, by simpa using h, Kp.refl _ _⟩
end Go.Proofs.Ytoonnlphfanmhaa
