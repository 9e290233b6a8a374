/- The readers of package bits that answer bytes: Bytes, Rest. -/
import Derived.Test.YtoonnlphfanmhaaRead
namespace Go.Proofs.Ytoonnlphfanmhaa
open Go.RowKit

theorem Try.info_u8 : (Try.prog.info? 5).map (fun i => (i.zero, i.size, i.bytes)) = some (some (.int .u8 0), 1, 1) := by kernel_rfl

/-- n bytes of digits, from digit a on. -/
def bys (bs : List Nat) (a n : Nat) : List Nat := (List.range n).map fun i => vl bs (a + 8 * i) 8
theorem bys_length (bs : List Nat) (a n : Nat) : (bys bs a n).length = n := by simp [bys]
theorem bys_succ (bs : List Nat) (a n : Nat) : bys bs a (n + 1) = bys bs a n ++ [vl bs (a + 8 * n) 8] := by simp [bys, List.range_succ]
theorem bys_bts (bs : List Nat) (a n : Nat) : Bts (bys bs a n) := by
  intro b hb
  simp only [bys, List.mem_map] at hb
  obtain ⟨i, _, rfl⟩ := hb
  exact vl_lt bs _ 8
theorem bys_whole {bs : List Nat} (h : Bts bs) (k n : Nat) (hn : k + n ≤ bs.length) : bys bs (8 * k) n = (bs.drop k).take n := by
  induction n with
  | zero => simp [bys]
  | succ n ih =>
    rw [bys_succ, ih (by omega), ← Nat.mul_add, vl_byte _ _ (h.getD _), List.take_succ_eq_append_getElem (by simp; omega)]
    simp [show k + n < bs.length by omega]

/-- A reader's error behind Bytes. -/
def bErr (err n left : Int) : Int := if err ≠ 0 then err else if n < 0 then 2 else if left < 8 * n then 10 else 0

set_option maxRecDepth 100000 in
theorem RBytes_ok {w : World} {p : Nat} {bs : List Nat} {at_ : Nat} {v : Value} (h : Rd w p bs at_ 0 v) (c : Int) (n : Nat) (hc : c = n) (hle : at_ + 8 * n ≤ 8 * bs.length) :
    Calls Try.prog 26 #[.pointer (some ⟨p, 0, none⟩), .int .i64 c] w fun e w' => ∃ v', e = .returned v' ∧ w'.ownsRow w.heap.size 5 1 v' n (bv (bys bs at_ n)) ∧ Rd w' p bs (at_ + 8 * n) 0 v ∧ Kp (· ≠ p) w w' := by
  subst hc
  have hp := h.blk.lt
  have hl := h.len
  have hvg := h.vlt
  have hl2 : (8 * bs.length - at_ : Int) / 8 + 1 > n := by omega
  obtain ⟨i0, hi, hz0, hz1, hz2⟩ := info_parts Try.info_u8
  go_enter Try.func26, Try.ntmps26
  go_wp2_with (first | (go_at_call 21; refine (left_any h).mono ?_; rintro e w' ⟨rfl, m, rfl⟩) | (go_at_call 66; refine (fails_no (h.drewN m) _ (by omega) (by omega)).mono ?_; rintro e w' ⟨rfl, m2, rfl⟩))
  go_loopw [5, 18] (fun x i wr => ∃ k : Nat, k ≤ n ∧ i = .int .i64 k ∧ wr.ownsRow w.heap.size 5 1 x k (bv (bys bs at_ k)) ∧ Rd wr p bs (at_ + 8 * k) 0 v ∧ Kp (· ≠ p) w wr) (fun _ i _ => n - (intOf i).toNat)
  case atStart => exact ⟨0, Nat.zero_le _, rfl, World.ownsRow_nil _ _ _ _, h.drewN _, (Kp.refl _ _).drewN _⟩
  case round =>
    obtain ⟨k, hk, rfl, hown, hR, hK⟩ := hrel
    by_cases hlt : k < n
    · have hv : vl bs (at_ + 8 * k) 8 < 256 := vl_lt _ _ 8
      go_wp2_with (first | (go_at_call 67; refine (take_any hR _ 8 rfl (by decide) (by omega)).mono ?_; rintro e w' ⟨rfl, hR', hK'⟩; have hown' := own_kp hown hK' (fun g hg _ => by omega)) | (at_builtin; refine wpList_app rfl _ _ 32 rfl w.heap.size 5 i0 (.int .u8 0) 1 1 Try.underlying32 hi hz0 hz1 hz2 rfl (by decide) _ k _ rfl hown' [.int .u8 (vl bs (at_ + 8 * k) 8 : Nat)] _ rfl rfl (bv_oneCell [_]) (by omega) (by decide) (Nat.le_trans hK.size hK'.size) ?_; intro g2 c2 w2 ho2 hg2 _))
      have hb := kp_own hown' hg2
      go_roundw
      case rel => exact ⟨k + 1, by omega, by go_num, by rw [bys_succ, bv_append]; exact ho2, hR'.kp hb hp (fun g hg => hvg g hg), (hK.trans hK').next hb (fun _ _ hl => hl)⟩
      case measure => simp [intOf]; omega
    · obtain rfl : k = n := by omega
      go_wp2
      go_ret
      exact ⟨_, rfl, hown, hR, hK⟩

theorem RBytes_bad {w : World} {p : Nat} {bs : List Nat} {at_ : Nat} {err : Int} {v : Value} (h : Rd w p bs at_ err v) (n : Int) (h0 : -9223372036854775808 ≤ n) (h1 : n ≤ 9223372036854775807) (hf : bErr err n (8 * bs.length - at_) ≠ 0) :
    Calls Try.prog 26 #[.pointer (some ⟨p, 0, none⟩), .int .i64 n] w fun e w' => e = .returned (.slice none 0 0) ∧ Rd w' p bs at_ (bErr err n (8 * bs.length - at_)) v ∧ Kp (· ≠ p) w w' := by
  have hl := h.len
  have ha := h.le
  obtain ⟨c, hc, hcc⟩ : ∃ c : Int, (n < 0 ∧ c = -1 ∨ 0 ≤ n ∧ n ≤ (8 * bs.length - at_ : Int) / 8 + 1 ∧ c = n ∨ (8 * bs.length - at_ : Int) / 8 + 1 < n ∧ c = (8 * bs.length - at_ : Int) / 8 + 1) ∧ True := by
    by_cases a : n < 0
    · exact ⟨_, .inl ⟨a, rfl⟩, trivial⟩
    · by_cases b : n ≤ (8 * bs.length - at_ : Int) / 8 + 1
      · exact ⟨_, .inr (.inl ⟨by omega, b, rfl⟩), trivial⟩
      · exact ⟨_, .inr (.inr ⟨by omega, rfl⟩), trivial⟩
  have hq : bErr err n (8 * bs.length - at_) = ferr err (8 * c) (8 * bs.length - at_) := by
    unfold bErr ferr
    by_cases he : err = 0
    · rw [if_neg (show ¬ err ≠ 0 by omega), if_neg (show ¬ err ≠ 0 by omega)]
      by_cases a : n < 0
      · rw [if_pos a, if_pos (show 8 * c < 0 by omega)]
      · rw [if_neg a, if_neg (show ¬ 8 * c < 0 by omega)]
        by_cases b : (8 * bs.length - at_ : Int) < 8 * n
        · rw [if_pos b, if_pos (show (8 * bs.length - at_ : Int) < 8 * c by omega)]
        · rw [if_neg b, if_neg (show ¬ (8 * bs.length - at_ : Int) < 8 * c by omega)]
    · rw [if_pos he, if_pos he]
  rw [hq] at hf ⊢
  have HF := hd hf
  clear hf hq hcc
  rcases hc with ⟨a, rfl⟩ | ⟨a, b, rfl⟩ | ⟨b, rfl⟩
  all_goals
    go_enter Try.func26, Try.ntmps26
    go_wp2_with (first | (go_at_call 21; refine (left_any h).mono ?_; rintro e w' ⟨rfl, m, rfl⟩) | (go_at_call 66; refine (fails_yes (h.drewN m) _ HF.out).mono ?_; rintro e w' ⟨rfl, hR, hK⟩))
    go_ret
    exact ⟨rfl, hR, ((Kp.refl _ _).drewN _).trans hK⟩

/-- .. in whatever state. -/
theorem bErr_zero {err n left : Int} (h : bErr err n left = 0) : err = 0 ∧ 0 ≤ n ∧ 8 * n ≤ left := by
  unfold bErr at h
  split at h
  · omega
  · split at h
    · omega
    · split at h
      · omega
      · omega

/-- Rest of a reader that has failed, or that stands within a byte; and of one that stands between bytes. -/
theorem Rest_ok {w : World} {p : Nat} {bs : List Nat} {at_ : Nat} {v : Value} (h : Rd w p bs at_ 0 v) (n : Nat) (hn : at_ + 8 * n = 8 * bs.length) :
    Calls Try.prog 24 #[.pointer (some ⟨p, 0, none⟩)] w fun e w' => ∃ v', e = .returned v' ∧ w'.ownsRow w.heap.size 5 1 v' n (bv (bys bs at_ n)) ∧ Rd w' p bs (at_ + 8 * n) 0 v ∧ Kp (· ≠ p) w w' := by
  have c2 := h.cell2
  have hl := h.len
  have hq : ((8 * bs.length - at_ : Int) % 8 != 0) = false := by simp; omega
  have hq2 : (8 * bs.length - at_ : Int) / 8 = n := by omega
  have HN := hd hn
  clear hn
  go_enter Try.func24, Try.ntmps24
  go_wp2_with (first | (go_at_call 21; refine (left_any (by first | exact h | exact h.drewN _)).mono ?_; rintro e w' ⟨rfl, m, rfl⟩))
  refine (RBytes_ok (h.drewN _) _ n rfl (by have := HN.out; omega)).mono ?_
  rintro e w' ⟨v', rfl, ho, hR, hK⟩
  go_wp2
  go_ret
  exact ⟨v', rfl, ho, hR, ((Kp.refl _ _).drewN _).trans hK⟩
theorem Rest_bad {w : World} {p : Nat} {bs : List Nat} {at_ : Nat} {err : Int} {v : Value} (h : Rd w p bs at_ err v) (he : err ≠ 0) :
    Calls Try.prog 24 #[.pointer (some ⟨p, 0, none⟩)] w fun e w' => e = .returned (.slice none 0 0) ∧ w' = w := by
  have c2 := h.cell2
  have hb : (err != 0) = true := by simpa using he
  clear he
  go_enter Try.func24, Try.ntmps24
  go_wp2
  go_ret
  exact ⟨rfl, rfl⟩
theorem Rest_odd {w : World} {p : Nat} {bs : List Nat} {at_ : Nat} {v : Value} (h : Rd w p bs at_ 0 v) (hn : at_ % 8 ≠ 0) :
    Calls Try.prog 24 #[.pointer (some ⟨p, 0, none⟩)] w fun e w' => e = .returned (.slice none 0 0) ∧ Rd w' p bs at_ 2 v ∧ Kp (· ≠ p) w w' := by
  have c2 := h.cell2
  have hfr := h.blk.frozen 2
  have hl := h.len
  have ha := h.le
  have hq : ((8 * bs.length - at_ : Int) % 8 != 0) = true := by simp; omega
  have HN := hd hn
  clear hn
  go_enter Try.func24, Try.ntmps24
  go_wp2_with (first | (go_at_call 21; refine (left_any (by first | exact h | exact h.drewN _)).mono ?_; rintro e w' ⟨rfl, m, rfl⟩))
  go_ret
  exact ⟨rfl, (h.drewN _).setErr 2, ((Kp.refl _ _).drewN _).set_⟩
end Go.Proofs.Ytoonnlphfanmhaa
