/- The readers of package bits: each method by its contract. -/
import Derived.Test.YtoonnlphfanmhaaProg
import Derived.Test.YtoonnlphfanmhaaBase
import Derived.Test.YtoonnlphfanmhaaDigits
namespace Go.Proofs.Ytoonnlphfanmhaa
open Go.RowKit

theorem Sl.form8 {w : World} {v : Value} {bs : List Nat} (h : Sl w v (bv bs)) : ∃ A cap, v = .slice A bs.length cap := by
  obtain ⟨A, cap, rfl⟩ := h.form
  exact ⟨A, cap, by rw [bv_length]⟩

/-- A reader in block p: its bytes, how many digits were taken, its error, and the value of its slice. -/
structure Rd (w : World) (p : Nat) (bs : List Nat) (at_ : Nat) (err : Int) (v : Value) : Prop where
  blk : Blk w p 105 #[v, .int .i64 at_, .int .i64 err]
  sl : Sl w v (bv bs)
  own : v.ownBlock ≠ some p
  vlt : ∀ g, v.ownBlock = some g → g < w.heap.size
  bts : Bts bs
  len : bs.length ≤ 140737488351232
  le : at_ ≤ 8 * bs.length

section
variable {w w' : World} {p : Nat} {bs : List Nat} {at_ : Nat} {err : Int} {v : Value}
theorem Rd.cell0 (h : Rd w p bs at_ err v) : w.cell? ⟨p, 0, none⟩ = some v := h.blk.cell 0
theorem Rd.cell1 (h : Rd w p bs at_ err v) : w.cell? ⟨p, 1, none⟩ = some (.int .i64 at_) := h.blk.cell 1
theorem Rd.cell2 (h : Rd w p bs at_ err v) : w.cell? ⟨p, 2, none⟩ = some (.int .i64 err) := h.blk.cell 2
theorem Rd.drewN (h : Rd w p bs at_ err v) (n : Nat) : Rd (w.drewN n) p bs at_ err v := ⟨h.blk, h.sl, h.own, h.vlt, h.bts, h.len, h.le⟩
theorem Rd.kp {F : Nat → Prop} (h : Rd w p bs at_ err v) (hk : Kp F w w') (hp : F p) (hF : ∀ g, v.ownBlock = some g → F g) : Rd w' p bs at_ err v :=
  ⟨h.blk.kp hk hp, h.sl.kp hk (fun _ g hg _ => hF g hg), h.own, fun g hg => Nat.lt_of_lt_of_le (h.vlt g hg) hk.size, h.bts, h.len, h.le⟩
theorem Rd.setErr (h : Rd w p bs at_ err v) (e : Int) : Rd (w.setCell ⟨p, 2, none⟩ (.int .i64 e)) p bs at_ e v :=
  ⟨h.blk.set 2 _, h.sl.far h.own _, h.own, fun g hg => by simpa [World.setCell] using h.vlt g hg, h.bts, h.len, h.le⟩
theorem Rd.setAt (h : Rd w p bs at_ err v) (n : Nat) (hn : n ≤ 8 * bs.length) : Rd (w.setCell ⟨p, 1, none⟩ (.int .i64 n)) p bs n err v :=
  ⟨h.blk.set 1 _, h.sl.far h.own _, h.own, fun g hg => by simpa [World.setCell] using h.vlt g hg, h.bts, h.len, hn⟩
theorem Rd.alloc (h : Rd w p bs at_ err v) (o : Obj) : Rd (w.alloc o) p bs at_ err v := ⟨h.blk.alloc o, h.sl.alloc o, h.own, fun g hg => by have := h.vlt g hg; simp; omega, h.bts, h.len, h.le⟩
theorem kp_set (w : World) (p i : Nat) (u : Value) : Kp (· ≠ p) w (w.setCell ⟨p, i, none⟩ u) := (Kp.refl _ w).set_
end

theorem left_any {w : World} {p : Nat} {bs : List Nat} {at_ : Nat} {err : Int} {v : Value} (h : Rd w p bs at_ err v) :
    Calls Try.prog 21 #[.pointer (some ⟨p, 0, none⟩)] w fun e w' => e = .returned (.int .i64 (8 * bs.length - at_)) ∧ ∃ n, w' = w.drewN n := by
  have c0 := h.cell0
  have c1 := h.cell1
  have hl := h.len
  have hat := h.le
  obtain ⟨A, cap, rfl⟩ := h.sl.form8
  clear h
  go_enter Try.func21, Try.ntmps21
  go_wp2
  go_quiet (fail)
  go_wp2
  go_ret
  exact ⟨rfl, _, rfl⟩

theorem rerr_any {w : World} {p : Nat} {bs : List Nat} {at_ : Nat} {err : Int} {v : Value} (h : Rd w p bs at_ err v) :
    Calls Try.prog 22 #[.pointer (some ⟨p, 0, none⟩)] w fun e w' => e = .returned (.int .i64 err) ∧ w' = w := by
  have c2 := h.cell2
  clear h
  go_enter Try.func22, Try.ntmps22
  go_wp2
  go_ret
  exact ⟨rfl, rfl⟩

/-- What a reader's error is, when n digits are asked for. -/
def ferr (err n left : Int) : Int := if err ≠ 0 then err else if n < 0 then 2 else if left < n then 10 else 0

theorem fails_no {w : World} {p : Nat} {bs : List Nat} {at_ : Nat} {v : Value} (h : Rd w p bs at_ 0 v) (n : Int) (h0 : 0 ≤ n) (hn : n ≤ 8 * bs.length - at_) :
    Calls Try.prog 66 #[.pointer (some ⟨p, 0, none⟩), .int .i64 n] w fun e w' => e = .returned (.bool false) ∧ ∃ m, w' = w.drewN m := by
  have c2 := h.cell2
  go_enter Try.func66, Try.ntmps66
  go_wp2_with (go_at_call 21; refine (left_any h).mono ?_; rintro e w' ⟨rfl, m, rfl⟩)
  go_ret
  exact ⟨rfl, _, rfl⟩

theorem fails_yes {w : World} {p : Nat} {bs : List Nat} {at_ : Nat} {err : Int} {v : Value} (h : Rd w p bs at_ err v) (n : Int) (hf : ferr err n (8 * bs.length - at_) ≠ 0) :
    Calls Try.prog 66 #[.pointer (some ⟨p, 0, none⟩), .int .i64 n] w fun e w' => e = .returned (.bool true) ∧ Rd w' p bs at_ (ferr err n (8 * bs.length - at_)) v ∧ Kp (· ≠ p) w w' := by
  have c2 := h.cell2
  have hfr := h.blk.frozen 2
  by_cases he : err = 0
  · subst he
    by_cases hn : n < 0
    · have hq : ferr 0 n (8 * bs.length - at_) = 2 := by simp [ferr, hn]
      rw [hq]
      clear hf hq
      go_enter Try.func66, Try.ntmps66
      go_wp2
      go_ret
      exact ⟨rfl, h.setErr 2, kp_set _ _ _ _⟩
    · by_cases hl : (8 * bs.length - at_ : Int) < n
      · have hq : ferr 0 n (8 * bs.length - at_) = 10 := by simp [ferr, hn, hl]
        rw [hq]
        clear hf hq
        go_enter Try.func66, Try.ntmps66
        go_wp2_with (go_at_call 21; refine (left_any h).mono ?_; rintro e w' ⟨rfl, m, rfl⟩)
        go_ret
        exact ⟨rfl, (h.drewN _).setErr 10, ((Kp.refl _ _).drewN _).set_⟩
      · exact absurd (by unfold ferr; rw [if_neg (by simp), if_neg hn, if_neg hl]) hf
  · have hq : ferr err n (8 * bs.length - at_) = err := by simp [ferr, he]
    rw [hq]
    have hb : (err != 0) = true := by simpa using he
    clear hf hq
    go_enter Try.func66, Try.ntmps66
    go_wp2
    go_ret
    exact ⟨rfl, h, Kp.refl _ _⟩

/-- The closure of take: the next digit. -/
theorem u64_bit (b k : Nat) (hb : b < 256) : IntKind.u64.wrap (bits .and .u8 ((b : Int) / 2 ^ k) 1) = ((b / 2 ^ k % 2 : Nat) : Int) := by
  have e : (b : Int) / 2 ^ k = ((b / 2 ^ k : Nat) : Int) := by simp
  have hlt : b / 2 ^ k < 256 := Nat.lt_of_le_of_lt (Nat.div_le_self _ _) hb
  rw [e, show (1 : Int) = ((1 : Nat) : Int) from rfl, u8_and_nat _ 1 hlt (by decide), Nat.and_one_is_mod, IntWalk.u64_in _ (by omega)]
theorem Rd.byte {w : World} {p : Nat} {bs : List Nat} {at_ : Nat} {err : Int} {v : Value} (h : Rd w p bs at_ err v) (hlt : at_ < 8 * bs.length) :
    ∃ g off cap b, v = .slice (some ⟨g, off, none⟩) bs.length cap ∧ w.cell? ⟨g, off + at_ / 8, none⟩ = some (.int .u8 (b : Nat)) ∧ b < 256 ∧ b / 2 ^ (7 - at_ % 8) % 2 = dig bs at_ := by
  have hi : at_ / 8 < bs.length := by omega
  obtain ⟨A, cap, rfl⟩ := h.sl.form8
  obtain ⟨g, off, rfl, _, hc⟩ := h.sl.at_ (bv_getD bs (at_ / 8) hi)
  exact ⟨g, off, cap, bs.getD (at_ / 8) 0, rfl, hc, h.bts.getD _, rfl⟩

theorem take1_any {w : World} {p x : Nat} {bs : List Nat} {at_ : Nat} {err : Int} {v : Value} (h : Rd w p bs at_ err v) (hx : w.cell? ⟨x, 0, none⟩ = some (.pointer (some ⟨p, 0, none⟩))) (hlt : at_ < 8 * bs.length) :
    Calls Try.prog 91 #[.pointer (some ⟨x, 0, none⟩)] w fun e w' => e = .returned (.int .u64 (dig bs at_)) ∧ Rd w' p bs (at_ + 1) err v ∧ Kp (· ≠ p) w w' := by
  have c0 := h.cell0
  have c1 := h.cell1
  have hfr := h.blk.frozen 1
  have hl := h.len
  have hi : at_ / 8 < bs.length := by omega
  obtain ⟨g, off, cap, b, rfl, hcell, hb, hdig⟩ := h.byte hlt
  have HD := hd hdig
  clear hdig
  go_enter Try.func91, Try.ntmps91
  go_wp2
  go_quiet (fail)
  go_wp2
  go_ret
  exact ⟨ret_int (by rw [u64_bit b _ hb, HD.out]), (h.drewN _).setAt (at_ + 1) (by omega), ((Kp.refl _ _).drewN _).set_⟩

theorem u64_shl_or (x d : Nat) (hx : x < 2 ^ 63) (hd : d < 2) : bits .or .u64 (IntKind.u64.wrap ((x : Int) * 2)) (d : Int) = ((2 * x + d : Nat) : Int) := by
  have hx' : x < 9223372036854775808 := by simpa using hx
  rw [IntWalk.u64_in _ (by omega), show (x : Int) * 2 = ((x * 2 : Nat) : Int) from by omega, u64_or_nat _ _ (by omega) (by omega)]
  have e : x * 2 ||| d = x * 2 + d := by
    have := Nat.two_pow_add_eq_or_of_lt (i := 1) (b := d) (by simpa using hd) x
    rw [Nat.pow_one, Nat.mul_comm] at this
    exact this.symm
  rw [e, Nat.mul_comm]

theorem take_any {w : World} {p : Nat} {bs : List Nat} {at_ : Nat} {err : Int} {v : Value} (h : Rd w p bs at_ err v) (c : Int) (n : Nat) (hc : c = n) (hn : n ≤ 64) (hle : at_ + n ≤ 8 * bs.length) :
    Calls Try.prog 67 #[.pointer (some ⟨p, 0, none⟩), .int .i64 c] w fun e w' => e = .returned (.int .u64 (vl bs at_ n)) ∧ Rd w' p bs (at_ + n) err v ∧ Kp (· ≠ p) w w' := by
  subst hc
  have hp := h.blk.lt
  have hl := h.len
  go_enter Try.func67, Try.ntmps67
  go_wp2
  go_loopw [4, 8] (fun x i wr => ∃ k : Nat, k ≤ n ∧ i = .int .i64 k ∧ x = .int .u64 (vl bs at_ k) ∧ Rd wr p bs (at_ + k) err v ∧ wr.cell? ⟨w.heap.size, 0, none⟩ = some (.pointer (some ⟨p, 0, none⟩)) ∧ Kp (· ≠ p) w wr) (fun _ i _ => n - (intOf i).toNat)
  case atStart => exact ⟨0, Nat.zero_le _, rfl, rfl, h.alloc _, World.cell?_alloc_at _ _ _ _ rfl, (Kp.refl _ _).alloc _⟩
  case round =>
    obtain ⟨k, hk, rfl, rfl, hR, hc, hK⟩ := hrel
    by_cases hlt : k < n
    · go_wp2_with (go_at_call 91; refine (take1_any hR hc (by omega)).mono ?_; rintro e w' ⟨rfl, hR', hK'⟩)
      have hv : vl bs at_ k < 2 ^ 63 := Nat.lt_of_lt_of_le (vl_lt bs at_ k) (Nat.pow_le_pow_right (by decide) (by omega))
      go_roundw
      case rel => exact ⟨k + 1, by omega, by go_num, by rw [u64_shl_or _ _ hv (dig_lt _ _), vl_succ], hR', hK'.cell_some hc (Nat.ne_of_gt hp), hK.trans hK'⟩
      case measure => simp [intOf]; omega
    · obtain rfl : k = n := by omega
      go_wp2
      go_ret
      exact ⟨rfl, hR, hK⟩

/-- A reader's error behind Take. -/
def tErr (err n left : Int) : Int := if err ≠ 0 then err else if n < 0 ∨ 64 < n then 2 else if left < n then 10 else 0

theorem Take_ok {w : World} {p : Nat} {bs : List Nat} {at_ : Nat} {v : Value} (h : Rd w p bs at_ 0 v) (c : Int) (n : Nat) (hc : c = n) (hn : n ≤ 64) (hle : at_ + n ≤ 8 * bs.length) :
    Calls Try.prog 20 #[.pointer (some ⟨p, 0, none⟩), .int .i64 c] w fun e w' => e = .returned (.int .u64 (vl bs at_ n)) ∧ Rd w' p bs (at_ + n) 0 v ∧ Kp (· ≠ p) w w' := by
  subst hc
  have hn' : (n : Int) ≤ 64 := by omega
  go_enter Try.func20, Try.ntmps20
  go_wp2_with (go_at_call 66; refine (fails_no h n (by omega) (by omega)).mono ?_; rintro e w' ⟨rfl, m, rfl⟩)
  refine (take_any (h.drewN m) _ n rfl hn hle).mono ?_
  rintro e w' ⟨rfl, hR, hK⟩
  go_wp2
  go_ret
  exact ⟨rfl, hR, ((Kp.refl _ _).drewN m).trans hK⟩

theorem Take_bad {w : World} {p : Nat} {bs : List Nat} {at_ : Nat} {err : Int} {v : Value} (h : Rd w p bs at_ err v) (n : Int) (hf : tErr err n (8 * bs.length - at_) ≠ 0) :
    Calls Try.prog 20 #[.pointer (some ⟨p, 0, none⟩), .int .i64 n] w fun e w' => e = .returned (.int .u64 0) ∧ Rd w' p bs at_ (tErr err n (8 * bs.length - at_)) v ∧ Kp (· ≠ p) w w' := by
  by_cases hn : 64 < n
  · have hq : tErr err n (8 * bs.length - at_) = ferr err (-1) (8 * bs.length - at_) := by
      unfold tErr ferr; simp [hn]
    rw [hq] at hf ⊢
    have HF := hd hf
    clear hf hq
    go_enter Try.func20, Try.ntmps20
    go_wp2_with (go_at_call 66; refine (fails_yes h (-1) HF.out).mono ?_; rintro e w' ⟨rfl, hR, hK⟩)
    go_ret
    exact ⟨rfl, hR, hK⟩
  · have hq : tErr err n (8 * bs.length - at_) = ferr err n (8 * bs.length - at_) := by
      unfold tErr ferr; simp [hn]
    rw [hq] at hf ⊢
    have HF := hd hf
    clear hf hq
    go_enter Try.func20, Try.ntmps20
    go_wp2_with (go_at_call 66; refine (fails_yes h n HF.out).mono ?_; rintro e w' ⟨rfl, hR, hK⟩)
    go_ret
    exact ⟨rfl, hR, hK⟩

/-- What Take tells, in whatever state. -/
def tVal (bs : List Nat) (at_ : Nat) (err n : Int) : Nat := if tErr err n (8 * bs.length - at_) = 0 then vl bs at_ n.toNat else 0
def tAt (bs : List Nat) (at_ : Nat) (err n : Int) : Nat := if tErr err n (8 * bs.length - at_) = 0 then at_ + n.toNat else at_
theorem tErr_zero {err n left : Int} (h : tErr err n left = 0) : err = 0 ∧ 0 ≤ n ∧ n ≤ 64 ∧ n ≤ left := by
  unfold tErr at h
  split at h
  · omega
  · split at h
    · omega
    · split at h
      · omega
      · omega
theorem Take_all {w : World} {p : Nat} {bs : List Nat} {at_ : Nat} {err : Int} {v : Value} (h : Rd w p bs at_ err v) (n : Int) :
    Calls Try.prog 20 #[.pointer (some ⟨p, 0, none⟩), .int .i64 n] w fun e w' => e = .returned (.int .u64 (tVal bs at_ err n)) ∧ Rd w' p bs (tAt bs at_ err n) (tErr err n (8 * bs.length - at_)) v ∧ Kp (· ≠ p) w w' := by
  by_cases hf : tErr err n (8 * bs.length - at_) = 0
  · obtain ⟨rfl, h0, h64, hl⟩ := tErr_zero hf
    obtain ⟨m, rfl⟩ := Int.eq_ofNat_of_zero_le h0
    unfold tVal tAt
    rw [if_pos hf, if_pos hf, hf, Int.toNat_natCast]
    exact Take_ok h _ m rfl (by omega) (by omega)
  · unfold tVal tAt
    rw [if_neg hf, if_neg hf]
    exact Take_bad h n hf

theorem Take_lit {w : World} {p : Nat} {bs : List Nat} {at_ : Nat} {v : Value} (h : Rd w p bs at_ 0 v) (c : Int) (n : Nat) (x : Int) (hc : c = n) (hx : (vl bs at_ n : Int) = x) (hn : n ≤ 64) (hle : at_ + n ≤ 8 * bs.length) :
    Calls Try.prog 20 #[.pointer (some ⟨p, 0, none⟩), .int .i64 c] w fun e w' => e = .returned (.int .u64 x) ∧ Rd w' p bs (at_ + n) 0 v ∧ Kp (· ≠ p) w w' := by
  rw [← hx]
  exact Take_ok h c n hc hn hle
theorem RFlag_all {w : World} {p : Nat} {bs : List Nat} {at_ : Nat} {err : Int} {v : Value} (h : Rd w p bs at_ err v) :
    Calls Try.prog 23 #[.pointer (some ⟨p, 0, none⟩)] w fun e w' => e = .returned (.bool (tVal bs at_ err 1 == 1)) ∧ Rd w' p bs (tAt bs at_ err 1) (tErr err 1 (8 * bs.length - at_)) v ∧ Kp (· ≠ p) w w' := by
  go_enter Try.func23, Try.ntmps23
  go_wp2_with (go_at_call 20; refine (Take_all h 1).mono ?_; rintro e w' ⟨rfl, hR, hK⟩)
  go_ret
  exact ⟨ret_bool (by rw [Bool.eq_iff_iff, beq_iff_eq, beq_iff_eq]; omega), hR, hK⟩

theorem RFlag_lit {w : World} {p : Nat} {bs : List Nat} {at_ : Nat} {v : Value} (h : Rd w p bs at_ 0 v) (x : Bool) (hx : (vl bs at_ 1 == 1) = x) (hle : at_ + 1 ≤ 8 * bs.length) :
    Calls Try.prog 23 #[.pointer (some ⟨p, 0, none⟩)] w fun e w' => e = .returned (.bool x) ∧ Rd w' p bs (at_ + 1) 0 v ∧ Kp (· ≠ p) w w' := by
  have h0 : tErr 0 1 (8 * bs.length - at_) = 0 := by unfold tErr; rw [if_neg (by simp), if_neg (by omega), if_neg (by omega)]
  have := RFlag_all h
  unfold tVal tAt at this
  rw [if_pos h0, if_pos h0, h0, show (1 : Int).toNat = 1 from rfl, hx] at this
  exact this

theorem Skip_ok {w : World} {p : Nat} {bs : List Nat} {at_ : Nat} {v : Value} (h : Rd w p bs at_ 0 v) (c : Int) (n : Nat) (hc : c = n) (hle : at_ + n ≤ 8 * bs.length) :
    Calls Try.prog 25 #[.pointer (some ⟨p, 0, none⟩), .int .i64 c] w fun e w' => e = .returned (.tuple #[]) ∧ Rd w' p bs (at_ + n) 0 v ∧ Kp (· ≠ p) w w' := by
  subst hc
  have c1 := h.cell1
  have hfr := h.blk.frozen 1
  have hl := h.len
  go_enter Try.func25, Try.ntmps25
  go_wp2_with (go_at_call 66; refine (fails_no h n (by omega) (by omega)).mono ?_; rintro e w' ⟨rfl, m, rfl⟩)
  go_end0
  exact ⟨rfl, (h.drewN _).setAt (at_ + n) (by omega), ((Kp.refl _ _).drewN _).set_⟩

theorem Skip_bad {w : World} {p : Nat} {bs : List Nat} {at_ : Nat} {err : Int} {v : Value} (h : Rd w p bs at_ err v) (n : Int) (hf : ferr err n (8 * bs.length - at_) ≠ 0) :
    Calls Try.prog 25 #[.pointer (some ⟨p, 0, none⟩), .int .i64 n] w fun e w' => e = .returned (.tuple #[]) ∧ Rd w' p bs at_ (ferr err n (8 * bs.length - at_)) v ∧ Kp (· ≠ p) w w' := by
  have HF := hd hf
  clear hf
  go_enter Try.func25, Try.ntmps25
  go_wp2_with (go_at_call 66; refine (fails_yes h n HF.out).mono ?_; rintro e w' ⟨rfl, hR, hK⟩)
  go_end0
  exact ⟨rfl, hR, hK⟩
end Go.Proofs.Ytoonnlphfanmhaa
