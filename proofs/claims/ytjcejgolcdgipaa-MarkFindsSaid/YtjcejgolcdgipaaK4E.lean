/- Several texts of this session, one behind the other. -/
import Derived.Test.YtjcejgolcdgipaaC
import Derived.Test.YtjcejgolcdgipaaM0x1
import Derived.Test.YtjcejgolcdgipaaK4A
import Derived.StillTailTactics
import Derived.Test.YtjcejgolcdgipaaClone

/- Chapter 04: easelref04.Put answers what mark.Put answers; for all markings. -/
namespace Go.Proofs.Ytjcejgolcdgipaa
open Go.RowKit Go.Proofs.YtjcejgolcdgipaaW.PrintWords

def dg (x : Bool) (n : Nat) : Nat := if x = true then n else 0
theorem dg_le (x : Bool) (n : Nat) : dg x n ≤ n := by unfold dg; split <;> omega
theorem r4digit_any (x : Bool) (c : Int) (n : Nat) (hc : c = n) (w : World) : Calls Try.prog 80 #[.bool x, .int .u8 c] w fun e w' => e = .returned (.int .u8 ((dg x n : Nat) : Int)) ∧ w' = w := by
  subst hc
  cases x
  · go_enter Try.func80, Try.ntmps80
    go_wp2
    go_ret
    exact ⟨rfl, rfl⟩
  · go_enter Try.func80, Try.ntmps80
    go_wp2
    go_ret
    exact ⟨rfl, rfl⟩
theorem r4Right_any (w : World) (s e i d l b : Bool) (t li tl : Nat) :
    Calls Try.prog 51 #[.agg #[.bool s, .bool e, .bool i, .bool d, .bool l, .bool b, .int .u8 (t : Int), .int .u8 (li : Int), .int .u8 (tl : Int)]] w fun e w' => e = .returned (.bool (rightB l b t li tl)) ∧ Kp (fun _ => True) w w' := by
  refine (M0.easelref04_Right.calls s e i d l b (t : Int) (li : Int) (tl : Int) (rightB l b t li tl) w ?_).mono fun e w' ⟨he, hb⟩ => ⟨he, Kp.of_below hb (fun _ _ hl => hl)⟩
  unfold M0.easelref04_Right.f rightB
  by_cases ht : t ≤ 7
  · rw [if_pos (by omega)]
    cases l
    · cases b
      · rw [if_neg (by decide), if_neg (by decide)]
        by_cases h0 : t = 0
        · subst h0
          rw [if_pos (by rfl)]
          by_cases h1 : li = 0
          · subst h1
            rw [if_pos (by rfl)]
            simp only [decide_eq_true ht, Bool.true_and, Bool.false_or, Bool.not_false, beq_self_eq_true, Option.some.injEq]
            rw [Bool.eq_iff_iff, beq_iff_eq, beq_iff_eq]
            omega
          · rw [if_neg (by omega)]
            simp [h1]
        · rw [if_neg (by omega)]
          simp [h0]
      · rw [if_neg (by decide), if_pos rfl]
        simp
    · rw [if_pos rfl]
      simp [ht]
  · rw [if_neg (by omega)]
    simp [ht]
/-- The first byte. -/
def b1 (s e i d : Bool) : Nat := dg s 128 + dg e 64 + dg i 32 + dg d 16
theorem b1_le (s e i d : Bool) : b1 s e i d ≤ 240 := by
  have := dg_le s 128; have := dg_le e 64; have := dg_le i 32; have := dg_le d 16
  unfold b1; omega
theorem first_ofn (s e i d b : Bool) (t : Nat) (ht : t ≤ 7) : fl [s, e, i, d, b] ++ ofn t 3 = ofn (b1 s e i d + dg b 8 + t) 8 := by
  have : ∀ (s e i d b : Bool) (t : Fin 8), fl [s, e, i, d, b] ++ ofn t.1 3 = ofn (b1 s e i d + dg b 8 + t.1) 8 := by decide +kernel
  exact this s e i d b ⟨t, by omega⟩
theorem putM_short {s e i d b : Bool} {t li tl : Nat} (h : rightB false b t li tl = true) : putM s e i d false b t li tl = ([b1 s e i d], 0) := by
  unfold putM
  rw [if_pos h]
  unfold rightB at h
  simp at h
  obtain ⟨_, hb, ht, _⟩ := h
  subst hb ht
  unfold markD
  rw [first_ofn s e i d false 0 (by omega)]
  simp only [Bool.false_eq_true, if_false, List.append_nil]
  rw [← bd_single, pack_bd (by intro x hx; simp at hx; have := b1_le s e i d; have := dg_le false 8; omega)]
  simp [dg]
theorem putM_long {s e i d b : Bool} {t li tl : Nat} (h : rightB true b t li tl = true) (hli : li < 256) (htl : tl < 256) : putM s e i d true b t li tl = ([b1 s e i d + dg b 8 + t, li, tl], 0) := by
  unfold putM
  rw [if_pos h]
  have ht : t ≤ 7 := by unfold rightB at h; simp at h; exact h
  unfold markD
  rw [first_ofn s e i d b t ht]
  simp only [if_true]
  have : ofn (b1 s e i d + dg b 8 + t) 8 ++ (ofn li 8 ++ ofn tl 8) = bd [b1 s e i d + dg b 8 + t, li, tl] := by simp [bd]
  rw [this, pack_bd (by intro x hx; simp at hx; have := b1_le s e i d; have := dg_le b 8; omega)]
theorem own_lit (w : World) (bs : List Nat) {base : Nat} (hn : base ≤ w.heap.size) (hl : bs.length ≤ 1000) : (w.alloc (.cells (bv bs).toArray 5)).ownsRow base 5 1 (.slice (some ⟨w.heap.size, 0, none⟩) bs.length bs.length) bs.length (bv bs) :=
  ⟨by rw [bv_length, Nat.mul_one], .inr ⟨w.heap.size, bs.length, (bv bs).toArray, rfl, hn, heap_alloc_new w _, Nat.le_refl _, by unfold maxLen; omega, by simp [bv_length], by rw [Nat.mul_one, ← bv_length bs]; simp⟩⟩
set_option maxHeartbeats 2000000 in
set_option maxRecDepth 100000 in
theorem r4Put_any (w : World) (s e i d l b : Bool) (t li tl : Nat) (ht : t < 256) (hli : li < 256) (htl : tl < 256) :
    Calls Try.prog 47 #[.agg #[.bool s, .bool e, .bool i, .bool d, .bool l, .bool b, .int .u8 (t : Int), .int .u8 (li : Int), .int .u8 (tl : Int)]] w fun e_ w' =>
      ∃ v0, e_ = .returned (.tuple #[v0, .int .i64 ((putM s e i d l b t li tl).2 : Int)]) ∧ w'.ownsRow w.heap.size 5 1 v0 (putM s e i d l b t li tl).1.length (bv (putM s e i d l b t li tl).1) ∧ Kp (fun _ => True) w w' := by
  obtain hR | hR : rightB l b t li tl = false ∨ rightB l b t li tl = true := by cases rightB l b t li tl <;> simp
  · have e1 : putM s e i d l b t li tl = ([], 40) := by unfold putM; rw [if_neg (by rw [hR]; decide)]
    rw [e1]
    clear e1
    have HR := hd hR
    clear hR
    go_enter Try.func47, Try.ntmps47
    go_wp2_with fail
    refine (r4Right_any _ s e i d l b t li tl).mono ?_
    rintro e_ w1 ⟨rfl, hK1⟩
    rw [HR.out]
    go_wp2
    go_ret2
    exact ⟨_, rfl, World.ownsRow_nil _ _ _ _, ((Kp.refl _ _).alloc _).trans hK1⟩
  · have HR := hd hR
    obtain ⟨res, hres⟩ : ∃ res, putM s e i d l b t li tl = (res, 0) := by unfold putM; rw [if_pos hR]; exact ⟨_, rfl⟩
    rw [hres]
    have HP := hd hres
    clear hR hres
    have x0 := dg_le s 128
    have x1 := dg_le e 64
    have x2 := dg_le i 32
    have x3 := dg_le d 16
    have x4 := dg_le b 8
    have HB1 := hd (show b1 s e i d = dg s 128 + dg e 64 + dg i 32 + dg d 16 from rfl)
    go_enter Try.func47, Try.ntmps47
    go_wp2_with fail
    refine (r4Right_any _ s e i d l b t li tl).mono ?_
    rintro e_ w1 ⟨rfl, hK1⟩
    rw [HR.out]
    have hM := (Blk.new w 87 #[.bool s, .bool e, .bool i, .bool d, .bool l, .bool b, .int .u8 (t : Int), .int .u8 (li : Int), .int .u8 (tl : Int)]).kp hK1 trivial
    have hK : Kp (fun _ => True) w w1 := ((Kp.refl _ _).alloc _).trans hK1
    clear hK1
    have cM := hM.cell
    have s1 : IntKind.u8.wrap (((dg s 128 : Nat) : Int) + ((dg e 64 : Nat) : Int)) = ((dg s 128 + dg e 64 : Nat) : Int) := by rw [IntWalk.u8_in _ (by omega)]; omega
    have s2 : IntKind.u8.wrap (((dg s 128 + dg e 64 : Nat) : Int) + ((dg i 32 : Nat) : Int)) = ((dg s 128 + dg e 64 + dg i 32 : Nat) : Int) := by rw [IntWalk.u8_in _ (by omega)]; omega
    have s3 : IntKind.u8.wrap (((dg s 128 + dg e 64 + dg i 32 : Nat) : Int) + ((dg d 16 : Nat) : Int)) = ((b1 s e i d : Nat) : Int) := by rw [HB1.out, IntWalk.u8_in _ (by omega)]; omega
    go_wp2_with fail
    go_quiet (first | (go_at_call 80; exact Calls.quiet_of_same (r4digit_any _ _ _ rfl _)))
    obtain ⟨w2, hw2⟩ : ∃ w2, w2 = w1.drewN nq := ⟨_, rfl⟩
    have hK2 : Kp (fun _ => True) w w2 := hw2 ▸ hK.drewN nq
    have hM2 : Blk w2 w.heap.size 87 #[.bool s, .bool e, .bool i, .bool d, .bool l, .bool b, .int .u8 (t : Int), .int .u8 (li : Int), .int .u8 (tl : Int)] := hw2 ▸ hM.drewN nq
    rw [← hw2]
    clear hw2 cM s1 s2 s3
    have cM := hM2.cell
    cases l
    · have hq := HP.out
      rw [putM_short HR.out] at hq
      injection hq with hq _
      have HQ := hd hq
      clear hq
      go_wp2
      go_ret2
      rw [← HQ.out]
      exact ⟨_, rfl, own_lit w2 [b1 s e i d] hK2.size (by simp), hK2.alloc _⟩
    · have hq := HP.out
      rw [putM_long HR.out hli htl] at hq
      injection hq with hq _
      have HQ := hd hq
      clear hq
      have ht7 : t ≤ 7 := by have := HR.out; unfold rightB at this; simp at this; exact this
      have hb1 := b1_le s e i d
      have s1 : IntKind.u8.wrap (((b1 s e i d : Nat) : Int) + ((dg b 8 : Nat) : Int)) = ((b1 s e i d + dg b 8 : Nat) : Int) := by rw [IntWalk.u8_in _ (by omega)]; omega
      have s2 : IntKind.u8.wrap (((b1 s e i d + dg b 8 : Nat) : Int) + (t : Int)) = ((b1 s e i d + dg b 8 + t : Nat) : Int) := by rw [IntWalk.u8_in _ (by omega)]; omega
      go_wp2_with fail
      go_still_tail 12, (by kernel_rfl)
      still_call (r4digit_any _ _ _ rfl _)
      repeat still_step
      refine wpStill_nil ?_
      go_wp2
      go_ret2
      rw [← HQ.out]
      have hv : ((dg s 128 : Nat) : Int) + ((dg e 64 : Nat) : Int) + ((dg i 32 : Nat) : Int) + ((dg d 16 : Nat) : Int) + ((dg b 8 : Nat) : Int) + (t : Int) = ((b1 s e i d + dg b 8 + t : Nat) : Int) := by rw [HB1.out]; omega
      rw [hv]
      exact ⟨_, rfl, own_lit w2 [b1 s e i d + dg b 8 + t, li, tl] hK2.size (by simp), (hK2.alloc _).drew⟩
end Go.Proofs.Ytjcejgolcdgipaa

/- What the printed texts of chapter 04 call: ext, mark.Put, mark.Parse, the copies, the reference's Put and Parse. -/
namespace Go.Proofs.Ytjcejgolcdgipaa.K4
open Go.RowKit Go.Proofs.YtjcejgolcdgipaaW.PrintWords Go.Proofs.YtjcejgolcdgipaaW.PrintLast Go.Proofs.YtjcejgolcdgipaaW.PrintMore
set_option linter.unusedVariables false
set_option linter.unusedSimpArgs false
def r4_Parse.f (l0 : List Int) : Option (Bool × Bool × Bool × Bool × Bool × Bool × Int × Int × Int × Int) := if Oks l0 then some (mkTuple (parseM (nb l0))) else none
theorem r4_Parse.calls (A0 : Option Addr) (c0 : Nat) (l0 : List Int) (r1 : Bool) (r2 : Bool) (r3 : Bool) (r4 : Bool) (r5 : Bool) (r6 : Bool) (r7 : Int) (r8 : Int) (r9 : Int) (r10 : Int) (w : World) (hr0 : Kd.C (Kd.int .u8) w A0 l0.length l0) (hc0 : l0.length ≤ c0) (h : r4_Parse.f l0 = some (r1, r2, r3, r4, r5, r6, r7, r8, r9, r10)) :
    Calls Try.prog 54 #[.slice A0 l0.length c0] w fun e w' => e = .returned (.tuple #[.agg #[.bool r1, .bool r2, .bool r3, .bool r4, .bool r5, .bool r6, .int .u8 r7, .int .u8 r8, .int .u8 r9], .int .i64 r10]) ∧ Below w.heap.size w w' := by
  unfold r4_Parse.f at h
  split at h
  · rename_i ho
    simp only [mkTuple, Option.some.injEq, Prod.mk.injEq] at h
    obtain ⟨rfl, rfl, rfl, rfl, rfl, rfl, rfl, rfl, rfl, rfl⟩ := h
    exact (r4Parse_any (sl_of_C hr0 hc0 ho) (nb_length l0).symm (nb_bts ho)).mono fun e w' ⟨he, hK⟩ => ⟨he, hK.below⟩
  · cases h
def r4_Put.f (s e i d l b : Bool) (t li tl : Int) : Option (List Int × Int) := mark_Put.f s e i d l b t li tl
theorem r4_Put.calls (a0_0 : Bool) (a0_1 : Bool) (a0_2 : Bool) (a0_3 : Bool) (a0_4 : Bool) (a0_5 : Bool) (a0_6 : Int) (a0_7 : Int) (a0_8 : Int) (r1 : List Int) (r2 : Int) (w : World) (h : r4_Put.f a0_0 a0_1 a0_2 a0_3 a0_4 a0_5 a0_6 a0_7 a0_8 = some (r1, r2)) :
    Calls Try.prog 47 #[.agg #[.bool a0_0, .bool a0_1, .bool a0_2, .bool a0_3, .bool a0_4, .bool a0_5, .int .u8 a0_6, .int .u8 a0_7, .int .u8 a0_8]] w fun e w' => ∃ v0_ : Value, e = .returned (.tuple #[v0_, .int .i64 r2]) ∧ Kd.R (Kd.int .u8) 5 w' w.heap.size (fun _ => True) v0_ r1 ∧ Below w.heap.size w w' := by
  unfold r4_Put.f mark_Put.f at h
  split at h
  · rename_i hc
    obtain ⟨h1, h2, h3, h4, h5, h6⟩ := hc
    obtain ⟨t, rfl⟩ := Int.eq_ofNat_of_zero_le h1
    obtain ⟨li, rfl⟩ := Int.eq_ofNat_of_zero_le h3
    obtain ⟨tl, rfl⟩ := Int.eq_ofNat_of_zero_le h5
    simp only [Int.toNat_natCast, Option.some.injEq, Prod.mk.injEq] at h
    obtain ⟨rfl, rfl⟩ := h
    refine (r4Put_any w a0_0 a0_1 a0_2 a0_3 a0_4 a0_5 t li tl (by omega) (by omega) (by omega)).mono ?_
    rintro e w' ⟨v0, rfl, ho, hK⟩
    exact ⟨v0, rfl, R_of_own ho, hK.below⟩
  · cases h
end Go.Proofs.Ytjcejgolcdgipaa.K4
