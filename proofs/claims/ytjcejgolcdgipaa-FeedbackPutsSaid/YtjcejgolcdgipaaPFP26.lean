/- Texts of this session, one behind the other, what the row does not use left out: walks and laws over plain data. -/
import Derived.Test.YtjcejgolcdgipaaPFP24
import Derived.Test.YtjcejgolcdgipaaPFP23
import Derived.Test.YtjcejgolcdgipaaPFP7
import Derived.Lib.ItoaNum
import Derived.Test.YtjcejgolcdgipaaPFP25

namespace Go.Proofs.Ytjcejgolcdgipaa.K7
open Go.RowKit Go.Proofs.YtjcejgolcdgipaaW.PrintWords Go.Proofs.YtjcejgolcdgipaaW.PrintLast Go.Proofs.YtjcejgolcdgipaaW.PrintMore
set_option linter.unusedVariables false
set_option linter.unusedSimpArgs false

def rateV (e m : Nat) : Nat := if m * 2 ^ e < 18446744073709551616 then m * 2 ^ e else 18446744073709551615
theorem ev_rrate (s sd md : Int) (P : List S115) (O : List S119) (e m : Nat) (S : List Int) (he : e < 256) : ∀ d i n : Nat, i + d = e → n < 18446744073709551616 → n = m * 2 ^ i → Ev (fun k => easelref07_Rate.l0 k (n : Int) (i : Int) s sd md P O (e : Int) (m : Int) S) ((rateV e m : Nat) : Int)
  | 0, i, n, h, hn, hm => Ev.step (f := fun _ => some ((rateV e m : Nat) : Int)) (fun k => by
      have w : wrap64 (e : Int) = (e : Int) := by unfold wrap64; omega
      rw [easelref07_Rate.l0, w, if_neg (by omega)]
      obtain rfl : i = e := by omega
      unfold rateV
      rw [if_pos (by omega), hm]) (Ev.now _)
  | d + 1, i, n, h, hn, hm => by
    have w : wrap64 (e : Int) = (e : Int) := by unfold wrap64; omega
    by_cases hb : 9223372036854775808 ≤ n
    · refine Ev.step (f := fun _ => some ((rateV e m : Nat) : Int)) (fun k => ?_) (Ev.now _)
      rw [easelref07_Rate.l0, w, if_pos (by omega), if_pos (by omega)]
      have h2 : ¬ m * 2 ^ e < 18446744073709551616 := by
        have : m * 2 ^ (i + 1) ≤ m * 2 ^ e := Nat.mul_le_mul_left _ (Nat.pow_le_pow_right (by decide) (by omega))
        rw [Nat.pow_succ, ← Nat.mul_assoc, ← hm] at this
        omega
      unfold rateV
      rw [if_neg h2]
      rfl
    · have ih := ev_rrate s sd md P O e m S he d (i + 1) (n * 2) (by omega) (by omega) (by rw [hm, Nat.pow_succ, Nat.mul_assoc])
      refine Ev.step (fun k => ?_) ih
      have e1 : IntKind.u64.wrap ((n : Int) * 2) = ((n * 2 : Nat) : Int) := by rw [IntWalk.u64_in _ (by omega)]; omega
      rw [easelref07_Rate.l0, w, if_pos (by omega), if_neg (by omega), e1, wsucc i (by omega)]
theorem ev_rate (s sd md : Int) (P : List S115) (O : List S119) (e m : Nat) (S : List Int) (he : e < 256) (hm : m < 4294967296) : Ev (fun k => easelref07_Rate.f k s sd md P O (e : Int) (m : Int) S) ((rateV e m : Nat) : Int) := by
  unfold easelref07_Rate.f
  rw [u64_nat m (by omega)]
  exact ev_rrate s sd md P O e m S he e 0 m (by omega) (by omega) (by simp)
theorem fb_rate (s sd md : Int) (P : List S82) (O : List S134) (e m : Nat) (S : List Int) (he : e < 256) (hm : m < 4294967296) : feedback_Message_Rate.f s sd md P O (e : Int) (m : Int) S = some ((rateV e m : Nat) : Int) := by
  unfold feedback_Message_Rate.f
  rw [u64_nat m (by omega)]
  by_cases h0 : m = 0
  · subst h0
    rw [if_pos (by simp)]
    unfold rateV
    simp
  · rw [if_neg (by omega)]
    have hb := Lib.bitLenAux_bounds 64 m (by omega) h0
    have hle := Lib.bitLen_le m 64 (by omega) (by omega)
    have hLdef : Lib.bitLen m = Lib.bitLenAux 64 m := rfl
    rw [← hLdef] at hb
    unfold bits_LeadingZeros64.f bits_Len64.f
    rw [if_pos (by omega), Int.toNat_natCast, Option.bind_some, Option.bind_some]
    generalize Lib.bitLen m = L at *
    obtain ⟨b1, b2, b3⟩ := hb
    have w1 : wrap64 (64 - (L : Int)) = 64 - (L : Int) := by unfold wrap64; omega
    have w2 : wrap64 (e : Int) = (e : Int) := by unfold wrap64; omega
    rw [w1, w2]
    by_cases hgt : (e : Int) > 64 - (L : Int)
    · rw [if_pos hgt]
      have h2 : ¬ m * 2 ^ e < 18446744073709551616 := by
        have h3 : 2 ^ (L - 1) * 2 ^ e ≤ m * 2 ^ e := Nat.mul_le_mul_right _ b2
        rw [← Nat.pow_add] at h3
        have h4 : 2 ^ 64 ≤ 2 ^ (L - 1 + e) := Nat.pow_le_pow_right (by decide) (by omega)
        have h5 : 2 ^ 64 = 18446744073709551616 := rfl
        omega
      unfold rateV
      rw [if_neg h2]
      rfl
    · rw [if_neg hgt, if_pos (by omega)]
      have h2 : m * 2 ^ e < 18446744073709551616 := by
        have h3 : m * 2 ^ e < 2 ^ L * 2 ^ e := Nat.mul_lt_mul_of_pos_right b3 (Nat.two_pow_pos _)
        rw [← Nat.pow_add] at h3
        have h4 : 2 ^ (L + e) ≤ 2 ^ 64 := Nat.pow_le_pow_right (by decide) (by omega)
        have h5 : 2 ^ 64 = 18446744073709551616 := rfl
        omega
      unfold rateV
      rw [if_pos h2]
      congr 1
      unfold shl
      have hm2 : min ((e : Int)).toNat IntKind.u64.bits = e := by
        rw [Int.toNat_natCast]
        show min e 64 = e
        omega
      have hc : (m : Int) * 2 ^ e = ((m * 2 ^ e : Nat) : Int) := by rw [Int.natCast_mul, Int.natCast_pow]; rfl
      rw [hm2, hc]
      generalize m * 2 ^ e = X at *
      exact u64_nat X h2
end Go.Proofs.Ytjcejgolcdgipaa.K7

namespace Go.Proofs.Ytjcejgolcdgipaa.K7
open Go.RowKit Go.Proofs.YtjcejgolcdgipaaW.PrintWords Go.Proofs.YtjcejgolcdgipaaW.PrintLast Go.Proofs.YtjcejgolcdgipaaW.PrintMore
set_option linter.unusedVariables false

section
variable (m0 m1 m2 : Int) {A3 A4 A7 : Option Addr} {c3 c4 c7 : Nat} (l3 : List S82) (l4 : List S134) (m5 m6 : Int) (l7 : List Int) (o0 o1 o2 : Int) {B3 B4 B7 : Option Addr} {d3 d4 d7 : Nat} (n3 : List S82) (n4 : List S134) (o5 o6 : Int) (n7 : List Int) (w : World)
set_option maxHeartbeats 8000000 in
set_option maxRecDepth 100000 in
theorem FeedbackPuts_many (hM : Ms w A3 A4 A7 l3 l4 l7 c3 c4 c7) (hO : Ms w B3 B4 B7 n3 n4 n7 d3 d4 d7) (f1 : Bool)
    (hF1 : easellaw07_few.f m0 m1 m2 l3 l4 m5 m6 l7 = some f1) (hF2 : f1 = true → easellaw07_few.f o0 o1 o2 n3 n4 o5 o6 n7 = some false) :
    Calls Try.prog 5 #[.agg #[.int .u8 m0, .int .u32 m1, .int .u32 m2, .slice A3 l3.length c3, .slice A4 l4.length c4, .int .u8 m5, .int .u32 m6, .slice A7 l7.length c7], .agg #[.int .u8 o0, .int .u32 o1, .int .u32 o2, .slice B3 n3.length d3, .slice B4 n4.length d4, .int .u8 o5, .int .u32 o6, .slice B7 n7.length d7]] w fun e w' => e = .returned (.bool true) ∧ Below w.heap.size w w' := by
  obtain ⟨w0, hw0⟩ : ∃ w0, w0 = (w.alloc (.cells #[.int .u8 m0, .int .u32 m1, .int .u32 m2, .slice A3 l3.length c3, .slice A4 l4.length c4, .int .u8 m5, .int .u32 m6, .slice A7 l7.length c7] 52)).alloc (.cells #[.int .u8 o0, .int .u32 o1, .int .u32 o2, .slice B3 n3.length d3, .slice B4 n4.length d4, .int .u8 o5, .int .u32 o6, .slice B7 n7.length d7] 52) := ⟨_, rfl⟩
  have hB0 : Below w.heap.size w w0 := hw0 ▸ ((Below.refl _ _).alloc (Nat.le_refl _) _).alloc (by simp) _
  have bM : Blk w0 w.heap.size 52 _ := hw0 ▸ (Blk.new w _ #[.int .u8 m0, .int .u32 m1, .int .u32 m2, .slice A3 l3.length c3, .slice A4 l4.length c4, .int .u8 m5, .int .u32 m6, .slice A7 l7.length c7]).alloc _
  have bO : Blk w0 (w.heap.size + 1) 52 _ := hw0 ▸ blk2 w _ _ #[.int .u8 o0, .int .u32 o1, .int .u32 o2, .slice B3 n3.length d3, .slice B4 n4.length d4, .int .u8 o5, .int .u32 o6, .slice B7 n7.length d7]
  have HM := hd (hM.below hB0)
  have HO := hd (hO.below hB0)
  have HF1 := hd hF1
  have HF2 := hd hF2
  have HW0 := hd hw0
  have HB := hd hB0
  clear hM hO hF1 hF2 hw0 hB0
  have cM := bM.cell
  go_enter Try.func5, Try.ntmps5
  go_upto_region 1 with (fail)
  rw [← HW0.out]
  clear HW0
  go_wp2_with fail
  refine (easellaw07_few.calls m0 m1 m2 _ _ l3 _ _ l4 m5 m6 _ _ l7 f1 _ HM.out.r3 HM.out.k3 HM.out.r4 HM.out.k4 HM.out.r7 HM.out.k7 HF1.out).mono ?_
  rintro e_ w1 ⟨rfl, hB1⟩
  replace HB := hd (below_next HB.out hB1)
  replace HO := hd (HO.out.below hB1)
  replace bO := bO.kp (kp_of_below hB1) trivial
  clear cM hB1
  have cO := bO.cell
  cases f1
  · go_wp2_with fail
    refine (l7_works.calls true _ rfl).mono ?_
    rintro e_ w2 ⟨rfl, hB2⟩
    go_wp2
    go_ret
    exact ⟨rfl, below_next HB.out hB2⟩
  · go_wp2_with fail
    refine (easellaw07_few.calls o0 o1 o2 _ _ n3 _ _ n4 o5 o6 _ _ n7 false _ HO.out.r3 HO.out.k3 HO.out.r4 HO.out.k4 HO.out.r7 HO.out.k7 (HF2.out (by trivial))).mono ?_
    rintro e_ w2 ⟨rfl, hB2⟩
    replace HB := hd (below_next HB.out hB2)
    clear cO hB2
    go_wp2_with fail
    refine (l7_works.calls true _ rfl).mono ?_
    rintro e_ w3 ⟨rfl, hB3⟩
    go_wp2
    go_ret
    exact ⟨rfl, below_next HB.out hB3⟩
end
theorem ev_kspoil : ∀ d i (l : List Int), l.length ≤ 1000000 → i + d = l.length → ∃ r, Ev (fun k => easelkit_Spoil.l0 k l (i : Int)) r
  | 0, i, l, hl, h => ⟨_, Ev.step (f := fun _ => some l) (fun k => by rw [easelkit_Spoil.l0, if_neg (by omega)]) (Ev.now _)⟩
  | d + 1, i, l, hl, h => by
    obtain ⟨r, hr⟩ := ev_kspoil d (i + 1) (l.set i 165) (by rw [List.length_set]; omega) (by rw [List.length_set]; omega)
    refine ⟨r, Ev.step (fun k => ?_) hr⟩
    rw [easelkit_Spoil.l0, if_pos (by omega), if_pos (by omega), wsucc i (by omega), Int.toNat_natCast]
theorem putN_len {M : PM} (h4 : M.sort ≤ 4 → M.ss.length ≤ 255 → (bodyN M).length ≤ 900000) : (putN M).2.2.1.length ≤ 900000 := by
  unfold putN
  split
  · rename_i h
    exact h4 (rightN_fields h).2.1 (rightN_fields h).2.2
  · exact Nat.zero_le _
def easellaw07_FeedbackPuts.f (k : Nat) (m0 m1 m2 : Int) (l3 : List S82) (l4 : List S134) (m5 m6 : Int) (l7 : List Int) (o0 o1 o2 : Int) (n3 : List S82) (n4 : List S134) (o5 o6 : Int) (n7 : List Int) : Option Bool :=
  if OkA m0 m1 m2 l3 l4 m5 m6 l7 ∧ OkA o0 o1 o2 n3 n4 o5 o6 n7 then some true else none
theorem easellaw07_FeedbackPuts.calls (k : Nat) (m0 m1 m2 : Int) (A3 : Option Addr) (c3 : Nat) (l3 : List S82) (A4 : Option Addr) (c4 : Nat) (l4 : List S134) (m5 m6 : Int) (A7 : Option Addr) (c7 : Nat) (l7 : List Int) (o0 o1 o2 : Int) (B3 : Option Addr) (d3 : Nat) (n3 : List S82) (B4 : Option Addr) (d4 : Nat) (n4 : List S134) (o5 o6 : Int) (B7 : Option Addr) (d7 : Nat) (n7 : List Int) (r : Bool) (w : World)
    (hr3 : Kd.C k82 w A3 l3.length l3) (hc3 : l3.length ≤ c3) (hr4 : Kd.C k134 w A4 l4.length l4) (hc4 : l4.length ≤ c4) (hr7 : Kd.C (Kd.int .u32) w A7 l7.length l7) (hc7 : l7.length ≤ c7)
    (gr3 : Kd.C k82 w B3 n3.length n3) (gc3 : n3.length ≤ d3) (gr4 : Kd.C k134 w B4 n4.length n4) (gc4 : n4.length ≤ d4) (gr7 : Kd.C (Kd.int .u32) w B7 n7.length n7) (gc7 : n7.length ≤ d7)
    (h : easellaw07_FeedbackPuts.f k m0 m1 m2 l3 l4 m5 m6 l7 o0 o1 o2 n3 n4 o5 o6 n7 = some r) :
    Calls Try.prog 5 #[.agg #[.int .u8 m0, .int .u32 m1, .int .u32 m2, .slice A3 l3.length c3, .slice A4 l4.length c4, .int .u8 m5, .int .u32 m6, .slice A7 l7.length c7], .agg #[.int .u8 o0, .int .u32 o1, .int .u32 o2, .slice B3 n3.length d3, .slice B4 n4.length d4, .int .u8 o5, .int .u32 o6, .slice B7 n7.length d7]] w fun e w' => e = .returned (.bool r) ∧ Below w.heap.size w w' := by
  unfold easellaw07_FeedbackPuts.f at h
  split at h
  · rename_i ho
    injection h with h
    subst h
    obtain ⟨hm, hoo⟩ := ho
    have hM : Ms w A3 A4 A7 l3 l4 l7 c3 c4 c7 := ⟨hr3, hc3, hr4, hc4, hr7, hc7⟩
    have hO : Ms w B3 B4 B7 n3 n4 n7 d3 d4 d7 := ⟨gr3, gc3, gr4, gc4, gr7, gc7⟩
    have F1 := few_val m0 m1 m2 l3 l4 m5 m6 l7
    have F2 := few_val o0 o1 o2 n3 n4 o5 o6 n7
    by_cases z1 : l3.length ≤ 300 ∧ l4.length ≤ 300 ∧ l7.length ≤ 300
    · rw [decide_eq_true z1] at F1
      by_cases z2 : n3.length ≤ 300 ∧ n4.length ≤ 300 ∧ n7.length ≤ 300
      · rw [decide_eq_true z2] at F2
        obtain ⟨h0, h1, h2, h3, h4, h5, h6, h7⟩ := hm
        obtain ⟨i0, i1, i2, i3, i4, i5, i6, i7⟩ := hoo
        have okM : OkM m0 m1 m2 l3 l4 m5 m6 l7 := ⟨h0, h1, h2, ⟨h3, by omega⟩, ⟨h4, by omega⟩, h5, h6, h7, by omega⟩
        have okP := inM_ok okM
        have hlb := bodyN_len m0.toNat m1.toNat m2.toNat m5.toNat m6.toNat l3 l4 l7
        obtain ⟨x0, rfl⟩ := Int.eq_ofNat_of_zero_le h0.1
        obtain ⟨x1, rfl⟩ := Int.eq_ofNat_of_zero_le h1.1
        obtain ⟨x2, rfl⟩ := Int.eq_ofNat_of_zero_le h2.1
        obtain ⟨x5, rfl⟩ := Int.eq_ofNat_of_zero_le h5.1
        obtain ⟨x6, rfl⟩ := Int.eq_ofNat_of_zero_le h6.1
        have hQ : fb_Put.f x0 x1 x2 l3 l4 x5 x6 l7 = some ((((putN (inM x0 x1 x2 l3 l4 x5 x6 l7)).1 : Nat) : Int), (((putN (inM x0 x1 x2 l3 l4 x5 x6 l7)).2.1 : Nat) : Int), ib (putN (inM x0 x1 x2 l3 l4 x5 x6 l7)).2.2.1, 0, (((putN (inM x0 x1 x2 l3 l4 x5 x6 l7)).2.2.2 : Nat) : Int)) := by
          unfold fb_Put.f
          rw [if_pos okM]
        have hRi : fb_Right.f x0 x1 x2 l3 l4 x5 x6 l7 = some (rightN (inM x0 x1 x2 l3 l4 x5 x6 l7)) := by
          unfold fb_Right.f
          rw [if_pos okM]
        have hpl : (putN (inM x0 x1 x2 l3 l4 x5 x6 l7)).2.2.1.length ≤ 900000 := putN_len (fun z zs => by
          simp only [Int.toNat_natCast] at hlb
          have zs' : (nb l7).length ≤ 255 := zs
          rw [nb_length] at zs'
          have z' : x0 ≤ 4 := z
          exact hlb z' (by omega) (by omega) zs')
        have q1 : (inM x0 x1 x2 l3 l4 x5 x6 l7).ps.length ≤ 1000 := by show (l3.map ofP).length ≤ _; rw [List.length_map]; omega
        have q2 : (inM x0 x1 x2 l3 l4 x5 x6 l7).os.length ≤ 1000 := by show (l4.map ofO).length ≤ _; rw [List.length_map]; omega
        have q3 : (inM x0 x1 x2 l3 l4 x5 x6 l7).ss.length ≤ 1000 := by show (nb l7).length ≤ _; rw [nb_length]; omega
        obtain ⟨k1, hR⟩ := (ev_ref x0 x1 x2 l3 l4 x5 x6 l7 (by omega) (by omega) (by omega)).rounds
        have hr3_ : OkRM x0 x1 x2 (l3.map mp) (l4.map mo) x5 x6 l7 := ⟨h0, h1, h2, fun x hx => by
            obtain ⟨y, hy, rfl⟩ := List.mem_map.1 hx
            exact h3 y hy, fun x hx => by
            obtain ⟨y, hy, rfl⟩ := List.mem_map.1 hx
            exact h4 y hy, h5, h6, h7, by rw [List.length_map]; omega, by rw [List.length_map]; omega, by omega⟩
        have hin : inRM x0 x1 x2 (l3.map mp) (l4.map mo) x5 x6 l7 = inM x0 x1 x2 l3 l4 x5 x6 l7 := by
          unfold inRM inM mk07
          rw [List.map_map, List.map_map]
          rfl
        have hP : r7_Put.f x0 x1 x2 (l3.map mp) (l4.map mo) x5 x6 l7 = some ((((putN (inM x0 x1 x2 l3 l4 x5 x6 l7)).1 : Nat) : Int), (((putN (inM x0 x1 x2 l3 l4 x5 x6 l7)).2.1 : Nat) : Int), ib (putN (inM x0 x1 x2 l3 l4 x5 x6 l7)).2.2.1, 0, (((putN (inM x0 x1 x2 l3 l4 x5 x6 l7)).2.2.2 : Nat) : Int)) := by
          unfold r7_Put.f
          rw [if_pos hr3_, hin]
        have hRr : r7_Right.f x0 x1 x2 (l3.map mp) (l4.map mo) x5 x6 l7 = some (decide (RightR (inM x0 x1 x2 l3 l4 x5 x6 l7))) := by
          unfold r7_Right.f
          rw [if_pos hr3_, hin]
        have hri : decide (RightR (inM x0 x1 x2 l3 l4 x5 x6 l7)) = rightN (inM x0 x1 x2 l3 l4 x5 x6 l7) := by
          have := right_iff okP rfl (by omega) (by omega)
          by_cases hz : rightN (inM x0 x1 x2 l3 l4 x5 x6 l7) = true
          · rw [hz, decide_eq_true (this.1 hz)]
          · rw [decide_eq_false (fun y => hz (this.2 y))]
            exact (Bool.eq_false_iff.2 hz).symm
        rw [hri] at hRr
        have hK : (ib (putN (inM x0 x1 x2 l3 l4 x5 x6 l7)).2.2.1).length ≤ 1000000 := by rw [ib_length]; omega
        obtain ⟨z, hz⟩ := ev_kspoil (ib (putN (inM x0 x1 x2 l3 l4 x5 x6 l7)).2.2.1).length 0 (ib (putN (inM x0 x1 x2 l3 l4 x5 x6 l7)).2.2.1) (by rw [ib_length]; omega) (by omega)
        obtain ⟨k4, hZ⟩ := hz.rounds
        obtain ⟨k6, hSm⟩ := (same_ev x0 x1 x2 l3 l4 x5 x6 l7 o0 o1 o2 n3 n4 o5 o6 n7 (by omega) (by omega) (by omega)).rounds
        obtain ⟨k8, hSS⟩ := (same_ev x0 x1 x2 l3 l4 x5 x6 l7 x0 x1 x2 l3 l4 x5 x6 l7 (by omega) (by omega) (by omega)).rounds
        rw [decide_eq_true ⟨rfl, rfl, rfl, rfl, rfl, rfl, rfl, rfl⟩] at hSS
        obtain ⟨k7, hRo⟩ := (ev_ref o0 o1 o2 n3 n4 o5 o6 n7 (by omega) (by omega) (by omega)).rounds
        have hRs : r7_Same.f x0 x1 x2 (l3.map mp) (l4.map mo) x5 x6 l7 o0 o1 o2 (n3.map mp) (n4.map mo) o5 o6 n7 = some (decide ((x0 : Int) = o0 ∧ (x1 : Int) = o1 ∧ (x2 : Int) = o2 ∧ (x5 : Int) = o5 ∧ (x6 : Int) = o6 ∧ l3 = n3 ∧ l4 = n4 ∧ l7 = n7)) := by
          unfold r7_Same.f
          rw [if_pos ⟨by rw [List.length_map]; omega, by rw [List.length_map]; omega, by omega⟩]
          refine congrArg some ?_
          unfold rEq
          refine decide_eq_decide.2 ⟨?_, ?_⟩
          · rintro ⟨y1, y2, y3, y4, y5, y6, y7, y8⟩
            exact ⟨y1, y2, y3, y6, y7, map_inj mp_inj y4, map_inj mo_inj y5, y8⟩
          · rintro ⟨y1, y2, y3, y6, y7, y4, y5, y8⟩
            exact ⟨y1, y2, y3, by rw [y4], by rw [y5], y6, y7, y8⟩
        have hRS := rsame_self x0 x1 x2 (l3.map mp) (l4.map mo) x5 x6 l7 (by rw [List.length_map]; omega) (by rw [List.length_map]; omega) (by omega)
        have hRa := fb_rate x0 x1 x2 l3 l4 x5 x6 l7 (by omega) (by omega)
        obtain ⟨k9, hRb⟩ := (ev_rate x0 x1 x2 (l3.map mp) (l4.map mo) x5 x6 l7 (by omega) (by omega)).rounds
        exact FeedbackPuts_walk k1 k4 k6 k7 k8 k9 x0 x1 x2 l3 l4 x5 x6 l7 o0 o1 o2 n3 n4 o5 o6 n7 w hM hO F1 F2 _ _ hR _ _ _ _ _ hP hQ hK z hZ _ hRi hRr _ hSm _ _ hRo hRs hSS _ hRa hRb hRS
      · rw [decide_eq_false z2] at F2
        exact FeedbackPuts_many m0 m1 m2 l3 l4 m5 m6 l7 o0 o1 o2 n3 n4 o5 o6 n7 w hM hO true F1 (fun _ => F2)
    · rw [decide_eq_false z1] at F1
      exact FeedbackPuts_many m0 m1 m2 l3 l4 m5 m6 l7 o0 o1 o2 n3 n4 o5 o6 n7 w hM hO false F1 (fun z => by cases z)
  · cases h
end Go.Proofs.Ytjcejgolcdgipaa.K7
