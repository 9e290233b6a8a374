/- The statement BitsBack of chapter 01: its walk. -/
import Derived.Test.YtoonnlphfanmhaaLaw01
namespace Go.Proofs.Ytoonnlphfanmhaa
open Go.RowKit

/-- The digits of the first j numbers, each of as many as the row of digits tells. -/
def back (xs : List Nat) (zs : List Int) (m j : Nat) : List Nat := (List.range j).flatMap fun i => ofn (xs.getD i 0) (pick (zs.getD (i % m) 0) 65)
theorem back_succ (xs : List Nat) (zs : List Int) (m j : Nat) : back xs zs m (j + 1) = back xs zs m j ++ ofn (xs.getD j 0) (pick (zs.getD (j % m) 0) 65) := by
  simp [back, List.range_succ]
theorem back_dgs (xs : List Nat) (zs : List Int) (m j : Nat) : Dgs (back xs zs m j) := by
  intro d hd
  simp only [back, List.mem_flatMap] at hd
  obtain ⟨i, _, hi⟩ := hd
  exact ofn_lt _ _ d hi
theorem back_split (xs : List Nat) (zs : List Int) (m j n : Nat) (h : j ≤ n) : ∃ R, back xs zs m n = back xs zs m j ++ R ∧ Dgs R := by
  induction n with
  | zero => obtain rfl : j = 0 := by omega
            exact ⟨[], by simp, Dgs.nil⟩
  | succ n ih =>
    by_cases e : j = n + 1
    · subst e; exact ⟨[], by simp, Dgs.nil⟩
    · obtain ⟨R, hR, hD⟩ := ih (by omega)
      exact ⟨R ++ ofn (xs.getD n 0) (pick (zs.getD (n % m) 0) 65), by rw [back_succ, hR, List.append_assoc], hD.append (ofn_lt _ _)⟩
theorem back_len (xs : List Nat) (zs : List Int) (m j : Nat) : (back xs zs m j).length ≤ 64 * j := by
  induction j with
  | zero => simp [back]
  | succ j ih =>
    rw [back_succ, List.length_append, ofn_length]
    have := pick_lt (zs.getD (j % m) 0) 65 (by decide)
    omega
/-- What stands at its place is taken as it was put. -/
theorem back_vl (xs : List Nat) (zs : List Int) (m j n : Nat) (h : j < n) :
    vl (pack (back xs zs m n)) (back xs zs m j).length (pick (zs.getD (j % m) 0) 65) = xs.getD j 0 % 2 ^ pick (zs.getD (j % m) 0) 65 := by
  obtain ⟨R, hR, hD⟩ := back_split xs zs m (j + 1) n (by omega)
  rw [back_succ, List.append_assoc] at hR
  rw [hR]
  exact vl_pack _ _ (back_dgs xs zs m j) hD
/-- Behind what was put stand digits 0. -/
theorem vl_end {D : List Nat} (hD : Dgs D) (n : Nat) : vl (pack D) D.length n = 0 := by
  unfold vl
  rw [vf_congr (dig (pack D)) (fun _ => 0) D.length n (fun i hi _ => by rw [dig_pack hD, List.getD_eq_getElem?_getD, List.getElem?_eq_none hi]; rfl)]
  induction n with
  | zero => rfl
  | succ n ih => simp [vf, ih]

def iv (zs : List Int) : List Value := zs.map (Value.int .i64)
theorem iv_length (zs : List Int) : (iv zs).length = zs.length := by simp [iv]
theorem iv_getD (zs : List Int) (j : Nat) (h : j < zs.length) : (iv zs)[j]? = some (.int .i64 (zs.getD j 0)) := by simp [iv, h]

set_option maxHeartbeats 2000000 in
set_option maxRecDepth 100000 in
theorem BitsBack_any {w : World} {v1 v2 : Value} {xs : List Nat} {zs : List Int} (h1 : Sl w v1 (uv xs)) (h2 : Sl w v2 (iv zs)) (hx : U64s xs) (hl1 : xs.length ≤ 9223372036854775807) (hl2 : zs.length ≤ 9223372036854775807) :
    Calls Try.prog 3 #[v1, v2] w fun e w' => e = .returned (.bool true) ∧ Kp (fun _ => True) w w' := by
  obtain ⟨A1, cap1, rfl⟩ := h1.form
  obtain ⟨A2, cap2, rfl⟩ := h2.form
  rw [uv_length] at h1 ⊢
  rw [iv_length] at h2 ⊢
  by_cases hbig : 40 < xs.length
  · go_enter Try.func3, Try.ntmps3
    go_wp2_with (go_at_call 14; refine (works01_any _).mono ?_; rintro e w2 ⟨rfl, hK⟩)
    go_ret
    exact ⟨rfl, hK⟩
  by_cases hz0 : zs.length = 0
  · have hq : ((zs.length : Int) == 0) = true := by rw [beq_iff_eq]; omega
    go_enter Try.func3, Try.ntmps3
    go_wp2_with (go_at_call 14; refine (works01_any _).mono ?_; rintro e w2 ⟨rfl, hK⟩)
    go_ret
    exact ⟨rfl, hK⟩
  have hzp : 0 < zs.length := by omega
  have hq : ((zs.length : Int) == 0) = false := by rw [beq_eq_false_iff_ne]; omega
  have hq2 : decide (zs.length = 0) = false := decide_eq_false (by omega)
  have hq3 : decide ((40 : Int) < xs.length) = false := decide_eq_false (by omega)
  have hz0' : ¬ zs.length = 0 := hz0
  clear hz0 hq hq2
  generalize hm : zs.length = m at *
  have hq : ((m : Int) == 0) = false := by rw [beq_eq_false_iff_ne]; omega
  have hml : ∀ j : Nat, j % m < zs.length := fun j => by rw [hm]; exact Nat.mod_lt j hzp
  have HM := hd hm
  clear hm
  go_enter Try.func3, Try.ntmps3
  go_wp2_with fail
  refine (New_any _).mono ?_
  rintro e w1 ⟨rfl, hW, hK⟩
  have K := hK.mono (G := (· < w.heap.size)) fun _ _ _ => trivial
  clear hK
  go_wp2_with fail
  go_loopw [6] (fun i wr => ∃ j : Nat, j ≤ xs.length ∧ i = .int .i64 j ∧ Wr (· < w.heap.size) wr w.heap.size (back xs zs m j) ∧ Kp (· < w.heap.size) w wr) (fun i _ => xs.length - (intOf i).toNat)
  case atStart => exact ⟨0, Nat.zero_le _, rfl, hW, K⟩
  case round =>
    obtain ⟨j, hj, rfl, hW, hK⟩ := hrel
    by_cases hjl : j < xs.length
    · have hmj := hml j
      obtain ⟨g1, off1, rfl, _, hc1⟩ := (h1.low hK).at_ (uv_getD xs j hjl)
      obtain ⟨g2, off2, rfl, _, hc2⟩ := (h2.low hK).at_ (iv_getD zs (j % m) hmj)
      have hx2 := hx.getD j
      have htm : (j : Int).tmod m = ((j % m : Nat) : Int) := rfl
      have hrm : ((j % m : Nat) : Int) < m := by have := HM.out; omega
      have hlen : (back xs zs m j).length ≤ 999999999900 := by have := back_len xs zs m j; omega
      have hbs := back_succ xs zs m j
      have hpk : pk (pick (zs.getD (j % m) 0) 65 : Nat) = pick (zs.getD (j % m) 0) 65 := pk_nat _ (by have := pick_lt (zs.getD (j % m) 0) 65 (by decide); omega)
      generalize xs.getD j 0 = x at *
      generalize zs.getD (j % m) 0 = z at *
      generalize hr : j % m = r at *
      have HR := hd hr
      clear hr
      have HB := hd hbs
      have HP := hd hpk
      clear hbs hpk hmj
      go_wp2_with fail
      go_region_with (first | (go_at_call 17; refine (Pick_any _ _ 65 rfl (by decide) (by decide) _).mono ?_; rintro e w' ⟨rfl, rfl⟩) | (go_at_call 16; refine (Put_any (F := (· < w.heap.size)) (w := wr.drew) hW _ x rfl hx2 _ _ HP.out (fun k hk => Nat.lt_of_lt_of_le hk hK.size) hlen).mono ?_; rintro e w' ⟨rfl, hW', hK'⟩))
      all_goals
        go_wp2
        go_roundw
        case rel => exact ⟨j + 1, by omega, by go_num, by rw [HB.out]; exact hW', hK.drew.trans hK'⟩
        case measure => simp [intOf]; omega
    · obtain rfl : j = xs.length := by omega
      have hlen : (back xs zs m xs.length).length ≤ 1000000000000 := by have := back_len xs zs m xs.length; omega
      have hD := hW.dgs
      go_wp2_with fail
      refine (Out_any hW hlen).mono ?_
      rintro e w2 ⟨vo, rfl, ho, hK2⟩
      have K := hK.low hK2 (fun _ _ => trivial)
      have hpl := pack_length (back xs zs m xs.length)
      have hso := Sl.of_own ho
      clear hW ho hK hK2
      go_wp2_with fail
      refine (Of_any hso (pack_bytes hD) (by omega)).mono ?_
      rintro e w3 ⟨r, vr, rfl, hr, hR, hvr, hK3⟩
      have K3 := K.low hK3 (fun _ _ => trivial)
      have hr0 : w.heap.size ≤ r := Nat.le_trans K.size hr
      have HPL := hd hpl
      clear hso K hK3 hr hpl hvr
      go_wp2_with fail
      go_loopw [8] (fun i wr => ∃ j : Nat, j ≤ xs.length ∧ i = .int .i64 j ∧ Rd wr r (pack (back xs zs m xs.length)) (back xs zs m j).length 0 vr ∧ Kp (· < w.heap.size) w wr) (fun i _ => xs.length - (intOf i).toNat)
      case atStart => exact ⟨0, Nat.zero_le _, rfl, hR, K3⟩
      case round =>
        obtain ⟨j, hj, rfl, hR, hK⟩ := hrel
        by_cases hjl : j < xs.length
        · have hmj := hml j
          obtain ⟨g1, off1, rfl, _, hc1⟩ := (h1.low hK).at_ (uv_getD xs j hjl)
          obtain ⟨g2, off2, rfl, _, hc2⟩ := (h2.low hK).at_ (iv_getD zs (j % m) hmj)
          have hx2 := hx.getD j
          have hrm : ((j % m : Nat) : Int) < m := by have := HM.out; omega
          have hbv := back_vl xs zs m j xs.length hjl
          have hbs := back_succ xs zs m j
          have hk65 := pick_lt (zs.getD (j % m) 0) 65 (by decide)
          have hfit : (back xs zs m j).length + pick (zs.getD (j % m) 0) 65 ≤ 8 * (pack (back xs zs m xs.length)).length := by
            obtain ⟨R, hR, _⟩ := back_split xs zs m (j + 1) xs.length (by omega)
            have := congrArg List.length hR
            rw [hbs] at this
            simp only [List.length_append, ofn_length] at this
            rw [HPL.out]; omega
          have hbl : (back xs zs m (j + 1)).length = (back xs zs m j).length + pick (zs.getD (j % m) 0) 65 := by rw [hbs, List.length_append, ofn_length]
          generalize xs.getD j 0 = x at *
          generalize zs.getD (j % m) 0 = z at *
          have HB := hd hbl
          have HV := hd hbv
          clear hbs hbl hbv hmj
          go_wp2_with (go_at_call 17; refine (Pick_any _ _ 65 rfl (by decide) (by decide) _).mono ?_; rintro e w' ⟨rfl, rfl⟩)
          · have h64 : ((pick z 65 : Nat) : Int) < 64 := by assumption
            obtain ⟨P, hP⟩ : ∃ P, P = 2 ^ pick z 65 := ⟨_, rfl⟩
            have hPlt : P < 2 ^ 64 := by rw [hP]; exact Nat.pow_lt_pow_right (by decide) (by omega)
            have hP0 : 0 < P := by rw [hP]; exact Nat.two_pow_pos _
            have hsh : IntKind.u64.wrap ((2 : Int) ^ pick z 65) = (P : Int) := by
              rw [show ((2 : Int) ^ pick z 65) = ((2 ^ pick z 65 : Nat) : Int) from by simp, ← hP, IntWalk.u64_in _ (by omega)]
            have hPne : ((P : Int) == 0) = false := by rw [beq_eq_false_iff_ne]; omega
            have hPne2 : ¬ (P : Int) = 0 := by omega
            have htm : (x : Int).tmod (P : Int) = ((x % P : Nat) : Int) := rfl
            have hV : (vl (pack (back xs zs m xs.length)) (back xs zs m j).length (pick z 65) : Int) = ((x % P : Nat) : Int) := by rw [HV.out, hP]
            have HV2 := hd hV
            have hxP : x % P < 2 ^ 64 := Nat.lt_of_le_of_lt (Nat.mod_le _ _) hx2
            clear hP hV
            go_region
            go_wp2_with fail
            refine (Take_lit (w := _) (hR.drewN 1) _ (pick z 65) _ rfl HV2.out (by omega) hfit).mono ?_
            rintro e w4 ⟨rfl, hR4, hK4⟩
            go_wp2
            go_roundw
            case rel => exact ⟨j + 1, by omega, by go_num, by rw [HB.out]; exact hR4, (hK.drewN 1).low hK4 (fun _ h => by omega)⟩
            case measure => simp [intOf]; omega
          · have h64 : (64 : Int) ≤ ((pick z 65 : Nat) : Int) := by assumption
            have hV : (vl (pack (back xs zs m xs.length)) (back xs zs m j).length (pick z 65) : Int) = (x : Int) := by
              rw [HV.out, show pick z 65 = 64 by omega, Nat.mod_eq_of_lt hx2]
            have HV2 := hd hV
            clear hV
            refine (Take_lit hR _ (pick z 65) _ rfl HV2.out (by omega) hfit).mono ?_
            rintro e w4 ⟨rfl, hR4, hK4⟩
            go_wp2
            go_roundw
            case rel => exact ⟨j + 1, by omega, by go_num, by rw [HB.out]; exact hR4, hK.low hK4 (fun _ h => by omega)⟩
            case measure => simp [intOf]; omega
        · obtain rfl : j = xs.length := by omega
          obtain ⟨L, hL⟩ : ∃ L : Nat, (8 * (pack (back xs zs m xs.length)).length - (back xs zs m xs.length).length : Int) = (L : Int) := by
            refine ⟨8 * (pack (back xs zs m xs.length)).length - (back xs zs m xs.length).length, ?_⟩
            have := HPL.out
            omega
          have hL8 : (L : Int) < 8 := by have := HPL.out; omega
          have hfit : (back xs zs m xs.length).length + L ≤ 8 * (pack (back xs zs m xs.length)).length := by omega
          have hend : (8 * (pack (back xs zs m xs.length)).length - ((back xs zs m xs.length).length + L : Nat) : Int) = 0 := by omega
          have cL := left_any hR
          rw [hL] at cL
          have HE := hd hend
          have HV := hd (vl_end hD L)
          have HC := hd cL
          clear hL hend cL
          go_wp2_with fail
          refine HC.out.mono ?_
          rintro e w4 ⟨rfl, n4, rfl⟩
          replace hR := hR.drewN n4
          replace hK := hK.drewN n4
          clear HC
          generalize wr.drewN n4 = w4 at *
          go_wp2_with fail
          refine (rerr_any hR).mono ?_
          rintro e w' ⟨rfl, rfl⟩
          go_wp2_with fail
          refine (Take_lit hR _ L 0 rfl (by rw [HV.out]; rfl) (by omega) hfit).mono ?_
          rintro e w5 ⟨rfl, hR, hK5⟩
          replace hK := hK.low hK5 (fun _ h => by omega)
          clear hK5
          go_wp2_with fail
          refine (rerr_any hR).mono ?_
          rintro e w' ⟨rfl, rfl⟩
          go_wp2_with fail
          have cL := left_any hR
          rw [HE.out] at cL
          refine cL.mono ?_
          rintro e w6 ⟨rfl, n6, rfl⟩
          replace hR := hR.drewN n6
          replace hK := hK.drewN n6
          clear cL
          generalize w'.drewN n6 = w6 at *
          go_wp2_with fail
          have hb1 : tErr 0 1 (8 * (pack (back xs zs m xs.length)).length - ((back xs zs m xs.length).length + L : Nat)) = 10 := by rw [HE.out]; decide
          have hb2 := hb1
          have cT := Take_bad hR 1 (by rw [hb1]; decide)
          rw [hb1] at cT
          clear hb1 hb2
          refine cT.mono ?_
          rintro e w7 ⟨rfl, hR, hK7⟩
          replace hK := hK.low hK7 (fun _ h => by omega)
          clear hK7 cT
          go_wp2_with fail
          refine (rerr_any hR).mono ?_
          rintro e w' ⟨rfl, rfl⟩
          go_wp2_with fail
          refine (Take_bad hR 0 (by unfold tErr; rw [if_pos (by decide)]; decide)).mono ?_
          rintro e w8 ⟨rfl, hR, hK8⟩
          rw [show tErr 10 0 (8 * (pack (back xs zs m xs.length)).length - ((back xs zs m xs.length).length + L : Nat)) = 10 from by unfold tErr; rw [if_pos (by decide)]] at hR
          replace hK := hK.low hK8 (fun _ h => by omega)
          clear hK8
          go_wp2_with fail
          have cF := RFlag_all hR
          have hq10 : tErr 10 1 (8 * (pack (back xs zs m xs.length)).length - ((back xs zs m xs.length).length + L : Nat)) = 10 := by unfold tErr; rw [if_pos (by decide)]
          unfold tVal tAt at cF
          rw [hq10, if_neg (by decide), if_neg (by decide)] at cF
          refine cF.mono ?_
          rintro e w9 ⟨rfl, hR, hK9⟩
          replace hK := hK.low hK9 (fun _ h => by omega)
          clear hK9 cF hq10
          go_wp2_with fail
          refine (Rest_bad hR (by decide)).mono ?_
          rintro e w' ⟨rfl, rfl⟩
          go_wp2_with fail
          refine (rerr_any hR).mono ?_
          rintro e w' ⟨rfl, rfl⟩
          go_wp2_with fail
          refine (works01_any _).mono ?_
          rintro e w10 ⟨rfl, hK10⟩
          go_wp2_with fail
          go_ret
          exact ⟨rfl, (hK.low hK10 (fun _ _ => trivial)).all⟩
end Go.Proofs.Ytoonnlphfanmhaa
