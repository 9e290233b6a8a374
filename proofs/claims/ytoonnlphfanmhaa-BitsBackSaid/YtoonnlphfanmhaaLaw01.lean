/- The statements of chapter 01: works, BitsNone, BitsBack, their walks. -/
import Derived.Test.YtoonnlphfanmhaaKit
namespace Go.Proofs.Ytoonnlphfanmhaa
open Go.RowKit

set_option maxHeartbeats 1000000 in
set_option maxRecDepth 100000 in
theorem works01_any (w : World) : Calls Try.prog 14 #[] w fun e w' => e = .returned (.bool true) ∧ Kp (fun _ => True) w w' := by
  go_enter Try.func14, Try.ntmps14
  go_wp2_with fail
  refine (New_any _).mono ?_
  rintro e w1 ⟨rfl, hW, hK⟩
  have K := hK.mono (G := (· < w.heap.size)) fun _ _ _ => trivial
  clear hK
  go_wp2_with fail
  refine (Put_any hW _ 2 rfl (by omega) _ 2 rfl (fun k hk => Nat.lt_of_lt_of_le hk K.size) (by simp)).mono ?_
  rintro e w2 ⟨rfl, hW, hK⟩
  replace K := K.trans hK
  clear hK
  go_wp2_with fail
  refine (WFlag_any hW _ (fun k hk => Nat.lt_of_lt_of_le hk K.size) (by simp [ofn])).mono ?_
  rintro e w3 ⟨rfl, hW, hK⟩
  replace K := K.trans hK
  clear hK
  go_wp2_with fail
  refine (Put_any hW _ 5 rfl (by omega) _ 5 rfl (fun k hk => Nat.lt_of_lt_of_le hk K.size) (by simp [ofn])).mono ?_
  rintro e w4 ⟨rfl, hW, hK⟩
  replace K := K.trans hK
  clear hK
  go_wp2_with fail
  refine (Out_any hW (by simp [ofn])).mono ?_
  rintro e w5 ⟨va, rfl, ho, hK⟩
  replace K := K.low hK (fun _ _ => trivial)
  clear hK hW
  have hA : pack ([] ++ ofn 2 2 ++ [true.toNat] ++ ofn 5 5) = [165] := by decide
  rw [hA] at ho
  clear hA
  have hsa := Sl.of_own ho
  clear ho
  go_wp2_with fail
  refine (Of_any (bs := [165, 15]) (Sl.lit w5 5 (bv [165, 15]) 2 2 rfl rfl (by simp [bv, maxLen])) (by intro b hb; simp at hb; omega) (by simp)).mono ?_
  rintro e w6 ⟨r, vr, rfl, hr, hR, hvr, hK⟩
  have hr0 : w.heap.size ≤ r := Nat.le_trans K.size (Nat.le_trans (by simp) hr)
  have hk := (K.alloc (.cells #[Value.int .u8 165, .int .u8 15] 5)).low hK (fun _ _ => trivial)
  replace hsa := (hsa.alloc (.cells #[Value.int .u8 165, .int .u8 15] 5)).all hK
  replace K := hk
  clear hK hk hr
  go_wp2_with fail
  refine (Of_any (bs := [165]) (Sl.lit w6 5 (bv [165]) 1 1 rfl rfl (by simp [bv, maxLen])) (by intro b hb; simp at hb; omega) (by simp)).mono ?_
  rintro e w7 ⟨s, vs, rfl, hs, hS, hvs, hK⟩
  have hsr : r < s := Nat.lt_of_lt_of_le hR.blk.lt (Nat.le_trans (by simp) hs)
  have hvr2 : ∀ g, vr.ownBlock = some g → g < s := fun g hg => Nat.lt_of_lt_of_le (hR.vlt g hg) (Nat.le_trans (by simp) hs)
  have hvs2 : ∀ g, vs.ownBlock = some g → r < g := fun g hg => Nat.lt_of_lt_of_le hR.blk.lt (Nat.le_trans (by simp) (hvs g hg))
  have hk := (K.alloc (.cells #[Value.int .u8 165] 5)).low hK (fun _ _ => trivial)
  replace hsa := (hsa.alloc (.cells #[Value.int .u8 165] 5)).all hK
  replace hR := (hR.alloc (.cells #[Value.int .u8 165] 5)).kp hK trivial (fun _ _ => trivial)
  replace K := hk
  clear hK hk hs
  go_wp2_with fail
  refine (SameBytes_any (hsa.alloc (.cells #[Value.int .u8 165] 5)) (Sl.lit w7 5 (bv [165]) 1 1 rfl rfl (by simp [bv, maxLen])) (by simp)).mono ?_
  rintro e w8 ⟨rfl, n1, rfl⟩
  replace hR := (hR.alloc (.cells #[Value.int .u8 165] 5)).drewN n1
  replace hS := (hS.alloc (.cells #[Value.int .u8 165] 5)).drewN n1
  replace K := (K.alloc (.cells #[Value.int .u8 165] 5)).drewN n1
  generalize ((w7.alloc (.cells #[Value.int .u8 165] 5)).drewN n1) = w8 at *
  clear hsa
  go_wp2_with fail
  refine (Take_lit hR _ 2 2 rfl (by decide) (by decide) (by decide)).mono ?_
  rintro e w9 ⟨rfl, hR, hK⟩
  replace hS := hS.kp hK (Ne.symm (Nat.ne_of_lt hsr)) (fun g hg => Ne.symm (Nat.ne_of_lt (hvs2 g hg)))
  replace K := K.low hK (fun _ h => by omega)
  clear hK
  go_wp2_with fail
  refine (RFlag_lit hR true (by decide) (by decide)).mono ?_
  rintro e w10 ⟨rfl, hR, hK⟩
  replace hS := hS.kp hK (Ne.symm (Nat.ne_of_lt hsr)) (fun g hg => Ne.symm (Nat.ne_of_lt (hvs2 g hg)))
  replace K := K.low hK (fun _ h => by omega)
  clear hK
  go_wp2_with fail
  refine (Take_lit hR _ 5 5 rfl (by decide) (by decide) (by decide)).mono ?_
  rintro e w11 ⟨rfl, hR, hK⟩
  replace hS := hS.kp hK (Ne.symm (Nat.ne_of_lt hsr)) (fun g hg => Ne.symm (Nat.ne_of_lt (hvs2 g hg)))
  replace K := K.low hK (fun _ h => by omega)
  clear hK
  go_wp2_with fail
  refine (RBytes_ok hR _ 1 rfl (by decide)).mono ?_
  rintro e w12 ⟨vb, rfl, ho, hR, hK⟩
  rw [show bys [165, 15] (0 + 2 + 1 + 5) 1 = [15] from by decide] at ho
  replace hS := hS.kp hK (Ne.symm (Nat.ne_of_lt hsr)) (fun g hg => Ne.symm (Nat.ne_of_lt (hvs2 g hg)))
  replace K := K.low hK (fun _ h => by omega)
  clear hK
  go_wp2_with fail
  refine (SameBytes_any ((Sl.of_own ho).alloc (.cells #[Value.int .u8 15] 5)) (Sl.lit w12 5 (bv [15]) 1 1 rfl rfl (by simp [bv, maxLen])) (by simp)).mono ?_
  rintro e w13 ⟨rfl, n2, rfl⟩
  replace hR := (hR.alloc (.cells #[Value.int .u8 15] 5)).drewN n2
  replace hS := (hS.alloc (.cells #[Value.int .u8 15] 5)).drewN n2
  replace K := (K.alloc (.cells #[Value.int .u8 15] 5)).drewN n2
  generalize ((w12.alloc (.cells #[Value.int .u8 15] 5)).drewN n2) = w13 at *
  clear ho
  go_wp2_with fail
  refine (rerr_any hR).mono ?_
  rintro e w' ⟨rfl, rfl⟩
  go_wp2_with fail
  refine (Take_lit hS _ 4 10 rfl (by decide) (by decide) (by decide)).mono ?_
  rintro e w14 ⟨rfl, hS, hK⟩
  replace K := K.low hK (fun _ h => by omega)
  clear hK hR
  go_wp2_with fail
  refine (Take_bad hS 5 (by decide)).mono ?_
  rintro e w15 ⟨rfl, hS, hK⟩
  rw [show tErr 0 5 (8 * ([165] : List Nat).length - ((0 + 4 : Nat) : Int)) = 10 from by decide] at hS
  replace K := K.low hK (fun _ h => by omega)
  clear hK
  go_wp2_with fail
  refine (left_any hS).mono ?_
  rintro e w' ⟨rfl, n3, rfl⟩
  replace hS := hS.drewN n3
  replace K := K.drewN n3
  generalize w15.drewN n3 = w16 at *
  go_wp2_with fail
  refine (rerr_any hS).mono ?_
  rintro e w' ⟨rfl, rfl⟩
  go_wp2_with fail
  refine (Pack_any (xs := [1, 2, 3]) (Sl.lit w' 28 (uv [1, 2, 3]) 3 3 rfl rfl (by simp [uv, maxLen])) (by intro b hb; simp at hb; omega) (by simp) 4).mono ?_
  rintro e w17 ⟨vp, rfl, ho, hK⟩
  rw [show pack (nd [1, 2, 3] (pk 4)) = [18, 48] from by decide] at ho
  replace K := (K.alloc (.cells (uv [1, 2, 3]).toArray 28)).low hK (fun _ _ => trivial)
  clear hK hS
  go_wp2_with fail
  refine (SameBytes_any ((Sl.of_own ho).alloc (.cells #[Value.int .u8 18, .int .u8 48] 5)) (Sl.lit w17 5 (bv [18, 48]) 2 2 rfl rfl (by simp [bv, maxLen])) (by simp)).mono ?_
  rintro e w18 ⟨rfl, n4, rfl⟩
  replace K := (K.alloc (.cells #[Value.int .u8 18, .int .u8 48] 5)).drewN n4
  go_wp2_with fail
  go_ret
  exact ⟨rfl, K.all⟩

theorem Sls.one {w : World} {v : Value} {bs : List Nat} (h : Sl w v (bv bs)) (hb : Bts bs) : Sls (fun _ => True) (w.alloc (.cells #[v] 32)) (.slice (some ⟨w.heap.size, 0, none⟩) 1 1) [bs] := by
  obtain ⟨A, cap, rfl⟩ := h.form8
  refine ⟨[.slice A bs.length cap], Sl.lit w 32 [.slice A bs.length cap] 1 1 rfl rfl (by simp [maxLen]), fun _ _ _ => trivial, rfl, fun i hi => ?_⟩
  have h0 : i = 0 := by simpa using hi
  subst h0
  exact ⟨hb, A, cap, rfl, h.alloc _, fun _ _ _ => trivial⟩

set_option maxHeartbeats 1000000 in
set_option maxRecDepth 100000 in
theorem BitsNone_any {w : World} (n d : Int) {v : Value} {bs : List Nat} (h : Sl w v (bv bs)) (hb : Bts bs) (hl : bs.length ≤ 9223372036854775807) :
    Calls Try.prog 4 #[.int .u64 n, .int .i64 d, v] w fun e w' => e = .returned (.bool true) ∧ Kp (fun _ => True) w w' := by
  have hls := Sls.one h hb
  obtain ⟨A, cap, rfl⟩ := h.form8
  go_enter Try.func4, Try.ntmps4
  go_wp2_with (first
    | (go_at_call 25; refine (Skip_nil _ _).mono ?_; rintro e w' ⟨rfl, rfl⟩)
    | (go_at_call 20; refine (Take_nil _ _).mono ?_; rintro e w' ⟨rfl, rfl⟩)
    | (go_at_call 23; refine (RFlag_nil _).mono ?_; rintro e w' ⟨rfl, rfl⟩)
    | (go_at_call 26; refine (RBytes_nil _ _).mono ?_; rintro e w' ⟨rfl, rfl⟩)
    | (go_at_call 24; refine (Rest_nil _).mono ?_; rintro e w' ⟨rfl, rfl⟩)
    | (go_at_call 21; refine (left_nil _).mono ?_; rintro e w' ⟨rfl, rfl⟩)
    | (go_at_call 22; refine (rerr_nil _).mono ?_; rintro e w' ⟨rfl, rfl⟩)
    | (go_at_call 16; refine (Put_nil _ _ _).mono ?_; rintro e w' ⟨rfl, rfl⟩)
    | (go_at_call 27; refine (WFlag_nil _ _).mono ?_; rintro e w' ⟨rfl, rfl⟩)
    | (go_at_call 28; refine (WBytes_nil hls (by simp) (by simpa using hl)).mono ?_; rintro e w' ⟨rfl, rfl⟩)
    | (go_at_call 29; refine (Fill_nil _ _).mono ?_; rintro e w' ⟨rfl, rfl⟩)
    | (go_at_call 30; refine (WLen_nil _).mono ?_; rintro e w' ⟨rfl, rfl⟩)
    | (go_at_call 19; refine (Out_nil _).mono ?_; rintro e w' ⟨rfl, rfl⟩)
    | (go_at_call 14; refine (works01_any _).mono ?_; rintro e w2 ⟨rfl, hK⟩))
  go_ret
  exact ⟨rfl, ((Kp.refl _ _).alloc _).trans hK⟩
end Go.Proofs.Ytoonnlphfanmhaa
