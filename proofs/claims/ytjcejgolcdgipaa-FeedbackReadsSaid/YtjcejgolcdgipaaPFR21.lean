/- Texts of this session, one behind the other, what the row does not use left out: walks and laws over plain data. -/
import Derived.Test.YtjcejgolcdgipaaPFR15
import Derived.Test.YtjcejgolcdgipaaPFR16
import Derived.Test.YtjcejgolcdgipaaPFR17
import Derived.Test.YtjcejgolcdgipaaPFR18
import Derived.Test.YtjcejgolcdgipaaPFR20
import Derived.Test.YtjcejgolcdgipaaPFR9
import Derived.Test.YtjcejgolcdgipaaPFR10
import Derived.Test.YtjcejgolcdgipaaPFR11

namespace Go.Proofs.Ytjcejgolcdgipaa.K7
open Go.RowKit Go.Proofs.YtjcejgolcdgipaaW.PrintWords Go.Proofs.YtjcejgolcdgipaaW.PrintLast Go.Proofs.YtjcejgolcdgipaaW.PrintMore
set_option linter.unusedVariables false

def mp (x : S82) : S115 := ⟨x.f0, x.f1⟩
def mo (x : S134) : S119 := ⟨x.f0, x.f1⟩
theorem wsucc (i : Nat) (h : i ≤ 1000000000) : wrap64 ((i : Int) + 1) = ((i + 1 : Nat) : Int) := by
  unfold wrap64; omega
theorem evg_pairs_l (N : List S82) (hl : N.length ≤ 1000000) : ∀ d i, i + d = N.length → Ev (fun k => easellaw07_pairs.l0 k N ((N.take i).map mp) (i : Int)) (N.map mp)
  | 0, i, h => Ev.step (f := fun _ => some (N.map mp)) (fun k => by
      simp only [easellaw07_pairs.l0]
      rw [if_neg (by omega), List.take_of_length_le (by omega)]) (Ev.now _)
  | d + 1, i, h => Ev.step (f := fun k => easellaw07_pairs.l0 k N ((N.take (i + 1)).map mp) ((i + 1 : Nat) : Int)) (fun k => by
      have hi : i < N.length := by omega
      have e1 : rd_T82 N (i : Int) = N[i] := by simp [rd_T82, hi]
      simp only [easellaw07_pairs.l0]
      rw [if_pos (by omega), if_pos (by omega), if_pos (by rw [List.length_map, List.length_take]; omega), wsucc i (by omega), e1, List.take_succ_eq_append_getElem hi, List.map_append]
      rfl) (evg_pairs_l N hl d (i + 1) (by omega))
theorem evg_pairs (N : List S82) (hl : N.length ≤ 1000000) : Ev (fun k => easellaw07_pairs.f k N) (N.map mp) := evg_pairs_l N hl N.length 0 (by omega)
theorem ev_ref_l (a b c : Int) (ps : List S82) (N : List S134) (e f : Int) (ss : List Int) (rp : List S115) (hl : N.length ≤ 1000000) (hs : ss.length ≤ 1000000) : ∀ d i, i + d = N.length → Ev (fun k => easellaw07_ref.l0 k (i : Int) a b c ps N e f ss a b c rp ((N.take i).map mo) e f) (a, b, c, rp, N.map mo, e, f, ss)
  | 0, i, h => Ev.step (f := fun _ => some (a, b, c, rp, N.map mo, e, f, ss)) (fun k => by
      simp only [easellaw07_ref.l0]
      rw [if_neg (by omega), List.take_of_length_le (by omega), if_pos (by rw [List.length_nil]; omega), List.nil_append]) (Ev.now _)
  | d + 1, i, h => Ev.step (f := fun k => easellaw07_ref.l0 k ((i + 1 : Nat) : Int) a b c ps N e f ss a b c rp ((N.take (i + 1)).map mo) e f) (fun k => by
      have hi : i < N.length := by omega
      have e1 : rd_T134 N (i : Int) = N[i] := by simp [rd_T134, hi]
      simp only [easellaw07_ref.l0]
      rw [if_pos (by omega), if_pos (by omega), if_pos (by rw [List.length_map, List.length_take]; omega), wsucc i (by omega), e1, List.take_succ_eq_append_getElem hi, List.map_append]
      rfl) (ev_ref_l a b c ps N e f ss rp hl hs d (i + 1) (by omega))
theorem ev_ref (a b c : Int) (ps : List S82) (N : List S134) (e f : Int) (ss : List Int) (hp : ps.length ≤ 1000000) (hl : N.length ≤ 1000000) (hs : ss.length ≤ 1000000) : Ev (fun k => easellaw07_ref.f k a b c ps N e f ss) (a, b, c, ps.map mp, N.map mo, e, f, ss) := by
  unfold easellaw07_ref.f
  exact Ev.bind (evg_pairs ps hp) (ev_ref_l a b c ps N e f ss (ps.map mp) hl hs N.length 0 (by omega))
theorem ev_spoil2 (a b c e f : Int) (ps : List S82) (os : List S134) : ∀ d i (ss : List Int), ss.length ≤ 1000000 → i + d = ss.length → ∃ r, Ev (fun k => easellaw07_spoil.l2 k (i : Int) a b c ps os e f ss) r
  | 0, i, ss, hl, h => ⟨_, Ev.step (f := fun _ => some (ps, os, ss)) (fun k => by simp only [easellaw07_spoil.l2]; rw [if_neg (by omega)]) (Ev.now _)⟩
  | d + 1, i, ss, hl, h => by
    obtain ⟨r, hr⟩ := ev_spoil2 a b c e f ps os d (i + 1) (ss.set i 7) (by rw [List.length_set]; omega) (by rw [List.length_set]; omega)
    refine ⟨r, Ev.step (fun k => ?_) hr⟩
    simp only [easellaw07_spoil.l2]
    rw [if_pos (by omega), if_pos (by omega), wsucc i (by omega), Int.toNat_natCast]
theorem ev_spoil1 (a b c e f : Int) (ps : List S82) (ss : List Int) (hs : ss.length ≤ 1000000) : ∀ d i (os : List S134), os.length ≤ 1000000 → i + d = os.length → ∃ r, Ev (fun k => easellaw07_spoil.l1 k (i : Int) a b c ps os e f ss) r
  | 0, i, os, hl, h => by
    obtain ⟨r, hr⟩ := ev_spoil2 a b c e f ps os ss.length 0 ss hs (by omega)
    exact ⟨r, Ev.step (fun k => by simp only [easellaw07_spoil.l1]; rw [if_neg (by omega)]; rfl) hr⟩
  | d + 1, i, os, hl, h => by
    obtain ⟨r, hr⟩ := ev_spoil1 a b c e f ps ss hs d (i + 1) (os.set i ⟨0, 7⟩) (by rw [List.length_set]; omega) (by rw [List.length_set]; omega)
    refine ⟨r, Ev.step (fun k => ?_) hr⟩
    simp only [easellaw07_spoil.l1]
    rw [if_pos (by omega), if_pos (by omega), wsucc i (by omega), Int.toNat_natCast]
theorem ev_spoil0 (a b c e f : Int) (os : List S134) (ss : List Int) (ho : os.length ≤ 1000000) (hs : ss.length ≤ 1000000) : ∀ d i (ps : List S82), ps.length ≤ 1000000 → i + d = ps.length → ∃ r, Ev (fun k => easellaw07_spoil.l0 k (i : Int) a b c ps os e f ss) r
  | 0, i, ps, hl, h => by
    obtain ⟨r, hr⟩ := ev_spoil1 a b c e f ps ss hs os.length 0 os ho (by omega)
    exact ⟨r, Ev.step (fun k => by simp only [easellaw07_spoil.l0]; rw [if_neg (by omega)]; rfl) hr⟩
  | d + 1, i, ps, hl, h => by
    obtain ⟨r, hr⟩ := ev_spoil0 a b c e f os ss ho hs d (i + 1) (ps.set i ⟨7, 0⟩) (by rw [List.length_set]; omega) (by rw [List.length_set]; omega)
    refine ⟨r, Ev.step (fun k => ?_) hr⟩
    simp only [easellaw07_spoil.l0]
    rw [if_pos (by omega), if_pos (by omega), wsucc i (by omega), Int.toNat_natCast]
theorem ev_spoil (a b c : Int) (ps : List S82) (os : List S134) (e f : Int) (ss : List Int) (hp : ps.length ≤ 1000000) (ho : os.length ≤ 1000000) (hs : ss.length ≤ 1000000) : ∃ k r1 r2 r3, easellaw07_spoil.f k a b c ps os e f ss = some (r1, r2, r3) := by
  obtain ⟨⟨r1, r2, r3⟩, hr⟩ := ev_spoil0 a b c e f os ss ho hs ps.length 0 ps hp (by omega)
  obtain ⟨k, hk⟩ := hr.rounds
  exact ⟨k, r1, r2, r3, hk⟩
theorem rsame_self (a0 a1 a2 : Int) (a3 : List S115) (a4 : List S119) (a5 a6 : Int) (a7 : List Int) (h3 : a3.length ≤ 1000000) (h4 : a4.length ≤ 1000000) (h7 : a7.length ≤ 1000000) : r7_Same.f a0 a1 a2 a3 a4 a5 a6 a7 a0 a1 a2 a3 a4 a5 a6 a7 = some true := by
  unfold r7_Same.f
  rw [if_pos ⟨h3, h4, h7⟩]
  congr 1
  exact decide_eq_true ⟨rfl, rfl, rfl, rfl, rfl, rfl, rfl, rfl⟩
theorem ev_bytes_l (a : List Int) (hl : a.length ≤ 1000000) : ∀ d i, i + d = a.length → Ev (fun k => easelref02_SameBytes.l0 k a a (i : Int)) true
  | 0, i, h => Ev.step (f := fun _ => some true) (fun k => by simp only [easelref02_SameBytes.l0]; rw [if_neg (by omega)]) (Ev.now _)
  | d + 1, i, h => Ev.step (f := fun k => easelref02_SameBytes.l0 k a a ((i + 1 : Nat) : Int)) (fun k => by
      simp only [easelref02_SameBytes.l0]
      rw [if_pos (by omega), if_pos (by omega), if_pos (by omega), if_pos trivial, wsucc i (by omega)]) (ev_bytes_l a hl d (i + 1) (by omega))
theorem ev_bytes (a : List Int) (hl : a.length ≤ 1000000) : Ev (fun k => easelref02_SameBytes.f k a a) true :=
  Ev.congr (fun k => by unfold easelref02_SameBytes.f; rw [if_pos rfl]; rfl) (ev_bytes_l a hl a.length 0 (by omega))
theorem rtcp_copy (a b : Int) (l : List Int) (c : Int) (hl : l.length ≤ 1000000) : easeldocs_Rtcp.f a b l c = some (a, b, l, c) := by
  unfold easeldocs_Rtcp.f easelkit_Own.f
  rw [if_pos (by rw [List.length_nil]; omega), Option.bind_some, List.nil_append]
theorem ev_rtcps (a b : Int) (l : List Int) (c : Int) (hl : l.length ≤ 1000000) : ∃ k, easeldocs_SameRtcps.f k [⟨a, b, l, c⟩] [⟨a, b, l, c⟩] = some true := by
  obtain ⟨k, hk⟩ := (ev_bytes l hl).rounds
  have h1 : easelref06_Same.f k a b l c a b l c = some true := by
    unfold easelref06_Same.f
    rw [if_pos rfl, if_pos rfl, if_pos rfl, hk]
    rfl
  have h2 : easeldocs_SameRtcps.l0 (k + 1) [⟨a, b, l, c⟩] [⟨a, b, l, c⟩] 1 = some true := by
    simp only [easeldocs_SameRtcps.l0]
    rfl
  have h1' : easelref06_Same.f (k + 1) a b l c a b l c = some true := (easelref06_Same.mono _ _ _ _ _ _ _ _ k) _ h1
  refine ⟨k + 2, ?_⟩
  unfold easeldocs_SameRtcps.f
  refine (if_pos (by rfl)).trans ?_
  rw [easeldocs_SameRtcps.l0]
  rw [if_pos (by simp), if_pos (by decide)]
  show (easeldocs_Rtcp.f a b l c).bind _ = some true
  rw [rtcp_copy a b l c hl, Option.bind_some, if_pos (by simp)]
  show (easelref06_Same.f (k + 1) a b l c a b l c).bind _ = some true
  have hw : wrap64 (0 + 1) = 1 := by unfold wrap64; omega
  rw [h1', Option.bind_some, if_pos rfl, hw]
  exact h2
theorem ev_rsort (ct kd : Nat) (l : List Int) (c : Int) : easelref07_Sort.f 3 (ct : Int) (kd : Int) l c = some ((sortOf kd ct : Nat) : Int) := by
  unfold easelref07_Sort.f
  simp only [easelref07_Sort.j0, easelref07_Sort.j1, easelref07_Sort.j2]
  unfold sortOf
  by_cases k5 : kd = 205
  · subst k5
    by_cases c1 : ct = 1
    · subst c1; rfl
    · have : ((ct : Int) == 1) = false := by rw [beq_eq_false_iff_ne]; omega
      simp [this, c1]
  · have g5 : ¬ ((kd : Int) = 205) := by omega
    by_cases k6 : kd = 206
    · subst k6
      by_cases c1 : ct = 1
      · subst c1; rfl
      · have g1 : ((ct : Int) == 1) = false := by rw [beq_eq_false_iff_ne]; omega
        by_cases c4 : ct = 4
        · subst c4; rfl
        · have g4 : ((ct : Int) == 4) = false := by rw [beq_eq_false_iff_ne]; omega
          by_cases c15 : ct = 15
          · subst c15; rfl
          · have g15 : ¬ ((ct : Int) = 15) := by omega
            simp [g1, g4, g15, c1, c4, c15]
    · have g6 : ¬ ((kd : Int) = 206) := by omega
      simp [g5, g6, k5, k6]
end Go.Proofs.Ytjcejgolcdgipaa.K7

namespace Go.Proofs.Ytjcejgolcdgipaa.K7
open Go.RowKit Go.Proofs.YtjcejgolcdgipaaW.PrintWords Go.Proofs.YtjcejgolcdgipaaW.PrintLast Go.Proofs.YtjcejgolcdgipaaW.PrintMore
set_option linter.unusedVariables false

/-- easelref07.Parse, for all packets. -/
theorem rparse_any {w : World} {A : Option Addr} {n c : Nat} {bs : List Nat} (ct kd pd : Nat) (hs : Sl w (.slice A n c) (bv bs)) (hn : n = bs.length) (hb : Bts bs) (hl : bs.length ≤ 1000000) :
    Calls Try.prog 24 #[.agg #[.int .u8 (ct : Int), .int .u8 (kd : Int), .slice A n c, .int .u8 (pd : Int)]] w fun e_ w' => PMr w w' e_ (parseP kd ct bs) := by
  unfold parseP
  rcases sortOf_lt5 kd ct with h | h | h | h | h <;> rw [h]
  · exact rparse0_any ct kd pd hs hn hb hl h
  · exact rparse1_any ct kd pd hs hn hb hl h
  · exact rparse2_any ct kd pd hs hn hb hl h
  · exact rparse3_any ct kd pd hs hn hb hl h
  · exact rparse4_any ct kd pd hs hn hb hl h
def toRO (p : Nat × Nat) : S119 := ⟨(p.1 : Int), (p.2 : Int)⟩
theorem R_rorders {w : World} {base : Nat} {v : Value} {ps : List (Nat × Nat)} (h : w.ownsRow base 119 2 v ps.length (ocs ps)) : Kd.R k119 119 w base (fun _ => True) v (ps.map toRO) := by
  refine ⟨fun _ _ => trivial, ocs ps, by rw [List.length_map]; exact h, by rw [List.length_map, ocs_length]; rfl, fun j p hj => ?_⟩
  rw [List.getElem?_map] at hj
  obtain ⟨x, hx, rfl⟩ := Option.map_eq_some_iff.1 hj
  show k119.M w base _ _ (((ocs ps).drop (j * 2)).take 2)
  rw [ocs_seg ps j x hx]
  exact ⟨[_], [_], rfl, rfl, rfl⟩
theorem toP_mp (l : List (Nat × Nat)) : (l.map toP).map mp = l.map toRP := by rw [List.map_map]; rfl
theorem toO_mo (l : List (Nat × Nat)) : (l.map toO).map mo = l.map toRO := by rw [List.map_map]; rfl
def PMtr (P : PM) : Int × Int × Int × List S115 × List S119 × Int × Int × List Int × Int := ((P.sort : Int), (P.sd : Int), (P.md : Int), P.ps.map toRP, P.os.map toRO, (P.e : Int), (P.m : Int), ib P.ss, (P.err : Int))
def r7_Parse.f (a0 a1 : Int) (l2 : List Int) (a3 : Int) : Option (Int × Int × Int × List S115 × List S119 × Int × Int × List Int × Int) :=
  if (0 ≤ a0 ∧ a0 < 256) ∧ (0 ≤ a1 ∧ a1 < 256) ∧ (0 ≤ a3 ∧ a3 < 256) ∧ OkN 256 l2 ∧ l2.length ≤ 1000000 then some (PMtr (parseP a1.toNat a0.toNat (nb l2))) else none
theorem r7_Parse.calls (a0_0 : Int) (a0_1 : Int) (A0_2 : Option Addr) (c0_2 : Nat) (l0_2 : List Int) (a0_3 : Int) (r1 : Int) (r2 : Int) (r3 : Int) (r4 : List (S115)) (r5 : List (S119)) (r6 : Int) (r7 : Int) (r8 : List Int) (r9 : Int) (w : World) (hr0_2 : Kd.C (Kd.int .u8) w A0_2 l0_2.length l0_2) (hc0_2 : l0_2.length ≤ c0_2) (h : r7_Parse.f a0_0 a0_1 l0_2 a0_3 = some (r1, r2, r3, r4, r5, r6, r7, r8, r9)) :
    Calls Try.prog 24 #[.agg #[.int .u8 a0_0, .int .u8 a0_1, .slice A0_2 l0_2.length c0_2, .int .u8 a0_3]] w fun e w' => ∃ v3_ v4_ v7_ : Value, e = .returned (.tuple #[.agg #[.int .u8 r1, .int .u32 r2, .int .u32 r3, v3_, v4_, .int .u8 r6, .int .u32 r7, v7_], .int .i64 r9]) ∧ Kd.R k115 115 w' w.heap.size (fun _ => True) v3_ r4 ∧ Kd.R k119 119 w' w.heap.size (fun _ => True) v4_ r5 ∧ Kd.R (Kd.int .u32) 28 w' w.heap.size (fun _ => True) v7_ r8 ∧ Below w.heap.size w w' := by
  unfold r7_Parse.f at h
  split at h
  · rename_i hc
    obtain ⟨h1, h2, h3, h4, h5⟩ := hc
    obtain ⟨x0, rfl⟩ := Int.eq_ofNat_of_zero_le h1.1
    obtain ⟨x1, rfl⟩ := Int.eq_ofNat_of_zero_le h2.1
    obtain ⟨x3, rfl⟩ := Int.eq_ofNat_of_zero_le h3.1
    simp only [Int.toNat_natCast] at h
    injection h with h
    simp only [PMtr, Prod.mk.injEq] at h
    obtain ⟨rfl, rfl, rfl, rfl, rfl, rfl, rfl, rfl, rfl⟩ := h
    refine (rparse_any x0 x1 x3 (sl_u8 hr0_2 hc0_2 h4) (nb_length _).symm (nb_lt (B := 256) h4) (by rw [nb_length]; exact h5)).mono ?_
    rintro e w' ⟨vp, vo, vs, rfl, o1, o2, o3, hk⟩
    exact ⟨vp, vo, vs, rfl, R_of_rpairs o1, R_rorders o2, R_srcs o3, kp_below' hk⟩
  · cases h
end Go.Proofs.Ytjcejgolcdgipaa.K7
