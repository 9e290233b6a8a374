/- Package ext's Parse, the form of two bytes; and all. -/
import Derived.Test.YtoonnlphfanmhaaExtC
namespace Go.Proofs.Ytoonnlphfanmhaa
open Go.RowKit

set_option maxHeartbeats 4000000 in
set_option maxRecDepth 100000 in
theorem extParse_two {w : World} {v : Value} {bs : List Nat} (p : Nat) (hp6 : p < 65536) (h2p : isTwo p = true) (h : Sl w v (bv bs)) (hb : Bts bs) (hl : bs.length ≤ 1000000) :
    Calls Try.prog 36 #[.int .u16 p, v] w fun e w' => ∃ lv, e = .returned (.tuple #[lv, .int .i64 (extP p bs).2]) ∧ ElsS w.heap.size 64 w' lv (extP p bs).1 ∧ Kp (fun _ => True) w w' := by
  have hkn : isKnown p = true := by unfold isKnown; simp [h2p]
  have hon : isOne p = false := by unfold isOne; unfold isTwo at h2p; simp at h2p; simp; omega
  have H2 := hd h2p
  clear h2p
  obtain ⟨A, cap, rfl⟩ := h.form8
  have hmf : ∀ (fn : Fn) (first cap : Array Value) (w : World), (Instr.makeFunc fn first cap).run Try.prog w = .ok (.func fn first cap) w := fun _ _ _ _ => rfl
  by_cases h4 : bs.length % 4 ≠ 0
  · have hX : extP p bs = ([], 3) := by unfold extP; rw [if_neg (by rw [hkn]; decide), if_pos h4]
    rw [hX]
    have hq : ((bs.length : Int) % 4 != 0) = true := by rw [bne_iff_ne]; omega
    clear hX h4
    go_enter Try.func36, Try.ntmps36
    go_wp2
    go_step3
    go_wp2_with (go_at_call 75; refine (extOf_two p _ hp6 H2.out).mono ?_; rintro e w1 ⟨rfl, hK1⟩; unfold form2)
    rw [Exit.noGoto_ret]
    go_ret2
    exact ⟨_, rfl, ElsS.nil _ _ _, hK1.alloc _⟩
  have hX : extP p bs = prs false bs (bs.length + 1) 0 [] := by unfold extP; rw [if_neg (by rw [hkn]; decide), if_neg h4, hon]
  have hS0 : Still false bs (extP p bs) 0 [] := ⟨bs.length + 1, by omega, hX.symm⟩
  generalize extP p bs = R at *
  have hq : ((bs.length : Int) % 4 != 0) = false := by rw [bne_eq_false_iff_eq]; omega
  clear hX h4
  obtain ⟨i0, hi0, hz0, hz1, hz2⟩ := info_parts Try.info_El
  go_enter Try.func36, Try.ntmps36
  go_wp2
  go_step3
  go_wp2_with (first | (go_at_call 75; refine (extOf_two p _ hp6 H2.out).mono ?_; rintro e w1 ⟨rfl, hK1⟩; unfold form2) | (go_at_call 18; refine (Of_any ((h.all hK1).alloc _) hb (by omega)).mono ?_; rintro e w2 ⟨q, vr, rfl, hp, hR, hv, hK2⟩))
  go_step3
  go_wp2
  obtain ⟨B, hB⟩ : ∃ B, B = w2.heap.size + 1 := ⟨_, rfl⟩
  have hP0 : PS w (w2.alloc (.cells #[.pointer (some ⟨q, 0, none⟩), .func (Fn.func 20) #[.pointer (some ⟨q, 0, none⟩)] #[]] 121)) B w1.heap.size w2.heap.size q 8 0 256 bs vr 0 0 (.slice none 0 0) [] := by
    have h1 := hR.blk.lt
    have h2 := hK1.size
    have h3 := hK2.size
    simp at hp h3
    exact ⟨ElsS.nil _ _ _, hR.alloc _, ⟨_, _, _, ((Blk.new w1 _ _).kp hK2 trivial).alloc _⟩, Blk.new _ _ _, by simp; omega, ((((hK1.alloc _).trans hK2).alloc _).mono fun _ _ _ => trivial), by omega, by omega, by omega, fun g hg => by have := hR.vlt g hg; omega, by omega⟩
  clear hR hv hK2 hp hB
  go_loopg [8] bs.length (fun (g : Nat) (ov : Value) (wr : World) => ∃ (i : Nat) (acc : List (Nat × List Nat)), g = bs.length - i ∧ i ≤ bs.length ∧ acc.length ≤ i ∧ Still false bs R i acc ∧ PS w wr B w1.heap.size w2.heap.size q 8 0 256 bs vr (8 * i) 0 ov acc)
  case atStart => exact ⟨0, [], rfl, Nat.zero_le _, Nat.le_refl _, hS0, hP0⟩
  case round =>
    obtain ⟨i, acc, hg, hi, hacc, hS, hP⟩ := hrel
    obtain ⟨d0, d1, d5, t0, t1⟩ := hP.cells
    by_cases hlt : i < bs.length
    · have hpos : decide ((0 : Int) < 8 * (bs.length : Int) - ((8 * i : Nat) : Int)) = true := decide_eq_true (by omega)
      have A1 := hS.pad hlt
      have A4 := hS.short2 hlt
      have A5 := hS.two_ hlt
      have hX := hb.getD i
      have hv1 := hd (vl_byte bs i hX)
      generalize bs.getD i 0 = X at *
      have hq15 : ((X : Int) == 256) = false := by rw [beq_eq_false_iff_ne]; omega
      clear hS
      by_cases hX0 : X = 0
      · have hq0 : ((X : Int) == 0) = true := by rw [beq_iff_eq]; omega
        have HS := hd (A1 hX0)
        clear A1 A4 A5 hX0
        go_wp2_with (first | (go_at_call 21; refine (left_any hP.rd).mono ?_; rintro e w4 ⟨rfl, n4, rfl⟩) | (go_at_call 20; refine (Take_lit (hP.drewN n4).rd 8 8 (X : Int) rfl (by rw [hv1.out]) (by decide) (by omega)).mono ?_; rintro e w5 ⟨rfl, hR5, hK5⟩; have hP5 := (hP.drewN n4).moved hR5 hK5; obtain ⟨e0, e1, e5, s0, s1⟩ := hP5.cells))
        go_roundg (bs.length - (i + 1))
        case measure => omega
        case rel =>
          rw [show 8 * i + 8 = 8 * (i + 1) from by omega] at hP5
          exact ⟨i + 1, acc, rfl, by omega, by omega, HS.out, hP5⟩
      have hq0 : ((X : Int) == 0) = false := by rw [beq_eq_false_iff_ne]; omega
      by_cases hi1 : bs.length ≤ i + 1
      · have HR := hd (A4 hX0 (.inl hi1))
        have hte : Hd (tErr 0 8 (8 * bs.length - (8 * i + 8 : Nat)) = 10) := by
          show tErr 0 8 _ = 10
          unfold tErr
          rw [if_neg (by decide), if_neg (by decide), if_pos (by omega)]
        have hbe : Hd (bErr 10 0 (8 * bs.length - (8 * i + 8 : Nat)) = 10) := by
          show bErr 10 0 _ = 10
          unfold bErr
          rw [if_pos (by decide)]
        clear A1 A4 A5 hX0
        go_wp2_with (first | (go_at_call 21; refine (left_any hP.rd).mono ?_; rintro e w4 ⟨rfl, n4, rfl⟩) | (go_at_call 20; refine (Take_lit (hP.drewN n4).rd 8 8 (X : Int) rfl (by rw [hv1.out]) (by decide) (by omega)).mono ?_; rintro e w5 ⟨rfl, hR5, hK5⟩; have hP5 := (hP.drewN n4).moved hR5 hK5; obtain ⟨e0, e1, e5, s0, s1⟩ := hP5.cells) | (go_at_call 20; refine (Take_bad hP5.rd 8 (by rw [hte.out]; decide)).mono ?_; rw [hte.out]; rintro e w6 ⟨rfl, hR6, hK6⟩; have hP6 := hP5.moved hR6 hK6; obtain ⟨f0, f1, f5, r0, r1⟩ := hP6.cells) | (go_at_call 26; refine (RBytes_bad hP6.rd 0 (by omega) (by omega) (by rw [hbe.out]; decide)).mono ?_; rw [hbe.out]; rintro e w7 ⟨rfl, hR7, hK7⟩; have hP7 := (hP6.moved hR7 hK7).alloc (.cells #[.int .u8 (X : Int), .slice none 0 0] 64); obtain ⟨g0, g1, g5, q0, q1⟩ := hP7.cells) | (go_at_call 22; refine (rerr_any hP7.rd).mono ?_; rintro e w8 ⟨rfl, rfl⟩))
        rw [Exit.noGoto_ret]
        go_ret2
        rw [HR.out]
        exact ⟨_, rfl, ElsS.nil _ _ _, hP7.fin.2⟩
      have hm := hb.getD (i + 1)
      have hv2 := hd (vl_byte bs (i + 1) hm)
      rw [show 8 * (i + 1) = 8 * i + 8 from by omega] at hv2
      generalize bs.getD (i + 1) 0 = m at *
      by_cases hsh : bs.length < i + 2 + m
      · have HR := hd (A4 hX0 (.inr hsh))
        have hbe : Hd (bErr 0 (m : Int) (8 * bs.length - (8 * i + 8 + 8 : Nat)) = 10) := by
          show bErr 0 _ _ = 10
          unfold bErr
          rw [if_neg (by decide), if_neg (by omega), if_pos (by omega)]
        clear A1 A4 A5 hX0
        go_wp2_with (first | (go_at_call 21; refine (left_any hP.rd).mono ?_; rintro e w4 ⟨rfl, n4, rfl⟩) | (go_at_call 20; refine (Take_lit (hP.drewN n4).rd 8 8 (X : Int) rfl (by rw [hv1.out]) (by decide) (by omega)).mono ?_; rintro e w5 ⟨rfl, hR5, hK5⟩; have hP5 := (hP.drewN n4).moved hR5 hK5; obtain ⟨e0, e1, e5, s0, s1⟩ := hP5.cells) | (go_at_call 20; refine (Take_lit hP5.rd 8 8 (m : Int) rfl (by rw [hv2.out]) (by decide) (by omega)).mono ?_; rintro e w6 ⟨rfl, hR6, hK6⟩; have hP6 := hP5.moved hR6 hK6; obtain ⟨f0, f1, f5, r0, r1⟩ := hP6.cells) | (go_at_call 26; refine (RBytes_bad hP6.rd (m : Int) (by omega) (by omega) (by rw [hbe.out]; decide)).mono ?_; rw [hbe.out]; rintro e w7 ⟨rfl, hR7, hK7⟩; have hP7 := (hP6.moved hR7 hK7).alloc (.cells #[.int .u8 (X : Int), .slice none 0 0] 64); obtain ⟨g0, g1, g5, q0, q1⟩ := hP7.cells) | (go_at_call 22; refine (rerr_any hP7.rd).mono ?_; rintro e w8 ⟨rfl, rfl⟩))
        rw [Exit.noGoto_ret]
        go_ret2
        rw [HR.out]
        exact ⟨_, rfl, ElsS.nil _ _ _, hP7.fin.2⟩
      have HS := A5 hX0 (by omega) (by omega)
      have hby : Hd (bys bs (8 * i + 8 + 8) m = (bs.drop (i + 2)).take m) := by
        show _ = _
        rw [show 8 * i + 8 + 8 = 8 * (i + 2) from by omega]
        exact bys_whole hb (i + 2) m (by omega)
      have hdl : Hd (((bs.drop (i + 2)).take m).length = m) := by show _ = _; rw [List.length_take, List.length_drop]; omega
      have hdb : Bts ((bs.drop (i + 2)).take m) := (hb.drop _).take _
      generalize (bs.drop (i + 2)).take m = d at *
      clear A1 A4 A5 hX0
      go_wp2_with (first | (go_at_call 21; refine (left_any hP.rd).mono ?_; rintro e w4 ⟨rfl, n4, rfl⟩) | (go_at_call 20; refine (Take_lit (hP.drewN n4).rd 8 8 (X : Int) rfl (by rw [hv1.out]) (by decide) (by omega)).mono ?_; rintro e w5 ⟨rfl, hR5, hK5⟩; have hP5 := (hP.drewN n4).moved hR5 hK5; obtain ⟨e0, e1, e5, s0, s1⟩ := hP5.cells) | (go_at_call 20; refine (Take_lit hP5.rd 8 8 (m : Int) rfl (by rw [hv2.out]) (by decide) (by omega)).mono ?_; rintro e w6 ⟨rfl, hR6, hK6⟩; have hP6 := hP5.moved hR6 hK6; obtain ⟨f0, f1, f5, r0, r1⟩ := hP6.cells) | (go_at_call 26; refine (RBytes_ok hP6.rd (m : Int) m rfl (by omega)).mono ?_; rw [hby.out]; rintro e w7 ⟨v7, rfl, ho7, hR7, hK7⟩; obtain ⟨A7, k7, rfl⟩ := (Sl.of_own ho7).form; have hP7 := (hP6.moved hR7 hK7).alloc (.cells #[.int .u8 (X : Int), .slice A7 (bv d).length k7] 64); obtain ⟨g0, g1, g5, q0, q1⟩ := hP7.cells; have ho8 := own_mono (own_kp ho7 ((Kp.refl (fun _ => True) w7).alloc (.cells #[.int .u8 (X : Int), .slice A7 (bv d).length k7] 64)) (fun _ _ _ => trivial)) hP6.size; obtain ⟨L, hLo, hLl, hLi⟩ := hP6.els.fresh (hK7.alloc (.cells #[.int .u8 (X : Int), .slice A7 (bv d).length k7] 64)) (fun g hg => (by have := hP6.pB; omega)); have hge : Hd (∀ k, (Value.slice A7 (bv d).length k7).ownBlock = some k → w6.heap.size ≤ k) := (fun k hk => (ho7.lt k hk).1); have hsz : Hd (w7.heap.size + 1 = (w7.alloc (.cells #[.int .u8 (X : Int), .slice A7 (bv d).length k7] 64)).heap.size) := (by show _ = _; simp)) | (go_at_call 22; refine (rerr_any hP7.rd).mono ?_; rintro e w8 ⟨rfl, rfl⟩) | (at_builtin; (refine wpList_app rfl (.tmp 83) (.tmp 85) 58 rfl B 64 i0 _ 2 32 Try.underlying58 hi0 hz0 hz1 hz2 rfl (by decide) _ acc.length (els L) (by exact rfl) hLo [.int .u8 (X : Int), .slice A7 (bv d).length k7] 1 (Eq.trans rfl (congrArg (fun n => Value.slice (some ⟨n, 0, none⟩) 1 1) hsz.out)) rfl (el_oneCell _ _ _ _) (by omega) (by decide) hP7.size ?_); intro g9 c9 w9 ho9 hg9 _))
      go_roundg (bs.length - (i + 2 + m))
      case measure => omega
      case rel =>
        have hdl2 := hdl.out
        rw [← hdl2] at ho8
        have hE2 : ElsS B 64 w9 _ (acc ++ [(X, d)]) := elsS_snoc hLl hLi.out hge.out ho8 (by omega) hdb (by decide) hLo ho9 hg9
        have hPn := hP7.grow hg9 hE2
        rw [show 8 * i + 8 + 8 + 8 * m = 8 * (i + 2 + m) from by omega] at hPn
        exact ⟨i + 2 + m, acc ++ [(X, d)], rfl, by omega, by simp; omega, HS, hPn⟩
    · have HR := hd (hS.end_ (by omega))
      have hle : decide ((0 : Int) < 8 * (bs.length : Int) - ((8 * i : Nat) : Int)) = false := decide_eq_false (by omega)
      clear hS
      go_wp2_with (go_at_call 21; refine (left_any hP.rd).mono ?_; rintro e w4 ⟨rfl, n4, rfl⟩)
      rw [Exit.noGoto_ret]
      go_ret2
      rw [HR.out]
      exact ⟨_, rfl, (hP.drewN n4).fin⟩

set_option maxHeartbeats 4000000 in
set_option maxRecDepth 100000 in
theorem extParse_no {w : World} {v : Value} (p : Nat) (hp6 : p < 65536) (hk : isKnown p = false) :
    Calls Try.prog 36 #[.int .u16 p, v] w fun e w' => e = .returned (.tuple #[.slice none 0 0, .int .i64 30]) ∧ Kp (fun _ => True) w w' := by
  have H2 := hd hk
  clear hk
  go_enter Try.func36, Try.ntmps36
  go_wp2
  go_step3
  go_wp2_with (go_at_call 75; refine (extOf_no p _ hp6 H2.out).mono ?_; rintro e w1 ⟨rfl, hK1⟩; unfold form0)
  rw [Exit.noGoto_ret]
  go_ret2
  exact ⟨rfl, hK1.alloc _⟩
theorem extParse_anyS {w : World} {v : Value} {bs : List Nat} (p : Nat) (hp6 : p < 65536) (h : Sl w v (bv bs)) (hb : Bts bs) (hl : bs.length ≤ 1000000) :
    Calls Try.prog 36 #[.int .u16 p, v] w fun e w' => ∃ lv, e = .returned (.tuple #[lv, .int .i64 (extP p bs).2]) ∧ ElsS w.heap.size 64 w' lv (extP p bs).1 ∧ Kp (fun _ => True) w w' := by
  by_cases h1 : isOne p = true
  · have : p = 48862 := by unfold isOne at h1; simpa using h1
    subst this
    exact extParse_one h hb hl
  · by_cases h2 : isTwo p = true
    · exact extParse_two p hp6 h2 h hb hl
    · have hk : isKnown p = false := by unfold isKnown; simp [h1, h2]
      have hX : extP p bs = ([], 30) := by unfold extP; rw [if_pos hk]
      rw [hX]
      refine (extParse_no p hp6 hk).mono ?_
      rintro e w' ⟨rfl, hK⟩
      exact ⟨_, rfl, ElsS.nil _ _ _, hK⟩
theorem extParse_any {w : World} {v : Value} {bs : List Nat} (p : Nat) (hp6 : p < 65536) (h : Sl w v (bv bs)) (hb : Bts bs) (hl : bs.length ≤ 1000000) :
    Calls Try.prog 36 #[.int .u16 p, v] w fun e w' => ∃ lv, e = .returned (.tuple #[lv, .int .i64 (extP p bs).2]) ∧ ElsW w.heap.size 64 w' lv (extP p bs).1 ∧ Kp (fun _ => True) w w' := by
  refine (extParse_anyS p hp6 h hb hl).mono ?_
  rintro e w' ⟨lv, rfl, hE, hK⟩
  exact ⟨lv, rfl, hE.w, hK⟩
end Go.Proofs.Ytoonnlphfanmhaa
