/- Package ext's Parse. -/
import Derived.Test.YtoonnlphfanmhaaExtB
import Derived.Laws.EntriesVeiled
import Derived.WalkMore
import Derived.Deep.LoopGhost
namespace Go.Proofs.Ytoonnlphfanmhaa
open Go.RowKit

/-- The call's own state in its loop. -/
structure PS (w0 w : World) (B fb tb p : Nat) (D M S : Int) (bs : List Nat) (vr : Value) (at_ : Nat) (err : Int) (ov : Value) (acc : List (Nat × List Nat)) : Prop where
  els : ElsS B 64 w ov acc
  rd : Rd w p bs at_ err vr
  fbk : ∃ x y z, Blk w fb 117 #[.int .i64 D, .int .i64 M, x, y, z, .int .u64 S]
  tbk : Blk w tb 121 #[.pointer (some ⟨p, 0, none⟩), .func (Fn.func 20) #[.pointer (some ⟨p, 0, none⟩)] #[]]
  size : B ≤ w.heap.size
  kp : Kp (· < w0.heap.size) w0 w
  fbB : fb < B
  tbB : tb < B
  pB : p < B
  vB : ∀ g, vr.ownBlock = some g → g < B
  pw : w0.heap.size ≤ p
section
variable {w0 w w' : World} {B fb tb p : Nat} {D M S : Int} {bs : List Nat} {vr ov : Value} {at_ at2 : Nat} {err err2 : Int} {acc : List (Nat × List Nat)}
theorem PS.cells (h : PS w0 w B fb tb p D M S bs vr at_ err ov acc) : w.cell? ⟨fb, 0, none⟩ = some (.int .i64 D) ∧ w.cell? ⟨fb, 1, none⟩ = some (.int .i64 M) ∧ w.cell? ⟨fb, 5, none⟩ = some (.int .u64 S) ∧
    w.cell? ⟨tb, 0, none⟩ = some (.pointer (some ⟨p, 0, none⟩)) ∧ w.cell? ⟨tb, 1, none⟩ = some (.func (Fn.func 20) #[.pointer (some ⟨p, 0, none⟩)] #[]) := by
  obtain ⟨x, y, z, hf⟩ := h.fbk
  exact ⟨hf.cell 0, hf.cell 1, hf.cell 5, h.tbk.cell 0, h.tbk.cell 1⟩
theorem PS.moved (h : PS w0 w B fb tb p D M S bs vr at_ err ov acc) (hr : Rd w' p bs at2 err2 vr) (hk : Kp (· ≠ p) w w') : PS w0 w' B fb tb p D M S bs vr at2 err2 ov acc := by
  obtain ⟨x, y, z, hf⟩ := h.fbk
  have hB := h.pB
  have hw := h.pw
  exact ⟨h.els.kp hk (fun g hg => by omega), hr, ⟨x, y, z, hf.kp hk (hf.ne_ h.rd.blk (by decide))⟩, h.tbk.kp hk (h.tbk.ne_ h.rd.blk (by decide)), Nat.le_trans h.size hk.size, h.kp.low hk (fun i hi => by omega), h.fbB, h.tbB, h.pB, h.vB, h.pw⟩
theorem PS.drewN (h : PS w0 w B fb tb p D M S bs vr at_ err ov acc) (n : Nat) : PS w0 (w.drewN n) B fb tb p D M S bs vr at_ err ov acc := by
  obtain ⟨x, y, z, hf⟩ := h.fbk
  exact ⟨h.els.drewN n, h.rd.drewN n, ⟨x, y, z, hf.drewN n⟩, h.tbk.drewN n, h.size, h.kp.drewN n, h.fbB, h.tbB, h.pB, h.vB, h.pw⟩
theorem PS.alloc (h : PS w0 w B fb tb p D M S bs vr at_ err ov acc) (o : Obj) : PS w0 (w.alloc o) B fb tb p D M S bs vr at_ err ov acc := by
  obtain ⟨x, y, z, hf⟩ := h.fbk
  have hs := h.size
  exact ⟨h.els.kp ((Kp.refl (fun _ => True) w).alloc o) (fun _ _ => trivial), h.rd.alloc o, ⟨x, y, z, hf.alloc o⟩, h.tbk.alloc o, by simp; omega, h.kp.alloc o, h.fbB, h.tbB, h.pB, h.vB, h.pw⟩
theorem PS.grow {v' : Value} {acc' : List (Nat × List Nat)} (h : PS w0 w B fb tb p D M S bs vr at_ err ov acc) (hg : w.grownBy w' ov.ownBlock) (he : ElsS B 64 w' v' acc') : PS w0 w' B fb tb p D M S bs vr at_ err v' acc' := by
  obtain ⟨x, y, z, hf⟩ := h.fbk
  obtain ⟨L, ho, _⟩ := h.els
  have hk : Kp (· < B) w w' := kp_own ho hg
  have hpw := h.pw
  have hpB := h.pB
  exact ⟨he, h.rd.kp hk h.pB h.vB, ⟨x, y, z, hf.kp hk h.fbB⟩, h.tbk.kp hk h.tbB, Nat.le_trans h.size hk.size, h.kp.low hk (fun i hi => by omega), h.fbB, h.tbB, h.pB, h.vB, h.pw⟩
/-- One element more, its bytes new. -/
theorem elsS_snoc {base : Nat} {e : TypeId} {w w' : World} {v v' dv : Value} {E : List (Nat × List Nat)} {L : List (Nat × Value)} {c B : Nat} {d : List Nat}
    (hl : L.length = E.length) (hi : (∀ i (h : i < E.length) (h' : i < L.length), L[i].1 = E[i].1 ∧ E[i].1 < 256 ∧ Bts E[i].2 ∧ w.ownsRow base 5 1 L[i].2 E[i].2.length (bv E[i].2)) ∧ Dj L ∧ ∀ i (h : i < L.length) k, L[i].2.ownBlock = some k → k < B)
    (hn : ∀ k, dv.ownBlock = some k → B ≤ k)
    (hd : w.ownsRow base 5 1 dv d.length (bv d)) (hc : c < 256) (hb : Bts d) (he : e ≠ 5)
    (ho : w.ownsRow base e 2 v E.length (els L)) (ho' : w'.ownsRow base e 2 v' (E.length + 1) (els L ++ [.int .u8 (c : Int), dv])) (hg : w.grownBy w' v.ownBlock) :
    ElsS base e w' v' (E ++ [(c, d)]) := by
  obtain ⟨hi, hD, hf⟩ := hi
  have far : ∀ {u : Value} {m : Nat} {ys : List Value}, w.ownsRow base 5 1 u m ys → w'.ownsRow base 5 1 u m ys := by
    intro u m ys h
    refine h.kept hg ?_
    by_cases hn : u.ownBlock = none
    · exact .inl hn
    · right
      intro heq
      obtain ⟨g, hgu⟩ := Option.ne_none_iff_exists'.1 hn
      rw [hgu] at heq
      rcases ho.2 with ⟨rfl, _⟩ | ⟨g', cap, cur, rfl, _, hh, _⟩
      · cases heq
      · have hgg : g = g' := by simpa [Value.ownBlock] using heq
        subst hgg
        exact own_blk_ne h (show Blk w g e cur from hh) (Ne.symm he) hgu
  refine ⟨L ++ [(c, dv)], ?_, by simp [hl], fun i h h' => ?_, fun i j h1 h2 k hne hk => ?_⟩
  · rw [els_snoc, List.length_append]
    exact ho'
  · by_cases hlt : i < E.length
    · rw [List.getElem_append_left (by omega), List.getElem_append_left hlt]
      obtain ⟨h1, h2, h3, h4⟩ := hi i hlt (by omega)
      exact ⟨h1, h2, h3, far h4⟩
    · simp only [List.length_append, List.length_cons, List.length_nil] at h
      obtain rfl : i = E.length := by omega
      rw [List.getElem_append_right (by omega), List.getElem_append_right (by omega)]
      simp only [hl, Nat.sub_self, List.getElem_cons_zero]
      exact ⟨by first | rfl | trivial, hc, hb, far hd⟩
  · simp only [List.length_append, List.length_cons, List.length_nil] at h1 h2
    by_cases hil : i < L.length <;> by_cases hjl : j < L.length
    · rw [List.getElem_append_left hil] at hk
      rw [List.getElem_append_left hjl]
      exact hD i j hil hjl k hne hk
    · rw [List.getElem_append_left hil] at hk
      rw [List.getElem_append_right (by omega)]
      simp only [show j - L.length = 0 by omega, List.getElem_cons_zero]
      intro e2
      have := hn k e2
      have := hf i hil k hk
      omega
    · rw [List.getElem_append_right (by omega)] at hk
      simp only [show i - L.length = 0 by omega, List.getElem_cons_zero] at hk
      rw [List.getElem_append_left hjl]
      intro e2
      have := hn k hk
      have := hf j hjl k e2
      omega
    · omega
theorem PS.fin (h : PS w0 w B fb tb p D M S bs vr at_ err ov acc) : ElsS w0.heap.size 64 w ov acc ∧ Kp (fun _ => True) w0 w := by
  have h1 := h.pB
  have h2 := h.pw
  exact ⟨h.els.mono (by omega), h.kp.all⟩
end
/-- Bytes are asked: whatever comes. -/
theorem RBytes_some {w : World} {p : Nat} {bs : List Nat} {at_ : Nat} {v : Value} (h : Rd w p bs at_ 0 v) (c : Int) (n : Nat) (hc : c = n) (hn : n ≤ 1000000) :
    Calls Try.prog 26 #[.pointer (some ⟨p, 0, none⟩), .int .i64 c] w fun e w' => ∃ A m k at2 err2, e = .returned (.slice A m k) ∧ Rd w' p bs at2 err2 v ∧ Kp (· ≠ p) w w' := by
  by_cases hle : at_ + 8 * n ≤ 8 * bs.length
  · refine (RBytes_ok h c n hc hle).mono ?_
    rintro e w' ⟨v', rfl, ho, hr, hk⟩
    obtain ⟨A, k, rfl⟩ := (Sl.of_own ho).form
    exact ⟨_, _, _, _, _, rfl, hr, hk⟩
  · have hf : bErr 0 c (8 * bs.length - at_) ≠ 0 := by
      subst hc
      unfold bErr
      rw [if_neg (by decide), if_neg (by omega), if_pos (by omega)]
      decide
    refine (RBytes_bad h c (by omega) (by omega) hf).mono ?_
    rintro e w' ⟨rfl, hr, hk⟩
    exact ⟨_, _, _, _, _, rfl, hr, hk⟩

set_option maxHeartbeats 4000000 in
set_option maxRecDepth 100000 in
theorem extParse_one {w : World} {v : Value} {bs : List Nat} (h : Sl w v (bv bs)) (hb : Bts bs) (hl : bs.length ≤ 1000000) :
    Calls Try.prog 36 #[.int .u16 48862, v] w fun e w' => ∃ lv, e = .returned (.tuple #[lv, .int .i64 (extP 48862 bs).2]) ∧ ElsS w.heap.size 64 w' lv (extP 48862 bs).1 ∧ Kp (fun _ => True) w w' := by
  obtain ⟨A, cap, rfl⟩ := h.form8
  have hmf : ∀ (fn : Fn) (first cap : Array Value) (w : World), (Instr.makeFunc fn first cap).run Try.prog w = .ok (.func fn first cap) w := fun _ _ _ _ => rfl
  by_cases h4 : bs.length % 4 ≠ 0
  · have hX : extP 48862 bs = ([], 3) := by unfold extP; rw [if_neg (by decide), if_pos h4]
    rw [hX]
    have hq : ((bs.length : Int) % 4 != 0) = true := by rw [bne_iff_ne]; omega
    clear hX h4
    go_enter Try.func36, Try.ntmps36
    go_wp2
    go_step3
    go_wp2_with (go_at_call 75; refine (extOf_one _).mono ?_; rintro e w1 ⟨rfl, hK1⟩; unfold form1)
    rw [Exit.noGoto_ret]
    go_ret2
    exact ⟨_, rfl, ElsS.nil _ _ _, hK1.alloc _⟩
  have hX : extP 48862 bs = prs true bs (bs.length + 1) 0 [] := by unfold extP; rw [if_neg (by decide), if_neg h4]; rfl
  have hS0 : Still true bs (extP 48862 bs) 0 [] := ⟨bs.length + 1, by omega, hX.symm⟩
  generalize extP 48862 bs = R at *
  have hq : ((bs.length : Int) % 4 != 0) = false := by rw [bne_eq_false_iff_eq]; omega
  clear hX h4
  obtain ⟨i0, hi0, hz0, hz1, hz2⟩ := info_parts Try.info_El
  go_enter Try.func36, Try.ntmps36
  go_wp2
  go_step3
  go_wp2_with (first | (go_at_call 75; refine (extOf_one _).mono ?_; rintro e w1 ⟨rfl, hK1⟩; unfold form1) | (go_at_call 18; refine (Of_any ((h.all hK1).alloc _) hb (by omega)).mono ?_; rintro e w2 ⟨p, vr, rfl, hp, hR, hv, hK2⟩))
  go_step3
  go_wp2
  obtain ⟨B, hB⟩ : ∃ B, B = w2.heap.size + 1 := ⟨_, rfl⟩
  have hP0 : PS w (w2.alloc (.cells #[.pointer (some ⟨p, 0, none⟩), .func (Fn.func 20) #[.pointer (some ⟨p, 0, none⟩)] #[]] 121)) B w1.heap.size w2.heap.size p 4 1 15 bs vr 0 0 (.slice none 0 0) [] := by
    have h1 := hR.blk.lt
    have h2 := hK1.size
    have h3 := hK2.size
    simp at hp h3
    exact ⟨ElsS.nil _ _ _, hR.alloc _, ⟨_, _, _, ((Blk.new w1 _ _).kp hK2 trivial).alloc _⟩, Blk.new _ _ _, by simp; omega, ((((hK1.alloc _).trans hK2).alloc _).mono fun _ _ _ => trivial), by omega, by omega, by omega, fun g hg => by have := hR.vlt g hg; omega, by omega⟩
  clear hR hv hK2 hp hB
  go_loopg [8] bs.length (fun (g : Nat) (ov : Value) (wr : World) => ∃ (i : Nat) (acc : List (Nat × List Nat)), g = bs.length - i ∧ i ≤ bs.length ∧ acc.length ≤ i ∧ Still true bs R i acc ∧ PS w wr B w1.heap.size w2.heap.size p 4 1 15 bs vr (8 * i) 0 ov acc)
  case atStart => exact ⟨0, [], rfl, Nat.zero_le _, Nat.le_refl _, hS0, hP0⟩
  case round =>
    obtain ⟨i, acc, hg, hi, hacc, hS, hP⟩ := hrel
    obtain ⟨d0, d1, d5, t0, t1⟩ := hP.cells
    by_cases hlt : i < bs.length
    · have hpos : decide ((0 : Int) < 8 * (bs.length : Int) - ((8 * i : Nat) : Int)) = true := decide_eq_true (by omega)
      have A1 := hS.pad hlt
      have A2 := hS.stop hlt
      have A3 := hS.bad hlt
      have A4 := hS.short1 hlt
      have A5 := hS.one_ hlt
      have hc := hb.getD i
      have hv1 := hd (vl_high bs i hc)
      have hv2 := hd (vl_low bs i)
      generalize bs.getD i 0 = c at *
      have hcX : c = 16 * (c / 16) + c % 16 := by omega
      have hX : c / 16 < 16 := by omega
      have hm : c % 16 < 16 := by omega
      generalize c / 16 = X at *
      generalize c % 16 = m at *
      subst hcX
      clear hS hc
      by_cases hX15 : X = 15
      · have HR := hd (A2 (by omega) hX15)
        have hq15 : ((X : Int) == 15) = true := by rw [beq_iff_eq]; omega
        have hq0 : ((X : Int) == 0) = false := by rw [beq_eq_false_iff_ne]; omega
        clear A1 A2 A3 A4 A5 hX15
        go_wp2_with (first | (go_at_call 21; refine (left_any hP.rd).mono ?_; rintro e w4 ⟨rfl, n4, rfl⟩) | (go_at_call 20; refine (Take_lit (hP.drewN n4).rd 4 4 (X : Int) rfl (by rw [hv1.out]) (by decide) (by omega)).mono ?_; rintro e w5 ⟨rfl, hR5, hK5⟩; have hP5 := (hP.drewN n4).moved hR5 hK5; obtain ⟨e0, e1, e5, s0, s1⟩ := hP5.cells))
        rw [Exit.noGoto_ret]
        go_ret2
        rw [HR.out]
        exact ⟨_, rfl, hP5.fin⟩
      have hq15 : ((X : Int) == 15) = false := by rw [beq_eq_false_iff_ne]; omega
      by_cases hX0 : X = 0
      · have hq0 : ((X : Int) == 0) = true := by rw [beq_iff_eq]; omega
        by_cases hm0 : m = 0
        · have hqm : ((m : Int) == 0) = true := by rw [beq_iff_eq]; omega
          have HS := hd (A1 (by omega))
          clear A1 A2 A3 A4 A5 hX15 hX0 hm0
          go_wp2_with (first | (go_at_call 21; refine (left_any hP.rd).mono ?_; rintro e w4 ⟨rfl, n4, rfl⟩) | (go_at_call 20; refine (Take_lit (hP.drewN n4).rd 4 4 (X : Int) rfl (by rw [hv1.out]) (by decide) (by omega)).mono ?_; rintro e w5 ⟨rfl, hR5, hK5⟩; have hP5 := (hP.drewN n4).moved hR5 hK5; obtain ⟨e0, e1, e5, s0, s1⟩ := hP5.cells) | (go_at_call 20; refine (Take_lit hP5.rd 4 4 (m : Int) rfl (by rw [hv2.out]) (by decide) (by omega)).mono ?_; rintro e w6 ⟨rfl, hR6, hK6⟩; have hP6 := hP5.moved hR6 hK6; obtain ⟨f0, f1, f5, r0, r1⟩ := hP6.cells))
          go_roundg (bs.length - (i + 1))
          case measure => omega
          case rel => exact ⟨i + 1, acc, rfl, by omega, by omega, HS.out, hP6⟩
        · have hqm : ((m : Int) == 0) = false := by rw [beq_eq_false_iff_ne]; omega
          have HR := hd (A3 (by omega) hX0)
          clear A1 A2 A3 A4 A5 hX15 hX0 hm0
          go_wp2_with (first | (go_at_call 21; refine (left_any hP.rd).mono ?_; rintro e w4 ⟨rfl, n4, rfl⟩) | (go_at_call 20; refine (Take_lit (hP.drewN n4).rd 4 4 (X : Int) rfl (by rw [hv1.out]) (by decide) (by omega)).mono ?_; rintro e w5 ⟨rfl, hR5, hK5⟩; have hP5 := (hP.drewN n4).moved hR5 hK5; obtain ⟨e0, e1, e5, s0, s1⟩ := hP5.cells) | (go_at_call 20; refine (Take_lit hP5.rd 4 4 (m : Int) rfl (by rw [hv2.out]) (by decide) (by omega)).mono ?_; rintro e w6 ⟨rfl, hR6, hK6⟩; have hP6 := hP5.moved hR6 hK6; obtain ⟨f0, f1, f5, r0, r1⟩ := hP6.cells) | (go_at_call 26; refine (RBytes_some hP6.rd ((m : Int) + 1) (m + 1) (by omega) (by omega)).mono ?_; rintro e w7 ⟨A7, m7, k7, at7, err7, rfl, hR7, hK7⟩; have hP7 := hP6.moved hR7 hK7))
          rw [Exit.noGoto_ret]
          go_ret2
          rw [HR.out]
          exact ⟨_, rfl, ElsS.nil _ _ _, (hP7.alloc _).fin.2⟩
      have hq0 : ((X : Int) == 0) = false := by rw [beq_eq_false_iff_ne]; omega
      by_cases hsh : bs.length < i + 1 + (m + 1)
      · have HR := hd (A4 (by omega) hX15 hX0 hsh)
        have hbe : Hd (bErr 0 ((m : Int) + 1) (8 * bs.length - (8 * i + 4 + 4 : Nat)) = 10) := by
          show bErr 0 _ _ = 10
          unfold bErr
          rw [if_neg (by decide), if_neg (by omega), if_pos (by omega)]
        clear A1 A2 A3 A4 A5 hX15 hX0
        go_wp2_with (first | (go_at_call 21; refine (left_any hP.rd).mono ?_; rintro e w4 ⟨rfl, n4, rfl⟩) | (go_at_call 20; refine (Take_lit (hP.drewN n4).rd 4 4 (X : Int) rfl (by rw [hv1.out]) (by decide) (by omega)).mono ?_; rintro e w5 ⟨rfl, hR5, hK5⟩; have hP5 := (hP.drewN n4).moved hR5 hK5; obtain ⟨e0, e1, e5, s0, s1⟩ := hP5.cells) | (go_at_call 20; refine (Take_lit hP5.rd 4 4 (m : Int) rfl (by rw [hv2.out]) (by decide) (by omega)).mono ?_; rintro e w6 ⟨rfl, hR6, hK6⟩; have hP6 := hP5.moved hR6 hK6; obtain ⟨f0, f1, f5, r0, r1⟩ := hP6.cells) | (go_at_call 26; refine (RBytes_bad hP6.rd ((m : Int) + 1) (by omega) (by omega) (by rw [hbe.out]; decide)).mono ?_; rw [hbe.out]; rintro e w7 ⟨rfl, hR7, hK7⟩; have hP7 := (hP6.moved hR7 hK7).alloc (.cells #[.int .u8 (X : Int), .slice none 0 0] 64); obtain ⟨g0, g1, g5, q0, q1⟩ := hP7.cells) | (go_at_call 22; refine (rerr_any hP7.rd).mono ?_; rintro e w8 ⟨rfl, rfl⟩))
        rw [Exit.noGoto_ret]
        go_ret2
        rw [HR.out]
        exact ⟨_, rfl, ElsS.nil _ _ _, hP7.fin.2⟩
      have HS := A5 (by omega) hX15 hX0 hsh
      have hby : Hd (bys bs (8 * i + 4 + 4) (m + 1) = (bs.drop (i + 1)).take (m + 1)) := by
        show _ = _
        rw [show 8 * i + 4 + 4 = 8 * (i + 1) from by omega]
        exact bys_whole hb (i + 1) (m + 1) (by omega)
      have hdl : Hd (((bs.drop (i + 1)).take (m + 1)).length = m + 1) := by show _ = _; rw [List.length_take, List.length_drop]; omega
      have hdb : Bts ((bs.drop (i + 1)).take (m + 1)) := (hb.drop _).take _
      generalize (bs.drop (i + 1)).take (m + 1) = d at *
      clear A1 A2 A3 A4 A5 hX15 hX0
      go_wp2_with (first | (go_at_call 21; refine (left_any hP.rd).mono ?_; rintro e w4 ⟨rfl, n4, rfl⟩) | (go_at_call 20; refine (Take_lit (hP.drewN n4).rd 4 4 (X : Int) rfl (by rw [hv1.out]) (by decide) (by omega)).mono ?_; rintro e w5 ⟨rfl, hR5, hK5⟩; have hP5 := (hP.drewN n4).moved hR5 hK5; obtain ⟨e0, e1, e5, s0, s1⟩ := hP5.cells) | (go_at_call 20; refine (Take_lit hP5.rd 4 4 (m : Int) rfl (by rw [hv2.out]) (by decide) (by omega)).mono ?_; rintro e w6 ⟨rfl, hR6, hK6⟩; have hP6 := hP5.moved hR6 hK6; obtain ⟨f0, f1, f5, r0, r1⟩ := hP6.cells) | (go_at_call 26; refine (RBytes_ok hP6.rd ((m : Int) + 1) (m + 1) (by omega) (by omega)).mono ?_; rw [hby.out]; rintro e w7 ⟨v7, rfl, ho7, hR7, hK7⟩; obtain ⟨A7, k7, rfl⟩ := (Sl.of_own ho7).form; have hP7 := (hP6.moved hR7 hK7).alloc (.cells #[.int .u8 (X : Int), .slice A7 (bv d).length k7] 64); obtain ⟨g0, g1, g5, q0, q1⟩ := hP7.cells; have ho8 := own_mono (own_kp ho7 ((Kp.refl (fun _ => True) w7).alloc (.cells #[.int .u8 (X : Int), .slice A7 (bv d).length k7] 64)) (fun _ _ _ => trivial)) hP6.size; obtain ⟨L, hLo, hLl, hLi⟩ := hP6.els.fresh (hK7.alloc (.cells #[.int .u8 (X : Int), .slice A7 (bv d).length k7] 64)) (fun g hg => (by have := hP6.pB; omega)); have hge : Hd (∀ k, (Value.slice A7 (bv d).length k7).ownBlock = some k → w6.heap.size ≤ k) := (fun k hk => (ho7.lt k hk).1); have hsz : Hd (w7.heap.size + 1 = (w7.alloc (.cells #[.int .u8 (X : Int), .slice A7 (bv d).length k7] 64)).heap.size) := (by show _ = _; simp)) | (go_at_call 22; refine (rerr_any hP7.rd).mono ?_; rintro e w8 ⟨rfl, rfl⟩) | (at_builtin; (refine wpList_app rfl (.tmp 83) (.tmp 85) 58 rfl B 64 i0 _ 2 32 Try.underlying58 hi0 hz0 hz1 hz2 rfl (by decide) _ acc.length (els L) (by exact rfl) hLo [.int .u8 (X : Int), .slice A7 (bv d).length k7] 1 (Eq.trans rfl (congrArg (fun n => Value.slice (some ⟨n, 0, none⟩) 1 1) hsz.out)) rfl (el_oneCell _ _ _ _) (by omega) (by decide) hP7.size ?_); intro g9 c9 w9 ho9 hg9 _))
      go_roundg (bs.length - (i + 1 + (m + 1)))
      case measure => omega
      case rel =>
        have hdl2 := hdl.out
        rw [← hdl2] at ho8
        have hE2 : ElsS B 64 w9 _ (acc ++ [(X, d)]) := elsS_snoc hLl hLi.out hge.out ho8 (by omega) hdb (by decide) hLo ho9 hg9
        have hPn := hP7.grow hg9 hE2
        rw [show 8 * i + 4 + 4 + 8 * (m + 1) = 8 * (i + 1 + (m + 1)) from by omega] at hPn
        exact ⟨i + 1 + (m + 1), acc ++ [(X, d)], rfl, by omega, by simp; omega, HS, hPn⟩
    · have HR := hd (hS.end_ (by omega))
      have hle : decide ((0 : Int) < 8 * (bs.length : Int) - ((8 * i : Nat) : Int)) = false := decide_eq_false (by omega)
      clear hS
      go_wp2_with (go_at_call 21; refine (left_any hP.rd).mono ?_; rintro e w4 ⟨rfl, n4, rfl⟩)
      rw [Exit.noGoto_ret]
      go_ret2
      rw [HR.out]
      exact ⟨_, rfl, (hP.drewN n4).fin⟩
end Go.Proofs.Ytoonnlphfanmhaa
