/- The reference's Parse of chapter 03. -/
import Derived.Test.YtoonnlphfanmhaaExtA
namespace Go.Proofs.Ytoonnlphfanmhaa
open Go.RowKit

theorem Try.info_rEl : (Try.prog.info? 115).map (fun i => (i.zero, i.size, i.bytes)) = some (some (.agg #[.int .u8 0, .slice none 0 0]), 2, 32) := by kernel_rfl
theorem Try.info_El : (Try.prog.info? 64).map (fun i => (i.zero, i.size, i.bytes)) = some (some (.agg #[.int .u8 0, .slice none 0 0]), 2, 32) := by kernel_rfl

theorem el_oneCell (n : Nat) (A : Option Addr) (m c : Nat) : ∀ u ∈ [Value.int .u8 (n : Int), .slice A m c], u.oneCell' = true := by
  intro u hu
  simp only [List.mem_cons, List.not_mem_nil, or_false] at hu
  rcases hu with rfl | rfl <;> rfl

/-- One element more. -/
theorem elsW_snoc {base : Nat} {e : TypeId} {w w' : World} {v v' dv : Value} {E : List (Nat × List Nat)} {L : List (Nat × Value)} {c : Nat} {d : List Nat}
    (hl : L.length = E.length) (hi : ∀ i (h : i < E.length) (h' : i < L.length), L[i].1 = E[i].1 ∧ E[i].1 < 256 ∧ Bts E[i].2 ∧ w.ownsRow base 5 1 L[i].2 E[i].2.length (bv E[i].2))
    (hd : w.ownsRow base 5 1 dv d.length (bv d)) (hc : c < 256) (hb : Bts d) (he : e ≠ 5)
    (ho : w.ownsRow base e 2 v E.length (els L)) (ho' : w'.ownsRow base e 2 v' (E.length + 1) (els L ++ [.int .u8 (c : Int), dv])) (hg : w.grownBy w' v.ownBlock) :
    ElsW base e w' v' (E ++ [(c, d)]) := by
  have far : ∀ {u : Value} {m : Nat} {ys : List Value}, w.ownsRow base 5 1 u m ys → w'.ownsRow base 5 1 u m ys := by
    intro u m ys h
    refine h.kept hg ?_
    by_cases hn : u.ownBlock = none
    · exact .inl hn
    · right
      intro heq
      obtain ⟨g, hgu⟩ := Option.ne_none_iff_exists'.1 hn
      rw [hgu] at heq
      rcases ho.2 with ⟨rfl, _⟩ | ⟨g', cap, cur, rfl, _, hh, _⟩
      · cases heq
      · have hgg : g = g' := by simpa [Value.ownBlock] using heq
        subst hgg
        exact own_blk_ne h (show Blk w g e cur from hh) (Ne.symm he) hgu
  refine ⟨L ++ [(c, dv)], ?_, by simp [hl], fun i h h' => ?_⟩
  · rw [els_snoc, List.length_append]
    exact ho'
  · by_cases hlt : i < E.length
    · rw [List.getElem_append_left (by omega), List.getElem_append_left hlt]
      obtain ⟨h1, h2, h3, h4⟩ := hi i hlt (by omega)
      exact ⟨h1, h2, h3, far h4⟩
    · simp only [List.length_append, List.length_cons, List.length_nil] at h
      obtain rfl : i = E.length := by omega
      rw [List.getElem_append_right (by omega), List.getElem_append_right (by omega)]
      simp only [hl, Nat.sub_self, List.getElem_cons_zero]
      exact ⟨by first | rfl | trivial, hc, hb, far hd⟩

set_option maxHeartbeats 4000000 in
set_option maxRecDepth 100000 in
theorem r3Parse_any {w : World} {v : Value} {bs : List Nat} (p : Nat) (_hp : p < 65536) (h : Sl w v (bv bs)) (hmaxv : ∀ A n cap, v = .slice A n cap → cap ≤ maxLen) (hb : Bts bs) (hl : bs.length ≤ 1000000) :
    Calls Try.prog 35 #[.int .u16 p, v] w fun e w' => ∃ lv, e = .returned (.tuple #[lv, .int .i64 (extP p bs).2]) ∧ ElsW w.heap.size 115 w' lv (extP p bs).1 ∧ Kp (fun _ => True) w w' := by
  obtain ⟨A, cap, rfl⟩ := h.form8
  have hmax := hmaxv _ _ _ rfl
  clear hmaxv
  unfold maxLen at hmax
  by_cases hk : isKnown p = false
  · have hX : extP p bs = ([], 30) := by unfold extP; rw [if_pos hk]
    rw [hX]
    have c := r3Known_any p
    rw [hk] at c
    have C := hd c
    clear c hk hX
    go_enter Try.func35, Try.ntmps35
    go_wp2_with (go_at_call 41; refine (C.out _).mono ?_; rintro e w' ⟨rfl, rfl⟩)
    go_ret2
    exact ⟨_, rfl, ElsW.nil _ _ _, Kp.refl _ _⟩
  by_cases h4 : bs.length % 4 ≠ 0
  · have hX : extP p bs = ([], 3) := by unfold extP; rw [if_neg hk, if_pos h4]
    rw [hX]
    have c := r3Known_any p
    rw [show isKnown p = true by simpa using hk] at c
    have C := hd c
    have hq : ((bs.length : Int) % 4 != 0) = true := by rw [bne_iff_ne]; omega
    clear c hk hX h4
    go_enter Try.func35, Try.ntmps35
    go_wp2_with (go_at_call 41; refine (C.out _).mono ?_; rintro e w' ⟨rfl, rfl⟩)
    go_ret2
    exact ⟨_, rfl, ElsW.nil _ _ _, Kp.refl _ _⟩
  have hX : extP p bs = prs (isOne p) bs (bs.length + 1) 0 [] := by unfold extP; rw [if_neg hk, if_neg h4]
  have hS0 : Still (isOne p) bs (extP p bs) 0 [] := ⟨bs.length + 1, by omega, hX.symm⟩
  generalize extP p bs = R at *
  have c := r3Known_any p
  rw [show isKnown p = true by simpa using hk] at c
  have C := hd c
  have hq : ((bs.length : Int) % 4 != 0) = false := by rw [bne_eq_false_iff_eq]; omega
  have c1 := r3one_any p
  clear c hk hX h4
  obtain ⟨i0, hi0, hz0, hz1, hz2⟩ := info_parts Try.info_rEl
  obtain ⟨j0, hj0, hy0, hy1, hy2⟩ := info_parts Try.info_u8
  go_enter Try.func35, Try.ntmps35
  go_wp2_with (go_at_call 41; refine (C.out _).mono ?_; rintro e w' ⟨rfl, rfl⟩)
  go_loopw [6, 7] (fun ov iv wr => ∃ (i : Nat) (acc : List (Nat × List Nat)), i ≤ bs.length ∧ acc.length ≤ i ∧ iv = .int .i64 i ∧ ElsW w'.heap.size 115 wr ov acc ∧ Still (isOne p) bs R i acc ∧ Kp (fun _ => True) w' wr) (fun _ iv _ => bs.length - (intOf iv).toNat)
  case atStart => exact ⟨0, [], Nat.zero_le _, Nat.le_refl _, rfl, ElsW.nil _ _ _, hS0, Kp.refl _ _⟩
  case round =>
    obtain ⟨i, acc, hi, hacc, rfl, hE, hS, hK⟩ := hrel
    by_cases hlt : i < bs.length
    · have hcap := h.le_cap (fun e => by have := congrArg List.length e; rw [bv_length] at this; simp at this; subst this; simp at hlt)
      obtain ⟨g, off, rfl, _, hcell⟩ := (h.all hK).at_ (bv_getD bs i hlt)
      have hc := hb.getD i
      have hs1 := hS.pad hlt
      have hs2 : isOne p = true → Still true bs R i acc := fun e => e ▸ hS
      have hs3 : isOne p = false → Still false bs R i acc := fun e => e ▸ hS
      generalize hcc : bs.getD i 0 = c at *
      by_cases h0 : c = 0
      · subst h0
        have HS := hd (hs1 rfl)
        clear hs1 hs2 hs3 hcc hS
        go_wp2
        go_roundw
        case rel => exact ⟨i + 1, acc, by omega, by omega, rfl, hE, HS.out, hK⟩
        case measure => simp [intOf]; omega
      · have hq0 : ((c : Int) == 0) = false := by rw [beq_eq_false_iff_ne]; omega
        cases h1 : isOne p
        · have HS := hd (hs3 h1)
          have C1 := hd c1
          have HC := hd hcc
          have HH1 := hd h1
          have hC0 := hd (show bs.getD i 0 ≠ 0 from by rw [hcc]; exact h0)
          clear hs1 hs2 hs3 hcc hS c1
          by_cases hsh0 : bs.length ≤ i + 1
          · have HR := hd (HS.out.short2 hlt hC0.out (.inl hsh0))
            go_wp2_with (go_at_call 74; refine (C1.out _).mono ?_; rw [HH1.out]; rintro e w'' ⟨rfl, rfl⟩)
            go_ret2
            rw [HR.out]
            exact ⟨_, rfl, ElsW.nil _ _ _, hK⟩
          have hi1 : i + 1 < bs.length := by omega
          have hcell2 : wr.cell? ⟨g, off + (i + 1), none⟩ = some (.int .u8 ((bs.getD (i + 1) 0 : Nat) : Int)) := by
            obtain ⟨g2, off2, he, _, hc2⟩ := (h.all hK).at_ (bv_getD bs (i + 1) hi1)
            injection he with he
            injection he with he1 he2
            subst he1 he2
            exact hc2
          have hn := hb.getD (i + 1)
          have hsh2 := hd (fun e => HS.out.short2 hlt hC0.out (.inr e))
          have htwo := hd (fun e => HS.out.two_ hlt hC0.out hi1 e)
          generalize bs.getD (i + 1) 0 = n at *
          by_cases hsh : bs.length < i + 2 + n
          · have HR := hd (hsh2.out hsh)
            go_wp2_with (go_at_call 74; refine (C1.out _).mono ?_; rw [HH1.out]; rintro e w'' ⟨rfl, rfl⟩)
            go_ret2
            rw [HR.out]
            exact ⟨_, rfl, ElsW.nil _ _ _, hK⟩
          have HS2 : Hd (Still false bs R (i + 2 + n) (acc ++ [(c, (bs.drop (i + 2)).take n)])) := by
            have t := htwo.out (by omega)
            rw [HC.out] at t
            exact t
          clear htwo hsh2
          have hcut := (h.all hK).cut (i + 2) n (cap - (i + 2)) (by rw [bv_length]; omega) (by omega)
          rw [show ((bv bs).drop (i + 2)).take n = bv ((bs.drop (i + 2)).take n) from bv_cut bs _ _] at hcut
          have hdl : ((bs.drop (i + 2)).take n).length = n := by rw [List.length_take, List.length_drop]; omega
          have hdb : Bts ((bs.drop (i + 2)).take n) := (hb.drop _).take _
          generalize (bs.drop (i + 2)).take n = d at *
          have HD := hd hdl
          clear hdl
          obtain ⟨L, hLo, hLl, hLi⟩ := hE
          by_cases hne : cap = i + 2
          · obtain rfl : n = 0 := by omega
            obtain rfl : d = [] := List.eq_nil_of_length_eq_zero HD.out
            clear hcut
            subst hne
            go_wp2_with (first | (go_at_call 74; refine (C1.out _).mono ?_; rw [HH1.out]; rintro e w'' ⟨rfl, rfl⟩) | (at_builtin; (refine wpList_app rfl (.tmp 74) (.tmp 90) 55 rfl w'.heap.size 115 i0 _ 2 32 Try.underlying55 hi0 hz0 hz1 hz2 rfl (by decide) _ acc.length (els L) (by exact rfl) hLo [.int .u8 (c : Int), .slice none 0 0] 1 rfl rfl (el_oneCell _ _ _ _) (by omega) (by decide) hK.size ?_); intro g3 c3 w3 ho3 hg3 _))
            go_roundw
            case rel =>
              have hE2 : ElsW w'.heap.size 115 w3 _ (acc ++ [(c, [])]) := elsW_snoc hLl (fun j h h' => hLi j h h') (World.ownsRow_nil _ _ _ _) (by omega) hdb (by decide) hLo ho3 hg3
              exact ⟨i + 2 + 0, acc ++ [(c, [])], by omega, by simp; omega, by simp, hE2, HS2.out, (((hK.mono fun _ _ _ => trivial).trans (kp_own hLo hg3)).all)⟩
            case measure => simp [intOf]; omega
          have hcut2 : Sl wr (.slice (some ⟨g, off + (i + 2), none⟩) (i + 2 + n - (i + 2)) (cap - (i + 2))) (bv d) := by rw [show i + 2 + n - (i + 2) = n from by omega]; exact hcut
          clear hcut
          go_wp2_with (first | (go_at_call 74; refine (C1.out _).mono ?_; rw [HH1.out]; rintro e w'' ⟨rfl, rfl⟩) | (at_builtin; (refine wpList_apps rfl (.tmp 77) (.tmp 87) 32 rfl w'.heap.size 5 j0 (.int .u8 0) 1 Try.underlying32 hj0 hy0 hy1 hy2 rfl (.slice none 0 0) 0 [] rfl (World.ownsRow_nil _ _ _ _) _ (bv d) rfl hcut2 (bv_oneCell d) (by rw [bv_length, HD.out]; omega) (by decide) hK.size ?_); intro v2 w2 ho2 hg2 _; obtain ⟨B, cB, rfl⟩ := (Sl.of_own ho2).form; have hK2 : Kp (fun _ => True) _ w2 := Kp.of_grown hg2 (fun k _ _ e => by cases e)) | (at_builtin; (refine wpList_app rfl (.tmp 74) (.tmp 90) 55 rfl w'.heap.size 115 i0 _ 2 32 Try.underlying55 hi0 hz0 hz1 hz2 rfl (by decide) _ acc.length (els L) (by exact rfl) (own_kp hLo hK2 (fun _ _ _ => trivial)) [.int .u8 (c : Int), .slice B (bv d).length cB] 1 rfl rfl (el_oneCell _ _ _ _) (by omega) (by decide) (Nat.le_trans hK.size hK2.size) ?_); intro g3 c3 w3 ho3 hg3 _))
          go_roundw
          case rel =>
            simp only [List.nil_append, Nat.zero_add, bv_length] at ho2 ho3
            have hE2 : ElsW w'.heap.size 115 w3 _ (acc ++ [(c, d)]) := elsW_snoc hLl (fun j h h' => by
              obtain ⟨h1, h2, h3, h4⟩ := hLi j h h'
              exact ⟨h1, h2, h3, own_kp h4 hK2 (fun _ _ _ => trivial)⟩) ho2 (by omega) hdb (by decide) (own_kp hLo hK2 (fun _ _ _ => trivial)) ho3 hg3
            exact ⟨i + 2 + n, acc ++ [(c, d)], by omega, by simp; omega, by simp, hE2, HS2.out, ((((hK.trans hK2).mono fun _ _ _ => trivial).trans (kp_own (own_kp hLo hK2 (fun _ _ _ => trivial)) hg3)).all)⟩
          case measure => simp [intOf]; omega
        · have HS := hd (hs2 h1)
          have C1 := hd c1
          have HC := hd hcc
          have HH1 := hd h1
          clear hs1 hs2 hs3 hcc hS c1
          by_cases h15 : c / 16 = 15
          · have hq15 : ((c : Int) / 16 == 15) = true := by rw [beq_iff_eq]; omega
            have HR := hd (HS.out.stop hlt (HC.out ▸ h0) (HC.out ▸ h15))
            clear h15
            go_wp2_with (go_at_call 74; refine (C1.out _).mono ?_; rintro e w'' ⟨rfl, rfl⟩)
            go_ret2
            rw [HR.out]
            exact ⟨_, rfl, hE, hK⟩
          have hq15 : ((c : Int) / 16 == 15) = false := by rw [beq_eq_false_iff_ne]; omega
          by_cases h160 : c / 16 = 0
          · have hq16 : ((c : Int) / 16 == 0) = true := by rw [beq_iff_eq]; omega
            have HR := hd (HS.out.bad hlt (HC.out ▸ h0) (HC.out ▸ h160))
            clear h15 h160
            go_wp2_with (go_at_call 74; refine (C1.out _).mono ?_; rintro e w'' ⟨rfl, rfl⟩)
            go_ret2
            rw [HR.out]
            exact ⟨_, rfl, ElsW.nil _ _ _, hK⟩
          have hq16 : ((c : Int) / 16 == 0) = false := by rw [beq_eq_false_iff_ne]; omega
          by_cases hsh : bs.length < i + 1 + (c % 16 + 1)
          · have HR := hd (HS.out.short1 hlt (HC.out ▸ h0) (HC.out ▸ h15) (HC.out ▸ h160) (HC.out ▸ hsh))
            clear h15 h160
            go_wp2_with (go_at_call 74; refine (C1.out _).mono ?_; rintro e w'' ⟨rfl, rfl⟩)
            go_ret2
            rw [HR.out]
            exact ⟨_, rfl, ElsW.nil _ _ _, hK⟩
          have hne : ¬ cap = i + 1 := by omega
          have hcut := (h.all hK).cut (i + 1) (c % 16 + 1) (cap - (i + 1)) (by rw [bv_length]; omega) (by omega)
          rw [show ((bv bs).drop (i + 1)).take (c % 16 + 1) = bv ((bs.drop (i + 1)).take (c % 16 + 1)) from bv_cut bs _ _] at hcut
          have hdl : ((bs.drop (i + 1)).take (c % 16 + 1)).length = c % 16 + 1 := by rw [List.length_take, List.length_drop]; omega
          have hdb : Bts ((bs.drop (i + 1)).take (c % 16 + 1)) := (hb.drop _).take _
          have HS2 : Hd (Still true bs R (i + 1 + (c % 16 + 1)) (acc ++ [(c / 16, (bs.drop (i + 1)).take (c % 16 + 1))])) := by
            have t := HS.out.one_ hlt (HC.out ▸ h0) (HC.out ▸ h15) (HC.out ▸ h160) (HC.out ▸ hsh)
            rw [HC.out] at t
            exact t
          generalize (bs.drop (i + 1)).take (c % 16 + 1) = d at *
          have HD := hd hdl
          clear hdl
          have hcut2 : Sl wr (.slice (some ⟨g, off + (i + 1), none⟩) (i + 1 + (c % 16 + 1) - (i + 1)) (cap - (i + 1))) (bv d) := by rw [show i + 1 + (c % 16 + 1) - (i + 1) = c % 16 + 1 from by omega]; exact hcut
          clear hcut
          obtain ⟨L, hLo, hLl, hLi⟩ := hE
          go_wp2_with (first | (go_at_call 74; refine (C1.out _).mono ?_; rintro e w'' ⟨rfl, rfl⟩) | (at_builtin; refine wpList_apps rfl (.tmp 77) (.tmp 87) 32 rfl w'.heap.size 5 j0 (.int .u8 0) 1 Try.underlying32 hj0 hy0 hy1 hy2 rfl (.slice none 0 0) 0 [] rfl (World.ownsRow_nil _ _ _ _) _ (bv d) rfl hcut2 (bv_oneCell d) (by rw [bv_length, HD.out]; omega) (by decide) hK.size ?_; intro v2 w2 ho2 hg2 _; obtain ⟨B, cB, rfl⟩ := (Sl.of_own ho2).form; have hK2 : Kp (fun _ => True) _ w2 := Kp.of_grown hg2 (fun k _ _ e => by cases e)) | (at_builtin; (refine wpList_app rfl (.tmp 74) (.tmp 90) 55 rfl w'.heap.size 115 i0 _ 2 32 Try.underlying55 hi0 hz0 hz1 hz2 rfl (by decide) _ acc.length (els L) (by exact rfl) (own_kp hLo hK2 (fun _ _ _ => trivial)) [.int .u8 ((c / 16 : Nat) : Int), .slice B (bv d).length cB] 1 rfl rfl (el_oneCell _ _ _ _) (by omega) (by decide) (Nat.le_trans hK.size hK2.size) ?_); intro g3 c3 w3 ho3 hg3 _))
          go_roundw
          case rel =>
            simp only [List.nil_append, Nat.zero_add, bv_length] at ho2 ho3
            have hE2 : ElsW w'.heap.size 115 w3 _ (acc ++ [(c / 16, d)]) := elsW_snoc hLl (fun j h h' => by
              obtain ⟨h1, h2, h3, h4⟩ := hLi j h h'
              exact ⟨h1, h2, h3, own_kp h4 hK2 (fun _ _ _ => trivial)⟩) ho2 (by omega) hdb (by decide) (own_kp hLo hK2 (fun _ _ _ => trivial)) ho3 hg3
            exact ⟨i + 1 + (c % 16 + 1), acc ++ [(c / 16, d)], by omega, by simp; omega, by simp, hE2, HS2.out, ((((hK.trans hK2).mono fun _ _ _ => trivial).trans (kp_own (own_kp hLo hK2 (fun _ _ _ => trivial)) hg3)).all)⟩
          case measure => simp [intOf]; omega
    · have hR := hS.end_ (by omega)
      subst hR
      go_wp2
      go_ret2
      exact ⟨_, rfl, hE, hK⟩
end Go.Proofs.Ytoonnlphfanmhaa
