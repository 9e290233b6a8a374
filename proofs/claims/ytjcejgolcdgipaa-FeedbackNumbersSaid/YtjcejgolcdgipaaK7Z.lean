/- Chapter 07: feedback.Right and Put in the printed words. -/
import Derived.Test.YtjcejgolcdgipaaK7F
namespace Go.Proofs.Ytjcejgolcdgipaa.K7
open Go.RowKit Go.Proofs.YtjcejgolcdgipaaW.PrintWords Go.Proofs.YtjcejgolcdgipaaW.PrintLast Go.Proofs.YtjcejgolcdgipaaW.PrintMore
set_option linter.unusedVariables false

theorem right_no {w : World} (s sd md e mn : Nat) {Ap Ao As : Option Addr} {cp co cs : Nat} {lp : List S82} {lo : List S134} {ls : List Int} (h : ¬ (1 ≤ s ∧ s ≤ 4 ∧ ls.length ≤ 255)) :
    Calls Try.prog 36 #[.agg #[.int .u8 (s : Int), .int .u32 (sd : Int), .int .u32 (md : Int), .slice Ap lp.length cp, .slice Ao lo.length co, .int .u8 (e : Int), .int .u32 (mn : Int), .slice As ls.length cs]] w fun e_ w' =>
      e_ = .returned (.bool (rightN (inM s sd md lp lo e mn ls))) ∧ Below w.heap.size w w' := by
  have hR : Hd (rightN (inM s sd md lp lo e mn ls) = false) := hd (by
    unfold rightN
    have e1 : (inM s sd md lp lo e mn ls).sort = s := rfl
    have e2 : (inM s sd md lp lo e mn ls).ss.length = ls.length := nb_length ls
    rw [e1, e2, decide_eq_false h, Bool.false_and])
  by_cases h1 : 1 ≤ s
  · have g1 : decide ((s : Int) < 1) = false := decide_eq_false (by omega)
    by_cases h4 : s ≤ 4
    · have g2 : decide ((4 : Int) < (s : Int)) = false := decide_eq_false (by omega)
      have h5 : 255 < ls.length := by omega
      have g3 : decide ((255 : Int) < (ls.length : Int)) = true := decide_eq_true (by omega)
      clear h
      go_enter Try.func36, Try.ntmps36
      go_wp2
      go_ret
      exact ⟨by rw [hR.out]; rfl, kp_below' ((Kp.refl _ _).alloc _)⟩
    · have g2 : decide ((4 : Int) < (s : Int)) = true := decide_eq_true (by omega)
      clear h
      go_enter Try.func36, Try.ntmps36
      go_wp2
      go_ret
      exact ⟨by rw [hR.out]; rfl, kp_below' ((Kp.refl _ _).alloc _)⟩
  · have g1 : decide ((s : Int) < 1) = true := decide_eq_true (by omega)
    clear h
    go_enter Try.func36, Try.ntmps36
    go_wp2
    go_ret
    exact ⟨by rw [hR.out]; rfl, kp_below' ((Kp.refl _ _).alloc _)⟩
theorem right_any {w : World} (s sd md e mn : Nat) (hsd : sd < 4294967296) (hmd : md < 4294967296) (he : e < 256) (hmn : mn < 4294967296) {Ap Ao As : Option Addr} {cp co cs : Nat} {lp : List S82} {lo : List S134} {ls : List Int}
    (hP : Kd.C k82 w Ap lp.length lp) (hop : Ok2 lp) (hlp : lp.length ≤ 100000) (hcp : lp.length ≤ cp) (hO : Kd.C k134 w Ao lo.length lo) (hoo : OkO lo) (hlo : lo.length ≤ 100000) (hco : lo.length ≤ co) (hS : Kd.C (Kd.int .u32) w As ls.length ls) (hos : OkS ls) (hcs : ls.length ≤ cs) :
    Calls Try.prog 36 #[.agg #[.int .u8 (s : Int), .int .u32 (sd : Int), .int .u32 (md : Int), .slice Ap lp.length cp, .slice Ao lo.length co, .int .u8 (e : Int), .int .u32 (mn : Int), .slice As ls.length cs]] w fun e_ w' =>
      e_ = .returned (.bool (rightN (inM s sd md lp lo e mn ls))) ∧ Below w.heap.size w w' := by
  by_cases h : 1 ≤ s ∧ s ≤ 4 ∧ ls.length ≤ 255
  · exact right_try s sd md e mn h.1 h.2.1 hsd hmd he hmn hP hop hlp hcp hO hoo hlo hco hS hos h.2.2 hcs
  · exact right_no s sd md e mn h
/-- What Put answers. -/
def putN (M : PM) : Nat × Nat × List Nat × Nat := if rightN M = true then (cntN M.sort, kndN M.sort, bodyN M, 0) else (0, 0, [], 2)
theorem rightN_fields {M : PM} (h : rightN M = true) : 1 ≤ M.sort ∧ M.sort ≤ 4 ∧ M.ss.length ≤ 255 := by
  unfold rightN at h
  rw [Bool.and_eq_true, decide_eq_true_iff] at h
  exact h.1
set_option maxHeartbeats 4000000 in
set_option maxRecDepth 100000 in
theorem put_any {w : World} (s sd md e mn : Nat) (hsd : sd < 4294967296) (hmd : md < 4294967296) (he : e < 256) (hmn : mn < 4294967296) {Ap Ao As : Option Addr} {cp co cs : Nat} {lp : List S82} {lo : List S134} {ls : List Int}
    (hP : Kd.C k82 w Ap lp.length lp) (hop : Ok2 lp) (hlp : lp.length ≤ 100000) (hcp : lp.length ≤ cp) (hO : Kd.C k134 w Ao lo.length lo) (hoo : OkO lo) (hlo : lo.length ≤ 100000) (hco : lo.length ≤ co) (hS : Kd.C (Kd.int .u32) w As ls.length ls) (hos : OkS ls) (hls : ls.length ≤ 100000) (hcs : ls.length ≤ cs) :
    Calls Try.prog 34 #[.agg #[.int .u8 (s : Int), .int .u32 (sd : Int), .int .u32 (md : Int), .slice Ap lp.length cp, .slice Ao lo.length co, .int .u8 (e : Int), .int .u32 (mn : Int), .slice As ls.length cs]] w fun e_ w' =>
      ∃ vb, e_ = .returned (.tuple #[.agg #[.int .u8 ((putN (inM s sd md lp lo e mn ls)).1 : Int), .int .u8 ((putN (inM s sd md lp lo e mn ls)).2.1 : Int), vb, .int .u8 0], .int .i64 ((putN (inM s sd md lp lo e mn ls)).2.2.2 : Int)]) ∧
        w'.ownsRow w.heap.size 5 1 vb (putN (inM s sd md lp lo e mn ls)).2.2.1.length (bv (putN (inM s sd md lp lo e mn ls)).2.2.1) ∧ Kp (fun _ => True) w w' := by
  obtain ⟨w1, hw1⟩ : ∃ w1, w1 = (w.alloc (.cells #[.int .u8 (s : Int), .int .u32 (sd : Int), .int .u32 (md : Int), .slice Ap lp.length cp, .slice Ao lo.length co, .int .u8 (e : Int), .int .u32 (mn : Int), .slice As ls.length cs] 52)).alloc (.cells #[.int .u8 0, .int .u8 0, .slice none 0 0, .int .u8 0] 40) := ⟨_, rfl⟩
  have hK1 : Kp (fun _ => True) w w1 := hw1 ▸ ((Kp.refl _ _).alloc _).alloc _
  have M1 : Blk w1 w.heap.size 52 #[.int .u8 (s : Int), .int .u32 (sd : Int), .int .u32 (md : Int), .slice Ap lp.length cp, .slice Ao lo.length co, .int .u8 (e : Int), .int .u32 (mn : Int), .slice As ls.length cs] := hw1 ▸ (Blk.new w _ _).alloc _
  have Z1 : Blk w1 (w.heap.size + 1) 40 #[.int .u8 0, .int .u8 0, .slice none 0 0, .int .u8 0] := by
    have := Blk.new (w.alloc (.cells #[.int .u8 (s : Int), .int .u32 (sd : Int), .int .u32 (md : Int), .slice Ap lp.length cp, .slice Ao lo.length co, .int .u8 (e : Int), .int .u32 (mn : Int), .slice As ls.length cs] 52)) 40 #[.int .u8 0, .int .u8 0, .slice none 0 0, .int .u8 0]
    rw [← hw1, World.size_alloc] at this
    exact this
  have c1 := M1.cell
  go_enter Try.func34, Try.ntmps34
  go_upto_region 1 with (fail)
  rw [← hw1]
  clear hw1
  go_wp2_with fail
  refine (right_any s sd md e mn hsd hmd he hmn (C_all hP hK1) hop hlp hcp (C_all hO hK1) hoo hlo hco (C_all hS hK1) hos hcs).mono ?_
  rintro e_ w2 ⟨rfl, hB2⟩
  have hk2 : Kp (fun _ => True) w1 w2 := Kp.of_below hB2 (fun k _ hl => hl)
  have M2 := M1.kp hk2 trivial
  have Z2 := Z1.kp hk2 trivial
  have hK2 := hK1.trans hk2
  have hF := rightN_fields (M := inM s sd md lp lo e mn ls)
  have hPN : Hd (putN (inM s sd md lp lo e mn ls) = if rightN (inM s sd md lp lo e mn ls) = true then (cntN s, kndN s, bodyN (inM s sd md lp lo e mn ls), 0) else (0, 0, [], 2)) := hd rfl
  clear c1 hK1 M1 Z1 hB2 hk2
  generalize rightN (inM s sd md lp lo e mn ls) = R at *
  cases R
  · have fZ := Z2.frozen
    have cZ := Z2.cell
    clear hF
    go_wp2
    refine bodyPost_ret (results_ct rfl _ _ (w.heap.size + 1) 40 _ (0, 0) _ rfl (set4 Z2 _ _ _ _) Try.underlying40 rfl (by kernel_rfl)) rfl ?_
    rw [hPN.out]
    exact ⟨_, rfl, World.ownsRow_nil _ _ _ _, kp_far hK2 (kp4 _ _ _ _ _ _) (fun k hk => by omega)⟩
  · obtain ⟨h1, h4, h255⟩ := hF rfl
    have h1' : 1 ≤ s := h1
    have h4' : s ≤ 4 := h4
    clear h1 h4 h255
    have hix := fun W => sort_ixN W s h1' h4'
    have s2 : ∀ j, w2.drew.cell? ⟨w.heap.size, j, none⟩ = #[.int .u8 (s : Int), .int .u32 (sd : Int), .int .u32 (md : Int), .slice Ap lp.length cp, .slice Ao lo.length co, .int .u8 (e : Int), .int .u32 (mn : Int), .slice As ls.length cs][j]? := M2.cell
    have hs2 := hK2.size
    have hml := M2.lt
    have hzl := Z2.lt
    have hne : w.heap.size ≠ w.heap.size + 1 := by omega
    go_upto_region 3 with (fail)
    go_region_held3 (fun W => (∀ j, W.cell? ⟨w.heap.size, j, none⟩ = #[.int .u8 (s : Int), .int .u32 (sd : Int), .int .u32 (md : Int), .slice Ap lp.length cp, .slice Ao lo.length co, .int .u8 (e : Int), .int .u32 (mn : Int), .slice As ls.length cs][j]?))
      (first | with_reducible exact s9 | exact s2 | exact s3 | exact s4)
      (first
        | (go_at_call 67; refine (sorts_any _).mono ?_; rintro e_ w3 ⟨rfl, hK3⟩; have M3 := M2.drew.kp hK3 trivial; have Z3 := Z2.drew.kp hK3 trivial; have s3 := M3.cell; have hKb := hK2.drew.trans hK3)
        | (go_at_call 74; refine (packet_any s sd md e mn h1' h4' hsd hmd he hmn (C_all hP hKb) hop (by omega) (C_all hO hKb) hoo (by omega) (C_all hS hKb) hos (by omega)).mono ?_; rintro e_ w4 ⟨A3, n3, c3, rfl, ho4, hK4⟩; have M4 := M3.kp hK4 trivial; have Z4 := Z3.kp hK4 trivial; have s4 := M4.cell; have hKc := hKb.trans hK4; have f4 := Z4.frozen; have c4 := Z4.cell; have s9 := (far4 M4 hne (.int .u8 (cntN s : Int)) (.int .u8 (kndN s : Int)) (.slice A3 n3 c3) (.int .u8 0)).cell))
    all_goals
      have hz3 := Z3.lt
      go_wp2
      refine bodyPost_ret (results_ct rfl _ _ (w.heap.size + 1) 40 _ (0, 0) _ rfl (set4 Z4 _ _ _ _) Try.underlying40 rfl (by kernel_rfl)) rfl ?_
      rw [hPN.out]
      exact ⟨_, rfl, own_lo (own_kp ho4 (kp4 w4 (w.heap.size + 1) _ _ _ _) (fun g hg _ => Nat.ne_of_gt (by omega))) (by omega), kp_far hKc (kp4 _ _ _ _ _ _) (fun k hk => by omega)⟩
def fb_Right.f (a0_0 a0_1 a0_2 : Int) (l0_3 : List S82) (l0_4 : List S134) (a0_5 a0_6 : Int) (l0_7 : List Int) : Option Bool :=
  if OkM a0_0 a0_1 a0_2 l0_3 l0_4 a0_5 a0_6 l0_7 then some (rightN (inM a0_0 a0_1 a0_2 l0_3 l0_4 a0_5 a0_6 l0_7)) else none
theorem fb_Right.calls (a0_0 : Int) (a0_1 : Int) (a0_2 : Int) (A0_3 : Option Addr) (c0_3 : Nat) (l0_3 : List (S82)) (A0_4 : Option Addr) (c0_4 : Nat) (l0_4 : List (S134)) (a0_5 : Int) (a0_6 : Int) (A0_7 : Option Addr) (c0_7 : Nat) (l0_7 : List Int) (r : Bool) (w : World) (hr0_3 : Kd.C k82 w A0_3 l0_3.length l0_3) (hc0_3 : l0_3.length ≤ c0_3) (hr0_4 : Kd.C k134 w A0_4 l0_4.length l0_4) (hc0_4 : l0_4.length ≤ c0_4) (hr0_7 : Kd.C (Kd.int .u32) w A0_7 l0_7.length l0_7) (hc0_7 : l0_7.length ≤ c0_7) (h : fb_Right.f a0_0 a0_1 a0_2 l0_3 l0_4 a0_5 a0_6 l0_7 = some r) :
    Calls Try.prog 36 #[.agg #[.int .u8 a0_0, .int .u32 a0_1, .int .u32 a0_2, .slice A0_3 l0_3.length c0_3, .slice A0_4 l0_4.length c0_4, .int .u8 a0_5, .int .u32 a0_6, .slice A0_7 l0_7.length c0_7]] w fun e w' => e = .returned (.bool r) ∧ Below w.heap.size w w' := by
  unfold fb_Right.f at h
  split at h
  · rename_i hc
    obtain ⟨h0, h1, h2, h3, h4, h5, h6, h7, h8⟩ := hc
    obtain ⟨x0, rfl⟩ := Int.eq_ofNat_of_zero_le h0.1
    obtain ⟨x1, rfl⟩ := Int.eq_ofNat_of_zero_le h1.1
    obtain ⟨x2, rfl⟩ := Int.eq_ofNat_of_zero_le h2.1
    obtain ⟨x5, rfl⟩ := Int.eq_ofNat_of_zero_le h5.1
    obtain ⟨x6, rfl⟩ := Int.eq_ofNat_of_zero_le h6.1
    injection h with h
    subst h
    exact right_any x0 x1 x2 x5 x6 (by omega) (by omega) (by omega) (by omega) hr0_3 h3.1 h3.2 hc0_3 hr0_4 h4.1 h4.2 hc0_4 hr0_7 h7 hc0_7
  · cases h
def fb_Put.f (a0_0 a0_1 a0_2 : Int) (l0_3 : List S82) (l0_4 : List S134) (a0_5 a0_6 : Int) (l0_7 : List Int) : Option (Int × Int × List Int × Int × Int) :=
  if OkM a0_0 a0_1 a0_2 l0_3 l0_4 a0_5 a0_6 l0_7 then (let P := putN (inM a0_0 a0_1 a0_2 l0_3 l0_4 a0_5 a0_6 l0_7); some ((P.1 : Int), (P.2.1 : Int), ib P.2.2.1, 0, (P.2.2.2 : Int))) else none
theorem fb_Put.calls (a0_0 : Int) (a0_1 : Int) (a0_2 : Int) (A0_3 : Option Addr) (c0_3 : Nat) (l0_3 : List (S82)) (A0_4 : Option Addr) (c0_4 : Nat) (l0_4 : List (S134)) (a0_5 : Int) (a0_6 : Int) (A0_7 : Option Addr) (c0_7 : Nat) (l0_7 : List Int) (r1 : Int) (r2 : Int) (r3 : List Int) (r4 : Int) (r5 : Int) (w : World) (hr0_3 : Kd.C k82 w A0_3 l0_3.length l0_3) (hc0_3 : l0_3.length ≤ c0_3) (hr0_4 : Kd.C k134 w A0_4 l0_4.length l0_4) (hc0_4 : l0_4.length ≤ c0_4) (hr0_7 : Kd.C (Kd.int .u32) w A0_7 l0_7.length l0_7) (hc0_7 : l0_7.length ≤ c0_7) (h : fb_Put.f a0_0 a0_1 a0_2 l0_3 l0_4 a0_5 a0_6 l0_7 = some (r1, r2, r3, r4, r5)) :
    Calls Try.prog 34 #[.agg #[.int .u8 a0_0, .int .u32 a0_1, .int .u32 a0_2, .slice A0_3 l0_3.length c0_3, .slice A0_4 l0_4.length c0_4, .int .u8 a0_5, .int .u32 a0_6, .slice A0_7 l0_7.length c0_7]] w fun e w' => ∃ v2_ : Value, e = .returned (.tuple #[.agg #[.int .u8 r1, .int .u8 r2, v2_, .int .u8 r4], .int .i64 r5]) ∧ Kd.R (Kd.int .u8) 5 w' w.heap.size (fun _ => True) v2_ r3 ∧ Below w.heap.size w w' := by
  unfold fb_Put.f at h
  split at h
  · rename_i hc
    obtain ⟨h0, h1, h2, h3, h4, h5, h6, h7, h8⟩ := hc
    obtain ⟨x0, rfl⟩ := Int.eq_ofNat_of_zero_le h0.1
    obtain ⟨x1, rfl⟩ := Int.eq_ofNat_of_zero_le h1.1
    obtain ⟨x2, rfl⟩ := Int.eq_ofNat_of_zero_le h2.1
    obtain ⟨x5, rfl⟩ := Int.eq_ofNat_of_zero_le h5.1
    obtain ⟨x6, rfl⟩ := Int.eq_ofNat_of_zero_le h6.1
    simp only [Option.some.injEq, Prod.mk.injEq] at h
    obtain ⟨rfl, rfl, rfl, rfl, rfl⟩ := h
    refine (put_any x0 x1 x2 x5 x6 (by omega) (by omega) (by omega) (by omega) hr0_3 h3.1 h3.2 hc0_3 hr0_4 h4.1 h4.2 hc0_4 hr0_7 h7 h8 hc0_7).mono ?_
    rintro e w' ⟨vb, rfl, ho, hk⟩
    exact ⟨vb, rfl, R_bytes ho, kp_below' hk⟩
  · cases h
end Go.Proofs.Ytjcejgolcdgipaa.K7
