/- Chapter 07: what a reader's bytes give a message: a rate. -/
import Derived.Test.YtjcejgolcdgipaaK7V
namespace Go.Proofs.Ytjcejgolcdgipaa.K7
open Go.RowKit Go.Proofs.YtjcejgolcdgipaaW.PrintWords Go.Proofs.YtjcejgolcdgipaaW.PrintLast Go.Proofs.YtjcejgolcdgipaaW.PrintMore
set_option linter.unusedVariables false

def tSrc (bs : List Nat) (at0 : Nat) : Nat → List Nat
  | 0 => []
  | k + 1 => tSrc bs at0 k ++ [vl bs (at0 + 32 * k) 32]
theorem tSrc_length (bs : List Nat) (at0 k : Nat) : (tSrc bs at0 k).length = k := by
  induction k with
  | zero => rfl
  | succ k ih => rw [tSrc, List.length_append, ih]; rfl
def scs (ns : List Nat) : List Value := ns.map fun (n : Nat) => Value.int .u32 (n : Int)
theorem scs_snoc (a : List Nat) (x : Nat) : scs (a ++ [x]) = scs a ++ [Value.int .u32 (x : Int)] := by simp [scs]
theorem src_one (a : Int) : ∀ u ∈ [Value.int .u32 a], u.oneCell' = true := by
  intro u hu
  simp at hu
  subst hu
  rfl
theorem infoU32 : (Try.prog.info? 28).map (fun i => (i.zero, i.size, i.bytes)) = some (some (.int .u32 0), 1, 4) := by kernel_rfl
/-- Whether bytes hold a whole rate from a place on. -/
def RateOk (bs : List Nat) (a : Nat) (err0 : Int) : Prop := err0 = 0 ∧ a + 64 ≤ 8 * bs.length ∧ vl bs a 32 = rembN ∧ a + 64 + 32 * vl bs (a + 32) 8 ≤ 8 * bs.length
theorem tVal_err {bs : List Nat} {a : Nat} {err n : Int} (h : err ≠ 0) : tVal bs a err n = 0 := by
  unfold tVal
  rw [if_neg (take_err h)]
theorem tVal_pos {bs : List Nat} {a : Nat} {err : Int} {n : Nat} (h : tVal bs a err (n : Int) ≠ 0) : err = 0 ∧ a + n ≤ 8 * bs.length ∧ tVal bs a err (n : Int) = vl bs a n := by
  unfold tVal at h ⊢
  split at h
  · rename_i h0
    obtain ⟨rfl, _, _, hl⟩ := tErr_zero h0
    rw [if_pos h0, Int.toNat_natCast]
    exact ⟨rfl, by omega, rfl⟩
  · exact absurd rfl h
theorem TK.setq {w wr : World} {p q : Nat} {bs : List Nat} {at_ : Nat} {err : Int} {v ov : Value} {t : TypeId} {sz n : Nat} {xs : List Value} (h : TK w wr p q bs at_ err v t sz ov n xs) (hp : p < w.heap.size) (hpq : p ≠ q) (hvq : v.ownBlock ≠ some q) (hvl : ∀ g, v.ownBlock = some g → g < w.heap.size) (hq : q < w.heap.size) (i : Nat) (u : Value) : TK w (wr.setCell ⟨q, i, none⟩ u) p q bs at_ err v t sz ov n xs := by
  have hk : Kp (fun k => k < w.heap.size ∧ k ≠ q) wr (wr.setCell ⟨q, i, none⟩ u) := (Kp.refl (fun k => k < w.heap.size ∧ k ≠ q) wr).set (fun k hk _ => hk.2)
  exact ⟨h.rd.kp hk ⟨hp, hpq⟩ (fun g hg => ⟨hvl g hg, fun e => hvq (e ▸ hg)⟩), own_kp h.own (Kp.refl (· ≠ q) wr).set_ (fun g hg _ => by show g ≠ q; omega), h.kp.next hk (fun k hk hl => ⟨hl, hk.2⟩)⟩
set_option maxHeartbeats 8000000 in
set_option maxRecDepth 100000 in
theorem takeRate_any {w : World} {p q : Nat} {bs : List Nat} {at_ : Nat} {err0 : Int} {v : Value} (h : Rd w p bs at_ err0 v) (hpq : p ≠ q) (hvq : v.ownBlock ≠ some q) (s sd md : Int) (v3 v4 : Value) (hv1 : ∃ a n c, v3 = .slice a n c) (hv2 : ∃ a n c, v4 = .slice a n c)
    (hM : Blk w q 52 #[.int .u8 s, .int .u32 sd, .int .u32 md, v3, v4, .int .u8 0, .int .u32 0, .slice none 0 0]) :
    Calls Try.prog 109 #[.pointer (some ⟨q, 0, none⟩), .pointer (some ⟨p, 0, none⟩)] w fun e_ w' =>
      e_ = .returned (.tuple #[]) ∧ ∃ at2 err2 ov n xs E M, TK w w' p q bs at2 err2 v 28 1 ov n xs ∧ Blk w' q 52 #[.int .u8 s, .int .u32 sd, .int .u32 md, v3, v4, .int .u8 E, .int .u32 M, ov] ∧
        (RateOk bs at_ err0 → err2 = 0 ∧ at2 = at_ + 64 + 32 * vl bs (at_ + 32) 8 ∧ n = vl bs (at_ + 32) 8 ∧ xs = scs (tSrc bs (at_ + 64) (vl bs (at_ + 32) 8)) ∧ E = (vl bs (at_ + 40) 6 : Nat) ∧ M = (vl bs (at_ + 46) 18 : Nat)) ∧ (¬ RateOk bs at_ err0 → err2 ≠ 0) := by
  obtain ⟨a3, n3, c3, rfl⟩ := hv1
  obtain ⟨a4, n4, c4, rfl⟩ := hv2
  have hpl := h.blk.lt
  have hql := hM.lt
  have hvl := h.vlt
  obtain ⟨i0, hi0, hz0, hz1, hz2⟩ := info_parts infoU32
  have hx0 := tVal_lt bs at_ err0 32
  have hp0 := tVal_pos (bs := bs) (a := at_) (err := err0) (n := 32)
  have hg0 := fun (he : err0 = 0) => he ▸ take_good (bs := bs) (a := at_) (n := 32) (by decide)
  have hb0 := take_short (bs := bs) (a := at_) (n := 32)
  have hne : rembN ≠ 0 := by decide
  have hrm : (1380273474 : Int) = (rembN : Int) := rembN_i
  generalize hX0 : tVal bs at_ err0 ((32 : Nat) : Int) = x0 at *
  generalize hA0 : tAt bs at_ err0 ((32 : Nat) : Int) = a0 at *
  generalize hE0 : tErr err0 ((32 : Nat) : Int) (8 * bs.length - at_) = e0 at *
  have hC0 : Hd (x0 = rembN → e0 = 0 ∧ a0 = at_ + 32 ∧ vl bs at_ 32 = rembN ∧ at_ + 32 ≤ 8 * bs.length ∧ err0 = 0) := hd (by
    intro hx
    obtain ⟨q1, q2, q3⟩ := hp0 (by rw [hx]; exact hne)
    obtain ⟨_, q5, q6⟩ := hg0 q1 q2
    exact ⟨q6.trans q1, q5, by rw [← q3, hx], q2, q1⟩)
  have hC1 : Hd (x0 ≠ rembN → ¬ RateOk bs at_ err0) := hd (by
    intro hx hR
    obtain ⟨q0, q1, q2, q3⟩ := hR
    obtain ⟨q4, _, _⟩ := hg0 q0 (by omega)
    exact hx (q4.trans q2))
  clear hp0 hg0 hb0
  by_cases hxr : x0 = rembN
  · have hq : ((x0 : Int) != 1380273474) = false := by rw [hrm, bne_eq_false_iff_eq, hxr]
    obtain ⟨z1, z2, z3, z4, z00⟩ := hC0.out hxr
    have hST : Hd ((e0 = 0 ∧ a0 = at_ + 32 ∧ at_ + 32 ≤ 8 * bs.length ∧ vl bs at_ 32 = rembN ∧ err0 = 0) ∨ (e0 ≠ 0 ∧ ¬ RateOk bs at_ err0)) := hd (.inl ⟨z1, z2, z4, z3, z00⟩)
    clear z1 z2 z3 z4 z00 hC0 hC1 hrm hxr hne
    go_enter Try.func109, Try.ntmps109
    go_wp2_with fail
    refine (Take_all h ((32 : Nat) : Int)).mono ?_
    rw [hX0, hA0, hE0]
    rintro e_ w1 ⟨rfl, hR1, hK1_⟩
    have hK1 : Kp (fun k => k ≠ p ∧ k ≠ q) w w1 := hK1_.mono (fun k hk _ => hk.1)
    have hB1 := hM.kp hK1_ (Ne.symm hpq)
    clear h hM hK1_ hX0 hA0 hE0
    generalize a0 = a1 at *
    generalize e0 = e1 at *
    have hT1 : TK w w1 p q bs a1 e1 v 28 1 (.slice none 0 0) 0 [] := ⟨hR1, World.ownsRow_nil _ _ _ _, hK1⟩
    clear hR1 hK1
    have hy1 := tVal_lt bs a1 e1 8
    have G1 := take_good (bs := bs) (a := at_ + 32) (n := 8) (by decide)
    have S1 := take_short (bs := bs) (a := at_ + 32) (n := 8)
    have E1 := take_err (err := e1) (n := ((8 : Nat) : Int)) (left := 8 * bs.length - a1)
    generalize hY1 : tVal bs a1 e1 ((8 : Nat) : Int) = y1 at *
    generalize hB_1 : tAt bs a1 e1 ((8 : Nat) : Int) = b1 at *
    generalize hF1 : tErr e1 ((8 : Nat) : Int) (8 * bs.length - a1) = f1 at *
    have hy2 := tVal_lt bs b1 f1 6
    have G2 := take_good (bs := bs) (a := at_ + 40) (n := 6) (by decide)
    have S2 := take_short (bs := bs) (a := at_ + 40) (n := 6)
    have E2 := take_err (err := f1) (n := ((6 : Nat) : Int)) (left := 8 * bs.length - b1)
    generalize hY2 : tVal bs b1 f1 ((6 : Nat) : Int) = y2 at *
    generalize hB_2 : tAt bs b1 f1 ((6 : Nat) : Int) = b2 at *
    generalize hF2 : tErr f1 ((6 : Nat) : Int) (8 * bs.length - b1) = f2 at *
    have hy3 := tVal_lt bs b2 f2 18
    have G3 := take_good (bs := bs) (a := at_ + 46) (n := 18) (by decide)
    have S3 := take_short (bs := bs) (a := at_ + 46) (n := 18)
    have E3 := take_err (err := f2) (n := ((18 : Nat) : Int)) (left := 8 * bs.length - b2)
    generalize hY3 : tVal bs b2 f2 ((18 : Nat) : Int) = y3 at *
    generalize hB_3 : tAt bs b2 f2 ((18 : Nat) : Int) = b3 at *
    generalize hF3 : tErr f2 ((18 : Nat) : Int) (8 * bs.length - b2) = f3 at *
    have hC2 : Hd ((f3 = 0 ∧ b3 = at_ + 64 ∧ at_ + 64 ≤ 8 * bs.length ∧ vl bs at_ 32 = rembN ∧ y1 = vl bs (at_ + 32) 8 ∧ y2 = vl bs (at_ + 40) 6 ∧ y3 = vl bs (at_ + 46) 18 ∧ err0 = 0) ∨ (f3 ≠ 0 ∧ ¬ RateOk bs at_ err0)) := hd (by
      rcases hST.out with ⟨z1, z2, z3, z4, z00⟩ | ⟨z1, z2⟩
      · subst z1 z2
        by_cases h64 : at_ + 64 ≤ 8 * bs.length
        · obtain ⟨q1, q2, q3⟩ := G1 (by omega)
          rw [hY1] at q1
          rw [hB_1] at q2
          rw [hF1] at q3
          subst q2 q3
          obtain ⟨q4, q5, q6⟩ := G2 (by omega)
          rw [hY2] at q4
          rw [hB_2] at q5
          rw [hF2] at q6
          subst q5 q6
          obtain ⟨q7, q8, q9⟩ := G3 (by omega)
          rw [hY3] at q7
          rw [hB_3] at q8
          rw [hF3] at q9
          exact .inl ⟨q9, q8, h64, z4, q1, q4, q7, z00⟩
        · refine .inr ⟨?_, fun hR => h64 hR.2.1⟩
          by_cases h40 : at_ + 40 ≤ 8 * bs.length
          · obtain ⟨q1, q2, q3⟩ := G1 (by omega)
            rw [hB_1] at q2
            rw [hF1] at q3
            subst q2 q3
            by_cases h46 : at_ + 46 ≤ 8 * bs.length
            · obtain ⟨q4, q5, q6⟩ := G2 (by omega)
              rw [hB_2] at q5
              rw [hF2] at q6
              subst q5 q6
              have := S3 (by omega) 0
              rw [hF3] at this
              exact this
            · have := S2 (by omega) 0
              rw [hF2] at this
              exact E3 this
          · have := S1 (by omega) 0
            rw [hF1] at this
            exact E3 (E2 this)
      · exact .inr ⟨E3 (E2 (E1 z1)), z2⟩)
    clear G1 G2 G3 S1 S2 S3 E1 E2 E3 hST
    have k2 : IntKind.u8.wrap (y2 : Int) = y2 := IntWalk.u8_in _ (by omega)
    have k3 : IntKind.u32.wrap (y3 : Int) = y3 := IntWalk.u32_in _ (by omega)
    go_wp2_with fail
    refine (Take_all hT1.rd ((8 : Nat) : Int)).mono ?_
    rw [hY1, hB_1, hF1]
    rintro e_ w2 ⟨rfl, hR2, hK2⟩
    have hT2 := hT1.moved hpl hR2 hK2
    have hB2 := hB1.kp hK2 (Ne.symm hpq)
    clear hT1 hB1 hR2 hK2
    go_wp2_with fail
    refine (Take_all hT2.rd ((6 : Nat) : Int)).mono ?_
    rw [hY2, hB_2, hF2]
    rintro e_ w3 ⟨rfl, hR3, hK3⟩
    have hT3 := hT2.moved hpl hR3 hK3
    have hB3 := hB2.kp hK3 (Ne.symm hpq)
    clear hT2 hB2 hR3 hK3
    go_wp2_with fail
    refine (Take_all hT3.rd ((18 : Nat) : Int)).mono ?_
    rw [hY3, hB_3, hF3]
    rintro e_ w4 ⟨rfl, hR4, hK4⟩
    have hT4 := hT3.moved hpl hR4 hK4
    have hB4 := hB3.kp hK4 (Ne.symm hpq)
    clear hT3 hB3 hR4 hK4
    have ff := hB4.frozen
    have cc := hB4.cell
    have hB5 := (hB4.set 5 (.int .u8 (y2 : Int))).set 6 (.int .u32 (y3 : Int))
    simp only [List.setIfInBounds_toArray, List.set_cons_zero, List.set_cons_succ] at hB5
    have hT5 := (hT4.setq hpl hpq hvq hvl hql 5 (.int .u8 (y2 : Int))).setq hpl hpq hvq hvl hql 6 (.int .u32 (y3 : Int))
    go_wp2
    clear ff cc hT4 hB4
    generalize (w4.setCell ⟨q, 5, none⟩ (.int .u8 (y2 : Int))).setCell ⟨q, 6, none⟩ (.int .u32 (y3 : Int)) = w5 at *
    go_loopw [4] (fun nv wr => ∃ (m : Nat) (ov : Value) (n at2 : Nat) (err2 : Int) (xs : List Value), nv = .int .u64 (m : Int) ∧ m < 256 ∧ n + m ≤ 256 ∧ TK w wr p q bs at2 err2 v 28 1 ov n xs ∧ Blk wr q 52 #[.int .u8 s, .int .u32 sd, .int .u32 md, .slice a3 n3 c3, .slice a4 n4 c4, .int .u8 (y2 : Int), .int .u32 (y3 : Int), ov] ∧
      ((err2 = 0 ∧ at2 = at_ + 64 + 32 * n ∧ at2 ≤ 8 * bs.length ∧ xs = scs (tSrc bs (at_ + 64) n) ∧ n + m = vl bs (at_ + 32) 8 ∧ vl bs at_ 32 = rembN ∧ y2 = vl bs (at_ + 40) 6 ∧ y3 = vl bs (at_ + 46) 18 ∧ err0 = 0) ∨ (err2 ≠ 0 ∧ ¬ RateOk bs at_ err0))) (fun nv _ => (intOf nv).toNat)
    case atStart =>
      refine ⟨y1, .slice none 0 0, 0, b3, f3, [], rfl, by omega, by omega, hT5, hB5, ?_⟩
      rcases hC2.out with ⟨z1, z2, z3, z4, z5, z6, z7, z00⟩ | ⟨z1, z2⟩
      · exact .inl ⟨z1, by omega, by omega, rfl, by omega, z4, z6, z7, z00⟩
      · exact .inr ⟨z1, z2⟩
    case round =>
      obtain ⟨m, ov, n, at2, err2, xs, rfl, hm, hnm, hT, hB, hS⟩ := hrel
      have HS := hd hS
      clear hS
      obtain ⟨Ao, co, rfl⟩ : ∃ A c, ov = .slice A n c := by
        obtain ⟨A, c, e⟩ := own_slice hT.own
        exact ⟨A, c, e⟩
      by_cases h0 : 0 < m
      · obtain ⟨m, rfl⟩ : ∃ l, m = l + 1 := ⟨m - 1, by omega⟩
        have hpos : decide ((0 : Int) < ((m + 1 : Nat) : Int)) = true := decide_eq_true (by omega)
        have hdec : IntKind.u64.wrap (((m + 1 : Nat) : Int) - 1) = (m : Int) := by rw [IntWalk.u64_in _ (by omega)]; omega
        by_cases he : err2 = 0
        · subst he
          have hxx := tVal_lt bs at2 0 32
          have G1 := take_good (bs := bs) (a := at2) (n := 32) (by decide)
          have S1 := take_short (bs := bs) (a := at2) (n := 32)
          generalize hX : tVal bs at2 0 ((32 : Nat) : Int) = x1 at *
          generalize hA1 : tAt bs at2 0 ((32 : Nat) : Int) = a9 at *
          generalize hE1 : tErr 0 ((32 : Nat) : Int) (8 * bs.length - at2) = e9 at *
          have hNX : Hd ((e9 = 0 ∧ a9 = at_ + 64 + 32 * (n + 1) ∧ a9 ≤ 8 * bs.length ∧ xs ++ [Value.int .u32 (x1 : Int)] = scs (tSrc bs (at_ + 64) (n + 1)) ∧ (n + 1) + m = vl bs (at_ + 32) 8 ∧ vl bs at_ 32 = rembN ∧ y2 = vl bs (at_ + 40) 6 ∧ y3 = vl bs (at_ + 46) 18 ∧ err0 = 0) ∨ (e9 ≠ 0 ∧ ¬ RateOk bs at_ err0)) := hd (by
            rcases HS.out with ⟨_, z2, z3, z4, z5, z6, z7, z8, z00⟩ | ⟨z1, _⟩
            · by_cases hl : at2 + 32 ≤ 8 * bs.length
              · obtain ⟨q1, q2, q3⟩ := G1 hl
                refine .inl ⟨q3, by omega, by omega, ?_, by omega, z6, z7, z8, z00⟩
                rw [tSrc, scs_snoc, z4, q1, z2]
              · have := S1 (by omega) 0
                rw [hE1] at this
                exact .inr ⟨this, fun hR => by have := hR.2.2.2; omega⟩
            · exact absurd rfl z1)
          clear G1 S1 HS
          have f1_ : IntKind.u32.wrap (x1 : Int) = x1 := IntWalk.u32_in _ (by omega)
          have g7 := hB.cell 7
          have g8 : wr.drew.cell? ⟨q, 7, none⟩ = some (.slice Ao n co) := hB.cell 7
          go_wp2_with (go_at_call 70; refine (rerr_any hT.rd).mono ?_; rintro e_ w6 ⟨rfl, rfl⟩)
          go_region_law (first
            | (go_simp; go_at_call 69; refine (Take_all (rd_drew hT.rd) ((32 : Nat) : Int)).mono ?_; rw [hX, hA1, hE1]; rintro e_ w7 ⟨rfl, hR7, hK7⟩; have hT7 := hT.drewN1.moved hpl hR7 hK7; have hB7 := hB.drew.kp hK7 (Ne.symm hpq); have d5 := hB7.cell 7; have d7 := (hB7.alloc (.cells #[.int .u32 (x1 : Int)] 28)).cell 7; have hO7 := own_kp hT7.own ((Kp.refl (fun _ => True) w7).alloc (.cells #[.int .u32 (x1 : Int)] 28)) (fun _ _ _ => trivial); have hS7 := hT7.kp.size; have hN7 := new_cells w7 28 [.int .u32 (x1 : Int)])
            | (refine step_append_lies (w := w7.alloc (.cells #[.int .u32 (x1 : Int)] 28)) rfl (.tmp 37) (.tmp 41) 44 rfl w.heap.size 28 i0 _ 1 4 Try.underlying44 hi0 hz0 hz1 hz2 rfl (by decide) (.slice Ao n co) n xs rfl hO7 ⟨w7.heap.size, 0, none⟩ 1 1 [.int .u32 (x1 : Int)] rfl rfl hN7 (src_one _) (by decide) (by unfold maxLen; omega) (by omega) (by simp; omega) _ rfl ?_; intro g9 c9 w9 ho9 hg9 hl9 hlt9; have hB9 := (hB7.alloc (.cells #[.int .u32 (x1 : Int)] 28)).grown hg9 (by intro e; have := (hO7.lt _ e.symm).1; omega); have f9 := hB9.frozen 7; have c9_ := hB9.cell 7))
          all_goals
            have hBn := hB9.set 7 (.slice (some ⟨g9, 0, none⟩) (n + 1) c9)
            simp only [List.setIfInBounds_toArray, List.set_cons_zero, List.set_cons_succ] at hBn
            have hTn := hT7.append hpl hpq hvq hvl hql _ hg9 ho9 7 (.slice (some ⟨g9, 0, none⟩) (n + 1) c9)
            clear hB9 f9 c9_ hT7 hB7 hO7 hN7
            go_wp2
            go_roundw
            case rel => exact ⟨m, _, n + 1, a9, e9, _, by go_num, by omega, by omega, hTn, hBn, hNX.out⟩
            case measure => simp [intOf]
        · have hle : (err2 == 0) = false := by rw [beq_eq_false_iff_ne]; exact he
          have HE := hd he
          clear he
          go_wp2_with (go_at_call 70; refine (rerr_any hT.rd).mono ?_; rintro e_ w6 ⟨rfl, rfl⟩)
          go_end0
          refine ⟨rfl, _, _, _, _, _, _, _, hT, hB, ?_, ?_⟩
          · intro hR
            rcases HS.out with ⟨z1, _⟩ | ⟨_, z2⟩
            · exact absurd z1 HE.out
            · exact absurd hR z2
          · intro _
            exact HE.out
      · obtain rfl : m = 0 := by omega
        have hneg : decide ((0 : Int) < ((0 : Nat) : Int)) = false := by decide
        go_wp2
        go_end0
        refine ⟨rfl, _, _, _, _, _, _, _, hT, hB, ?_, ?_⟩
        · intro hR
          rcases HS.out with ⟨z1, z2, z3, z4, z5, z6, z7, z8, z00⟩ | ⟨_, z2⟩
          · have hn : n = vl bs (at_ + 32) 8 := by omega
            rw [← z7, ← z8, ← hn]
            exact ⟨z1, z2, rfl, z4, rfl, rfl⟩
          · exact absurd hR z2
        · intro hR
          rcases HS.out with ⟨z1, z2, z3, z4, z5, z6, z7, z8, z00⟩ | ⟨z1, _⟩
          · exact absurd ⟨z00, by omega, z6, by omega⟩ hR
          · exact z1
  · have hq : ((x0 : Int) != 1380273474) = true := by rw [hrm, bne_iff_ne]; omega
    have hnR := hC1.out hxr
    have hSE : ferr e0 (-1) (8 * bs.length - a0) ≠ 0 := by
      unfold ferr
      split
      · assumption
      · first | decide | (rw [if_pos (by decide)]; decide)
    have hST : Hd ((ferr e0 (-1) (8 * bs.length - a0) = 0 ∧ sAt bs a0 e0 (-1) = at_ + 32 ∧ at_ + 32 ≤ 8 * bs.length ∧ vl bs at_ 32 = rembN ∧ err0 = 0) ∨ (ferr e0 (-1) (8 * bs.length - a0) ≠ 0 ∧ ¬ RateOk bs at_ err0)) := hd (.inr ⟨hSE, hnR⟩)
    clear hC0 hC1 hrm hxr hne hnR hSE
    go_enter Try.func109, Try.ntmps109
    go_wp2_with fail
    refine (Take_all h ((32 : Nat) : Int)).mono ?_
    rw [hX0, hA0, hE0]
    rintro e_ w0 ⟨rfl, hR0, hK0_⟩
    go_wp2_with fail
    refine (Skip_all hR0 (-1)).mono ?_
    rintro e_ w1 ⟨rfl, hR1, hK1_⟩
    have hK1 : Kp (fun k => k ≠ p ∧ k ≠ q) w w1 := (hK0_.trans hK1_).mono (fun k hk _ => hk.1)
    have hB1 := (hM.kp hK0_ (Ne.symm hpq)).kp hK1_ (Ne.symm hpq)
    clear h hM hK1_ hK0_ hX0 hA0 hE0 hR0
    generalize sAt bs a0 e0 (-1) = a1 at *
    generalize ferr e0 (-1) (8 * bs.length - a0) = e1 at *
    have hT1 : TK w w1 p q bs a1 e1 v 28 1 (.slice none 0 0) 0 [] := ⟨hR1, World.ownsRow_nil _ _ _ _, hK1⟩
    clear hR1 hK1
    have hy1 := tVal_lt bs a1 e1 8
    have G1 := take_good (bs := bs) (a := at_ + 32) (n := 8) (by decide)
    have S1 := take_short (bs := bs) (a := at_ + 32) (n := 8)
    have E1 := take_err (err := e1) (n := ((8 : Nat) : Int)) (left := 8 * bs.length - a1)
    generalize hY1 : tVal bs a1 e1 ((8 : Nat) : Int) = y1 at *
    generalize hB_1 : tAt bs a1 e1 ((8 : Nat) : Int) = b1 at *
    generalize hF1 : tErr e1 ((8 : Nat) : Int) (8 * bs.length - a1) = f1 at *
    have hy2 := tVal_lt bs b1 f1 6
    have G2 := take_good (bs := bs) (a := at_ + 40) (n := 6) (by decide)
    have S2 := take_short (bs := bs) (a := at_ + 40) (n := 6)
    have E2 := take_err (err := f1) (n := ((6 : Nat) : Int)) (left := 8 * bs.length - b1)
    generalize hY2 : tVal bs b1 f1 ((6 : Nat) : Int) = y2 at *
    generalize hB_2 : tAt bs b1 f1 ((6 : Nat) : Int) = b2 at *
    generalize hF2 : tErr f1 ((6 : Nat) : Int) (8 * bs.length - b1) = f2 at *
    have hy3 := tVal_lt bs b2 f2 18
    have G3 := take_good (bs := bs) (a := at_ + 46) (n := 18) (by decide)
    have S3 := take_short (bs := bs) (a := at_ + 46) (n := 18)
    have E3 := take_err (err := f2) (n := ((18 : Nat) : Int)) (left := 8 * bs.length - b2)
    generalize hY3 : tVal bs b2 f2 ((18 : Nat) : Int) = y3 at *
    generalize hB_3 : tAt bs b2 f2 ((18 : Nat) : Int) = b3 at *
    generalize hF3 : tErr f2 ((18 : Nat) : Int) (8 * bs.length - b2) = f3 at *
    have hC2 : Hd ((f3 = 0 ∧ b3 = at_ + 64 ∧ at_ + 64 ≤ 8 * bs.length ∧ vl bs at_ 32 = rembN ∧ y1 = vl bs (at_ + 32) 8 ∧ y2 = vl bs (at_ + 40) 6 ∧ y3 = vl bs (at_ + 46) 18 ∧ err0 = 0) ∨ (f3 ≠ 0 ∧ ¬ RateOk bs at_ err0)) := hd (by
      rcases hST.out with ⟨z1, z2, z3, z4, z00⟩ | ⟨z1, z2⟩
      · subst z1 z2
        by_cases h64 : at_ + 64 ≤ 8 * bs.length
        · obtain ⟨q1, q2, q3⟩ := G1 (by omega)
          rw [hY1] at q1
          rw [hB_1] at q2
          rw [hF1] at q3
          subst q2 q3
          obtain ⟨q4, q5, q6⟩ := G2 (by omega)
          rw [hY2] at q4
          rw [hB_2] at q5
          rw [hF2] at q6
          subst q5 q6
          obtain ⟨q7, q8, q9⟩ := G3 (by omega)
          rw [hY3] at q7
          rw [hB_3] at q8
          rw [hF3] at q9
          exact .inl ⟨q9, q8, h64, z4, q1, q4, q7, z00⟩
        · refine .inr ⟨?_, fun hR => h64 hR.2.1⟩
          by_cases h40 : at_ + 40 ≤ 8 * bs.length
          · obtain ⟨q1, q2, q3⟩ := G1 (by omega)
            rw [hB_1] at q2
            rw [hF1] at q3
            subst q2 q3
            by_cases h46 : at_ + 46 ≤ 8 * bs.length
            · obtain ⟨q4, q5, q6⟩ := G2 (by omega)
              rw [hB_2] at q5
              rw [hF2] at q6
              subst q5 q6
              have := S3 (by omega) 0
              rw [hF3] at this
              exact this
            · have := S2 (by omega) 0
              rw [hF2] at this
              exact E3 this
          · have := S1 (by omega) 0
            rw [hF1] at this
            exact E3 (E2 this)
      · exact .inr ⟨E3 (E2 (E1 z1)), z2⟩)
    clear G1 G2 G3 S1 S2 S3 E1 E2 E3 hST
    have k2 : IntKind.u8.wrap (y2 : Int) = y2 := IntWalk.u8_in _ (by omega)
    have k3 : IntKind.u32.wrap (y3 : Int) = y3 := IntWalk.u32_in _ (by omega)
    go_wp2_with fail
    refine (Take_all hT1.rd ((8 : Nat) : Int)).mono ?_
    rw [hY1, hB_1, hF1]
    rintro e_ w2 ⟨rfl, hR2, hK2⟩
    have hT2 := hT1.moved hpl hR2 hK2
    have hB2 := hB1.kp hK2 (Ne.symm hpq)
    clear hT1 hB1 hR2 hK2
    go_wp2_with fail
    refine (Take_all hT2.rd ((6 : Nat) : Int)).mono ?_
    rw [hY2, hB_2, hF2]
    rintro e_ w3 ⟨rfl, hR3, hK3⟩
    have hT3 := hT2.moved hpl hR3 hK3
    have hB3 := hB2.kp hK3 (Ne.symm hpq)
    clear hT2 hB2 hR3 hK3
    go_wp2_with fail
    refine (Take_all hT3.rd ((18 : Nat) : Int)).mono ?_
    rw [hY3, hB_3, hF3]
    rintro e_ w4 ⟨rfl, hR4, hK4⟩
    have hT4 := hT3.moved hpl hR4 hK4
    have hB4 := hB3.kp hK4 (Ne.symm hpq)
    clear hT3 hB3 hR4 hK4
    have ff := hB4.frozen
    have cc := hB4.cell
    have hB5 := (hB4.set 5 (.int .u8 (y2 : Int))).set 6 (.int .u32 (y3 : Int))
    simp only [List.setIfInBounds_toArray, List.set_cons_zero, List.set_cons_succ] at hB5
    have hT5 := (hT4.setq hpl hpq hvq hvl hql 5 (.int .u8 (y2 : Int))).setq hpl hpq hvq hvl hql 6 (.int .u32 (y3 : Int))
    go_wp2
    clear ff cc hT4 hB4
    generalize (w4.setCell ⟨q, 5, none⟩ (.int .u8 (y2 : Int))).setCell ⟨q, 6, none⟩ (.int .u32 (y3 : Int)) = w5 at *
    go_loopw [4] (fun nv wr => ∃ (m : Nat) (ov : Value) (n at2 : Nat) (err2 : Int) (xs : List Value), nv = .int .u64 (m : Int) ∧ m < 256 ∧ n + m ≤ 256 ∧ TK w wr p q bs at2 err2 v 28 1 ov n xs ∧ Blk wr q 52 #[.int .u8 s, .int .u32 sd, .int .u32 md, .slice a3 n3 c3, .slice a4 n4 c4, .int .u8 (y2 : Int), .int .u32 (y3 : Int), ov] ∧
      ((err2 = 0 ∧ at2 = at_ + 64 + 32 * n ∧ at2 ≤ 8 * bs.length ∧ xs = scs (tSrc bs (at_ + 64) n) ∧ n + m = vl bs (at_ + 32) 8 ∧ vl bs at_ 32 = rembN ∧ y2 = vl bs (at_ + 40) 6 ∧ y3 = vl bs (at_ + 46) 18 ∧ err0 = 0) ∨ (err2 ≠ 0 ∧ ¬ RateOk bs at_ err0))) (fun nv _ => (intOf nv).toNat)
    case atStart =>
      refine ⟨y1, .slice none 0 0, 0, b3, f3, [], rfl, by omega, by omega, hT5, hB5, ?_⟩
      rcases hC2.out with ⟨z1, z2, z3, z4, z5, z6, z7, z00⟩ | ⟨z1, z2⟩
      · exact .inl ⟨z1, by omega, by omega, rfl, by omega, z4, z6, z7, z00⟩
      · exact .inr ⟨z1, z2⟩
    case round =>
      obtain ⟨m, ov, n, at2, err2, xs, rfl, hm, hnm, hT, hB, hS⟩ := hrel
      have HS := hd hS
      clear hS
      obtain ⟨Ao, co, rfl⟩ : ∃ A c, ov = .slice A n c := by
        obtain ⟨A, c, e⟩ := own_slice hT.own
        exact ⟨A, c, e⟩
      by_cases h0 : 0 < m
      · obtain ⟨m, rfl⟩ : ∃ l, m = l + 1 := ⟨m - 1, by omega⟩
        have hpos : decide ((0 : Int) < ((m + 1 : Nat) : Int)) = true := decide_eq_true (by omega)
        have hdec : IntKind.u64.wrap (((m + 1 : Nat) : Int) - 1) = (m : Int) := by rw [IntWalk.u64_in _ (by omega)]; omega
        by_cases he : err2 = 0
        · subst he
          have hxx := tVal_lt bs at2 0 32
          have G1 := take_good (bs := bs) (a := at2) (n := 32) (by decide)
          have S1 := take_short (bs := bs) (a := at2) (n := 32)
          generalize hX : tVal bs at2 0 ((32 : Nat) : Int) = x1 at *
          generalize hA1 : tAt bs at2 0 ((32 : Nat) : Int) = a9 at *
          generalize hE1 : tErr 0 ((32 : Nat) : Int) (8 * bs.length - at2) = e9 at *
          have hNX : Hd ((e9 = 0 ∧ a9 = at_ + 64 + 32 * (n + 1) ∧ a9 ≤ 8 * bs.length ∧ xs ++ [Value.int .u32 (x1 : Int)] = scs (tSrc bs (at_ + 64) (n + 1)) ∧ (n + 1) + m = vl bs (at_ + 32) 8 ∧ vl bs at_ 32 = rembN ∧ y2 = vl bs (at_ + 40) 6 ∧ y3 = vl bs (at_ + 46) 18 ∧ err0 = 0) ∨ (e9 ≠ 0 ∧ ¬ RateOk bs at_ err0)) := hd (by
            rcases HS.out with ⟨_, z2, z3, z4, z5, z6, z7, z8, z00⟩ | ⟨z1, _⟩
            · by_cases hl : at2 + 32 ≤ 8 * bs.length
              · obtain ⟨q1, q2, q3⟩ := G1 hl
                refine .inl ⟨q3, by omega, by omega, ?_, by omega, z6, z7, z8, z00⟩
                rw [tSrc, scs_snoc, z4, q1, z2]
              · have := S1 (by omega) 0
                rw [hE1] at this
                exact .inr ⟨this, fun hR => by have := hR.2.2.2; omega⟩
            · exact absurd rfl z1)
          clear G1 S1 HS
          have f1_ : IntKind.u32.wrap (x1 : Int) = x1 := IntWalk.u32_in _ (by omega)
          have g7 := hB.cell 7
          have g8 : wr.drew.cell? ⟨q, 7, none⟩ = some (.slice Ao n co) := hB.cell 7
          go_wp2_with (go_at_call 70; refine (rerr_any hT.rd).mono ?_; rintro e_ w6 ⟨rfl, rfl⟩)
          go_region_law (first
            | (go_simp; go_at_call 69; refine (Take_all (rd_drew hT.rd) ((32 : Nat) : Int)).mono ?_; rw [hX, hA1, hE1]; rintro e_ w7 ⟨rfl, hR7, hK7⟩; have hT7 := hT.drewN1.moved hpl hR7 hK7; have hB7 := hB.drew.kp hK7 (Ne.symm hpq); have d5 := hB7.cell 7; have d7 := (hB7.alloc (.cells #[.int .u32 (x1 : Int)] 28)).cell 7; have hO7 := own_kp hT7.own ((Kp.refl (fun _ => True) w7).alloc (.cells #[.int .u32 (x1 : Int)] 28)) (fun _ _ _ => trivial); have hS7 := hT7.kp.size; have hN7 := new_cells w7 28 [.int .u32 (x1 : Int)])
            | (refine step_append_lies (w := w7.alloc (.cells #[.int .u32 (x1 : Int)] 28)) rfl (.tmp 37) (.tmp 41) 44 rfl w.heap.size 28 i0 _ 1 4 Try.underlying44 hi0 hz0 hz1 hz2 rfl (by decide) (.slice Ao n co) n xs rfl hO7 ⟨w7.heap.size, 0, none⟩ 1 1 [.int .u32 (x1 : Int)] rfl rfl hN7 (src_one _) (by decide) (by unfold maxLen; omega) (by omega) (by simp; omega) _ rfl ?_; intro g9 c9 w9 ho9 hg9 hl9 hlt9; have hB9 := (hB7.alloc (.cells #[.int .u32 (x1 : Int)] 28)).grown hg9 (by intro e; have := (hO7.lt _ e.symm).1; omega); have f9 := hB9.frozen 7; have c9_ := hB9.cell 7))
          all_goals
            have hBn := hB9.set 7 (.slice (some ⟨g9, 0, none⟩) (n + 1) c9)
            simp only [List.setIfInBounds_toArray, List.set_cons_zero, List.set_cons_succ] at hBn
            have hTn := hT7.append hpl hpq hvq hvl hql _ hg9 ho9 7 (.slice (some ⟨g9, 0, none⟩) (n + 1) c9)
            clear hB9 f9 c9_ hT7 hB7 hO7 hN7
            go_wp2
            go_roundw
            case rel => exact ⟨m, _, n + 1, a9, e9, _, by go_num, by omega, by omega, hTn, hBn, hNX.out⟩
            case measure => simp [intOf]
        · have hle : (err2 == 0) = false := by rw [beq_eq_false_iff_ne]; exact he
          have HE := hd he
          clear he
          go_wp2_with (go_at_call 70; refine (rerr_any hT.rd).mono ?_; rintro e_ w6 ⟨rfl, rfl⟩)
          go_end0
          refine ⟨rfl, _, _, _, _, _, _, _, hT, hB, ?_, ?_⟩
          · intro hR
            rcases HS.out with ⟨z1, _⟩ | ⟨_, z2⟩
            · exact absurd z1 HE.out
            · exact absurd hR z2
          · intro _
            exact HE.out
      · obtain rfl : m = 0 := by omega
        have hneg : decide ((0 : Int) < ((0 : Nat) : Int)) = false := by decide
        go_wp2
        go_end0
        refine ⟨rfl, _, _, _, _, _, _, _, hT, hB, ?_, ?_⟩
        · intro hR
          rcases HS.out with ⟨z1, z2, z3, z4, z5, z6, z7, z8, z00⟩ | ⟨_, z2⟩
          · have hn : n = vl bs (at_ + 32) 8 := by omega
            rw [← z7, ← z8, ← hn]
            exact ⟨z1, z2, rfl, z4, rfl, rfl⟩
          · exact absurd hR z2
        · intro hR
          rcases HS.out with ⟨z1, z2, z3, z4, z5, z6, z7, z8, z00⟩ | ⟨z1, _⟩
          · exact absurd ⟨z00, by omega, z6, by omega⟩ hR
          · exact z1
end Go.Proofs.Ytjcejgolcdgipaa.K7
