/- Chapter 07: what a reader's bytes give a message: pairs. -/
import Derived.Test.YtjcejgolcdgipaaK7U
import Derived.Deep.RegionLaw
import Derived.Deep.AppendLies
namespace Go.Proofs.Ytjcejgolcdgipaa.K7
open Go.RowKit Go.Proofs.YtjcejgolcdgipaaW.PrintWords Go.Proofs.YtjcejgolcdgipaaW.PrintLast Go.Proofs.YtjcejgolcdgipaaW.PrintMore
set_option linter.unusedVariables false

/-- The pairs, the orders in bytes, from a place on. -/
def tPairs (bs : List Nat) (at0 : Nat) : Nat → List (Nat × Nat)
  | 0 => []
  | k + 1 => tPairs bs at0 k ++ [(vl bs (at0 + 32 * k) 16, vl bs (at0 + 32 * k + 16) 16)]
theorem tPairs_length (bs : List Nat) (at0 k : Nat) : (tPairs bs at0 k).length = k := by
  induction k with
  | zero => rfl
  | succ k ih => rw [tPairs, List.length_append, ih]; rfl
def tOrders (bs : List Nat) (at0 : Nat) : Nat → List (Nat × Nat)
  | 0 => []
  | k + 1 => tOrders bs at0 k ++ [(vl bs (at0 + 64 * k) 32, vl bs (at0 + 64 * k + 32) 8)]
theorem tOrders_length (bs : List Nat) (at0 k : Nat) : (tOrders bs at0 k).length = k := by
  induction k with
  | zero => rfl
  | succ k ih => rw [tOrders, List.length_append, ih]; rfl
def ocs (ps : List (Nat × Nat)) : List Value := ps.flatMap fun p => [Value.int .u32 (p.1 : Int), Value.int .u8 (p.2 : Int)]
theorem ocs_append (a b : List (Nat × Nat)) : ocs (a ++ b) = ocs a ++ ocs b := by simp [ocs]
theorem ocs_one (p : Nat × Nat) : ocs [p] = [Value.int .u32 (p.1 : Int), Value.int .u8 (p.2 : Int)] := by simp [ocs]
theorem order_one (a b : Int) : ∀ u ∈ [Value.int .u32 a, Value.int .u8 b], u.oneCell' = true := by
  intro u hu
  simp at hu
  rcases hu with rfl | rfl <;> rfl
theorem infoOrder : (Try.prog.info? 134).map (fun i => (i.zero, i.size, i.bytes)) = some (some (.agg #[(.int .u32 0), (.int .u8 0)]), 2, 8) := by kernel_rfl
theorem rd_drew {w : World} {p : Nat} {bs : List Nat} {at_ : Nat} {err : Int} {v : Value} (h : Rd w p bs at_ err v) : Rd w.drew p bs at_ err v := h.drewN 1
theorem new_cells (w : World) (t : TypeId) (cs : List Value) : ∀ j u, cs[j]? = some u → (w.alloc (.cells cs.toArray t)).cell? ((⟨w.heap.size, 0, none⟩ : Addr).add j) = some u := by
  intro j u hu
  rw [Addr.add_lit, Nat.zero_add, cell_of_row _ _ _ _ _ _ (heap_alloc_new w _)]
  simpa using hu
/-- In the round of a taker: the reader, the message's box, its row; what was there is left alone. -/
structure TK (w wr : World) (p q : Nat) (bs : List Nat) (at_ : Nat) (err : Int) (v : Value) (t : TypeId) (sz : Nat) (ov : Value) (n : Nat) (xs : List Value) : Prop where
  rd : Rd wr p bs at_ err v
  own : wr.ownsRow w.heap.size t sz ov n xs
  kp : Kp (fun k => k ≠ p ∧ k ≠ q) w wr
section
variable {w wr w' : World} {p q : Nat} {bs : List Nat} {at_ at2 : Nat} {err err2 : Int} {v ov : Value} {t : TypeId} {sz n : Nat} {xs : List Value}
theorem TK.drewN (h : TK w wr p q bs at_ err v t sz ov n xs) (m : Nat) : TK w (wr.drewN m) p q bs at_ err v t sz ov n xs := ⟨h.rd.drewN m, h.own, h.kp.drewN m⟩
theorem TK.drewN1 (h : TK w wr p q bs at_ err v t sz ov n xs) : TK w wr.drew p q bs at_ err v t sz ov n xs := ⟨h.rd.drewN 1, h.own, h.kp.drew⟩
theorem TK.append {w9 : World} {v9 : Value} {n' : Nat} {xs' : List Value} (h : TK w wr p q bs at_ err v t sz ov n xs) (hp : p < w.heap.size) (hpq : p ≠ q) (hvq : v.ownBlock ≠ some q) (hvl : ∀ g, v.ownBlock = some g → g < w.heap.size) (hq : q < w.heap.size) (o : Obj)
    (hg : (wr.alloc o).grownBy w9 ov.ownBlock) (ho : w9.ownsRow w.heap.size t sz v9 n' xs') (i : Nat) (u : Value) : TK w (w9.setCell ⟨q, i, none⟩ u) p q bs at_ err v t sz v9 n' xs' := by
  have hs := h.kp.size
  have hk : Kp (fun k => k < w.heap.size ∧ k ≠ q) wr (w9.setCell ⟨q, i, none⟩ u) :=
    (((Kp.refl (fun k => k < w.heap.size ∧ k ≠ q) wr).alloc o).grown hg (fun k hk _ e => by have := (h.own.lt k e.symm).1; omega)).set (fun k hk _ => hk.2)
  exact ⟨h.rd.kp hk ⟨hp, hpq⟩ (fun g hg => ⟨hvl g hg, fun e => hvq (e ▸ hg)⟩), own_kp ho (Kp.refl (· ≠ q) w9).set_ (fun g hg _ => by show g ≠ q; omega), h.kp.next hk (fun k hk hl => ⟨hl, hk.2⟩)⟩
theorem TK.moved (h : TK w wr p q bs at_ err v t sz ov n xs) (hp : p < w.heap.size) (hR : Rd w' p bs at2 err2 v) (hK : Kp (· ≠ p) wr w') : TK w w' p q bs at2 err2 v t sz ov n xs :=
  ⟨hR, own_kp h.own hK (fun g hg _ => by have := h.kp.size; show g ≠ p; omega), h.kp.next hK (fun k hk _ => hk.1)⟩
end
structure Good (err0 : Int) (r : Nat) : Prop where
  e : err0 = 0
  r : r = 0
/-- What Take tells while there are digits enough; when there are not. -/
theorem take_good {bs : List Nat} {a n : Nat} (hn : n ≤ 64) (h : a + n ≤ 8 * bs.length) : tVal bs a 0 (n : Int) = vl bs a n ∧ tAt bs a 0 (n : Int) = a + n ∧ tErr 0 (n : Int) (8 * bs.length - a) = 0 := by
  have h0 : tErr 0 (n : Int) (8 * bs.length - a) = 0 := by
    unfold tErr
    rw [if_neg (by decide), if_neg (by omega), if_neg (by omega)]
  unfold tVal tAt
  rw [if_pos h0, if_pos h0, Int.toNat_natCast]
  exact ⟨rfl, rfl, h0⟩
theorem take_short {bs : List Nat} {a n : Nat} (h : 8 * bs.length < a + n) (err : Int) : tErr err (n : Int) (8 * bs.length - a) ≠ 0 := by
  unfold tErr
  split
  · assumption
  · split
    · decide
    · first
        | decide
        | (rw [if_pos (by omega)]; decide)
theorem take_err {err n left : Int} (h : err ≠ 0) : tErr err n left ≠ 0 := by
  unfold tErr
  rw [if_pos h]
  exact h
theorem tVal_lt (bs : List Nat) (a : Nat) (err : Int) (n : Nat) : tVal bs a err (n : Int) < 2 ^ n := by
  unfold tVal
  split
  · rw [Int.toNat_natCast]
    exact vl_lt bs a n
  · exact Nat.two_pow_pos n
theorem tAt_le (bs : List Nat) (a : Nat) (err : Int) (n : Nat) : tAt bs a err (n : Int) ≤ a + n := by
  unfold tAt
  split
  · rw [Int.toNat_natCast]; exact Nat.le_refl _
  · omega
def sAt (bs : List Nat) (at_ : Nat) (err n : Int) : Nat := if ferr err n (8 * bs.length - at_) = 0 then at_ + n.toNat else at_
theorem ferr_zero {err n left : Int} (h : ferr err n left = 0) : err = 0 ∧ 0 ≤ n ∧ n ≤ left := by
  unfold ferr at h
  split at h
  · omega
  · split at h
    · omega
    · split at h
      · omega
      · omega
theorem ferr_err {err n left : Int} (h : err ≠ 0) : ferr err n left ≠ 0 := by
  unfold ferr
  rw [if_pos h]
  exact h
theorem ferr_short {err n left : Int} (h : left < n) : ferr err n left ≠ 0 := by
  unfold ferr
  split
  · assumption
  · split
    · decide
    · first
        | decide
        | (rw [if_pos h]; decide)
theorem Skip_all {w : World} {p : Nat} {bs : List Nat} {at_ : Nat} {err : Int} {v : Value} (h : Rd w p bs at_ err v) (n : Int) :
    Calls Try.prog 129 #[.pointer (some ⟨p, 0, none⟩), .int .i64 n] w fun e w' => e = .returned (.tuple #[]) ∧ Rd w' p bs (sAt bs at_ err n) (ferr err n (8 * bs.length - at_)) v ∧ Kp (· ≠ p) w w' := by
  by_cases hf : ferr err n (8 * bs.length - at_) = 0
  · obtain ⟨rfl, h0, hl⟩ := ferr_zero hf
    obtain ⟨m, rfl⟩ := Int.eq_ofNat_of_zero_le h0
    unfold sAt
    rw [if_pos hf, hf, Int.toNat_natCast]
    exact Skip_ok h _ m rfl (by omega)
  · unfold sAt
    rw [if_neg hf]
    exact Skip_bad h n hf
set_option maxHeartbeats 4000000 in
set_option maxRecDepth 100000 in
theorem takePairs_any {w : World} {p q : Nat} {bs : List Nat} {at_ : Nat} {err0 : Int} {v : Value} (h : Rd w p bs at_ err0 v) (hpq : p ≠ q) (hvq : v.ownBlock ≠ some q) (s sd md e mn : Int) (v4 v7 : Value) (hv1 : ∃ a n c, v4 = .slice a n c) (hv2 : ∃ a n c, v7 = .slice a n c)
    (hM : Blk w q 52 #[.int .u8 s, .int .u32 sd, .int .u32 md, .slice none 0 0, v4, .int .u8 e, .int .u32 mn, v7]) (k r : Nat) (hk : err0 = 0 → 8 * bs.length = at_ + 32 * k + r) (hr : r < 32) (hkm : k ≤ 1000000) :
    Calls Try.prog 100 #[.pointer (some ⟨q, 0, none⟩), .pointer (some ⟨p, 0, none⟩)] w fun e_ w' =>
      e_ = .returned (.tuple #[]) ∧ ∃ at2 err2 ov n xs, TK w w' p q bs at2 err2 v 82 2 ov n xs ∧ Blk w' q 52 #[.int .u8 s, .int .u32 sd, .int .u32 md, ov, v4, .int .u8 e, .int .u32 mn, v7] ∧ (Good err0 r → err2 = 0 ∧ at2 = 8 * bs.length ∧ n = k ∧ xs = pcs (tPairs bs at_ k)) ∧ (¬ Good err0 r → err2 ≠ 0) := by
  obtain ⟨a4, n4, c4, rfl⟩ := hv1
  obtain ⟨a7, n7, c7, rfl⟩ := hv2
  have hpl := h.blk.lt
  have hql := hM.lt
  have hvl := h.vlt
  have hK := hd hk
  clear hk
  obtain ⟨i0, hi0, hz0, hz1, hz2⟩ := info_parts infoPair
  go_enter Try.func100, Try.ntmps100
  go_wp2
  go_loopg [] (if err0 = 0 then k + 1 else 0) (fun (g : Nat) (wr : World) => ∃ (j : Nat) (ov : Value) (n at2 : Nat) (err2 : Int) (xs : List Value), TK w wr p q bs at2 err2 v 82 2 ov n xs ∧ n ≤ k + 1 ∧ Blk wr q 52 #[.int .u8 s, .int .u32 sd, .int .u32 md, ov, .slice a4 n4 c4, .int .u8 e, .int .u32 mn, .slice a7 n7 c7] ∧ ((g = k + 1 - j ∧ j ≤ k ∧ err2 = 0 ∧ at2 = at_ + 32 * j ∧ n = j ∧ xs = pcs (tPairs bs at_ j) ∧ err0 = 0) ∨ (g = 0 ∧ err2 ≠ 0 ∧ ¬ Good err0 r)))
  case atStart => exact ⟨0, .slice none 0 0, 0, at_, err0, [], ⟨h, World.ownsRow_nil _ _ _ _, Kp.refl _ _⟩, by omega, hM, (by by_cases he0 : err0 = 0; (exact .inl ⟨by rw [if_pos he0]; rfl, Nat.zero_le _, he0, rfl, rfl, rfl, he0⟩); (exact .inr ⟨if_neg he0, he0, fun hh => he0 hh.e⟩))⟩
  case round =>
    obtain ⟨j, ov, n, at2, err2, xs, hT, hn, hB, hst⟩ := hrel
    obtain ⟨Ao, co, rfl⟩ : ∃ A c, ov = .slice A n c := by
      obtain ⟨A, c, e⟩ := own_slice hT.own
      exact ⟨A, c, e⟩
    rcases hst with ⟨hg, hj, rfl, rfl, rfl, rfl, h00⟩ | ⟨hg, he, hr0⟩
    · have hK := hd (hK.out h00)
      have H00 := hd h00
      clear h00
      by_cases hlt : at_ + 32 * n < 8 * bs.length
      · have hpos : decide ((0 : Int) < 8 * (bs.length : Int) - ((at_ + 32 * n : Nat) : Int)) = true := decide_eq_true (by omega)
        go_wp2_with (first | (go_at_call 71; refine (left_any hT.rd).mono ?_; rintro e_ w4 ⟨rfl, n4_, rfl⟩) | (go_at_call 70; refine (rerr_any (hT.rd.drewN _)).mono ?_; rintro e_ w5 ⟨rfl, rfl⟩))
        have hT4 := hT.drewN n4_
        have hB4 := hB.drewN n4_
        generalize wr.drewN n4_ = w4 at *
        clear hT hB
        have g4 : w4.drew.cell? ⟨q, 3, none⟩ = some (.slice Ao n co) := hB4.cell 3
        have hx1 := tVal_lt bs (at_ + 32 * n) 0 16
        have hx2 := tVal_lt bs (tAt bs (at_ + 32 * n) 0 (16 : Nat)) (tErr 0 (16 : Nat) (8 * bs.length - (at_ + 32 * n : Nat))) 16
        have G1 := take_good (bs := bs) (a := at_ + 32 * n) (n := 16) (by decide)
        have G2 := take_good (bs := bs) (a := at_ + 32 * n + 16) (n := 16) (by decide)
        have B2 := take_short (bs := bs) (a := at_ + 32 * n + 16) (n := 16)
        generalize hX : tVal bs (at_ + 32 * n) 0 ((16 : Nat) : Int) = x1 at *
        generalize hA1 : tAt bs (at_ + 32 * n) 0 ((16 : Nat) : Int) = a1 at *
        generalize hE1 : tErr 0 ((16 : Nat) : Int) (8 * bs.length - (at_ + 32 * n : Nat)) = e1 at *
        generalize hY : tVal bs a1 e1 ((16 : Nat) : Int) = x2 at *
        generalize hA2 : tAt bs a1 e1 ((16 : Nat) : Int) = a2 at *
        generalize hE2 : tErr e1 ((16 : Nat) : Int) (8 * bs.length - a1) = e2 at *
        have hCL : Hd ((n < k → e2 = 0 ∧ a2 = at_ + 32 * n + 32 ∧ x1 = vl bs (at_ + 32 * n) 16 ∧ x2 = vl bs (at_ + 32 * n + 16) 16) ∧ (¬ n < k → e2 ≠ 0 ∧ r ≠ 0)) := hd (by
          have hK := hK.out
          constructor
          · intro hnk
            obtain ⟨q1, q2, q3⟩ := G1 (by omega)
            obtain ⟨q4, q5, q6⟩ := G2 (by omega)
            subst q1 q2 q3
            rw [q4] at hY
            rw [q5] at hA2
            rw [q6] at hE2
            exact ⟨hE2.symm, hA2.symm.trans (by omega), rfl, hY.symm⟩
          · intro hnk
            refine ⟨?_, by omega⟩
            by_cases h1 : at_ + 32 * n + 16 ≤ 8 * bs.length
            · obtain ⟨q1, q2, q3⟩ := G1 h1
              subst q1 q2 q3
              rw [← hE2]; exact B2 (by omega) 0
            · have := take_short (bs := bs) (a := at_ + 32 * n) (n := 16) (by omega) 0
              rw [hE1] at this
              rw [← hE2]; exact take_err this)
        clear G1 G2 B2
        have f1 : IntKind.u16.wrap (x1 : Int) = x1 := IntWalk.u16_in _ (by omega)
        have f2 : IntKind.u16.wrap (x2 : Int) = x2 := IntWalk.u16_in _ (by omega)
        clear hlt hpos
        go_region_law (first
          | (go_simp; go_at_call 69; refine (Take_all (rd_drew hT4.rd) ((16 : Nat) : Int)).mono ?_; rw [hX, hA1, hE1]; rintro e_ w5 ⟨rfl, hR5, hK5⟩; have hT5 := hT4.drewN1.moved hpl hR5 hK5; have hB5 := hB4.drew.kp hK5 (Ne.symm hpq); have d5 := hB5.cell 3)
          | (go_simp; go_at_call 69; refine (Take_all hR5 ((16 : Nat) : Int)).mono ?_; rw [hY, hA2, hE2]; rintro e_ w6 ⟨rfl, hR6, hK6⟩; have hT6 := hT5.moved hpl hR6 hK6; have hB6 := hB5.kp hK6 (Ne.symm hpq); have d6 := hB6.cell 3; have d7 := (hB6.alloc (.cells #[.int .u16 (x1 : Int), .int .u16 (x2 : Int)] 82)).cell 3; have hO6 := own_kp hT6.own ((Kp.refl (fun _ => True) w6).alloc (.cells #[.int .u16 (x1 : Int), .int .u16 (x2 : Int)] 82)) (fun _ _ _ => trivial); have hS6 := hT6.kp.size; have hN6 := new_cells w6 82 [.int .u16 (x1 : Int), .int .u16 (x2 : Int)])
          | (refine step_append_lies (w := w6.alloc (.cells #[.int .u16 (x1 : Int), .int .u16 (x2 : Int)] 82)) rfl (.tmp 16) (.tmp 24) 22 rfl w.heap.size 82 i0 _ 2 4 Try.underlying22 hi0 hz0 hz1 hz2 rfl (by decide) (.slice Ao n co) n (pcs (tPairs bs at_ n)) rfl hO6 ⟨w6.heap.size, 0, none⟩ 1 1 [.int .u16 (x1 : Int), .int .u16 (x2 : Int)] rfl rfl hN6 (pair_one _ _) (by decide) (by unfold maxLen; omega) (by omega) (by simp; omega) _ rfl ?_; intro g9 c9 w9 ho9 hg9 hl9 hlt9; have hB9 := (hB6.alloc (.cells #[.int .u16 (x1 : Int), .int .u16 (x2 : Int)] 82)).grown hg9 (by intro e; have := (hO6.lt _ e.symm).1; omega); have f9 := hB9.frozen 3; have c9_ := hB9.cell 3))
        all_goals
          have hBn := hB9.set 3 (.slice (some ⟨g9, 0, none⟩) (n + 1) c9)
          simp only [List.setIfInBounds_toArray, List.set_cons_zero, List.set_cons_succ] at hBn
          have hTn := hT6.append hpl hpq hvq hvl hql _ hg9 ho9 3 (.slice (some ⟨g9, 0, none⟩) (n + 1) c9)
          clear hB9 f9 c9_ hT6 hB6 hO6 hN6
          go_wp2
          by_cases hnk : n < k
          · obtain ⟨z1, z2, z3, z4⟩ := hCL.out.1 hnk
            subst z1 z2 z3 z4
            go_roundg (k + 1 - (n + 1))
            case measure => omega
            case rel => exact ⟨n + 1, _, n + 1, _, _, _, hTn, by omega, hBn, .inl ⟨rfl, by omega, rfl, by omega, rfl, by rw [tPairs, pcs_append, pcs_one], H00.out⟩⟩
          · obtain ⟨z1, z2⟩ := hCL.out.2 hnk
            go_roundg 0
            case measure => omega
            case rel => exact ⟨0, _, n + 1, _, _, _, hTn, by omega, hBn, .inr ⟨rfl, z1, fun hh => z2 hh.r⟩⟩
      · have hKo := hK.out
        obtain rfl : n = k := by omega
        have hle : decide ((0 : Int) < 8 * (bs.length : Int) - ((at_ + 32 * n : Nat) : Int)) = false := decide_eq_false (by omega)
        have hfin : Hd ((r = 0 → at_ + 32 * n = 8 * bs.length) ∧ Good err0 r) := hd ⟨by omega, ⟨H00.out, by omega⟩⟩
        have hle2 : ¬ ((at_ : Int) + 32 * (n : Int) < 8 * (bs.length : Int)) := by omega
        clear hKo hlt
        go_wp2_with (go_at_call 71; refine (left_any hT.rd).mono ?_; rintro e_ w4 ⟨rfl, n4_, rfl⟩)
        go_end0
        exact ⟨rfl, _, _, _, _, _, hT.drewN n4_, hB.drewN n4_, fun h0 => ⟨rfl, hfin.out.1 h0.r, rfl, rfl⟩, fun h0 => absurd hfin.out.2 h0⟩
    · have hle : (err2 == 0) = false := by rw [beq_eq_false_iff_ne]; exact he
      have HE := hd he
      have HR0 := hd hr0
      clear he hr0
      by_cases hlt : (at2 : Int) < 8 * (bs.length : Int)
      · have hpos : decide ((0 : Int) < 8 * (bs.length : Int) - (at2 : Int)) = true := decide_eq_true (by omega)
        go_wp2_with (first | (go_at_call 71; refine (left_any hT.rd).mono ?_; rintro e_ w4 ⟨rfl, n4_, rfl⟩) | (go_at_call 70; refine (rerr_any (hT.rd.drewN _)).mono ?_; rintro e_ w5 ⟨rfl, rfl⟩))
        go_end0
        exact ⟨rfl, _, _, _, _, _, hT.drewN n4_, hB.drewN n4_, fun h0 => absurd h0 HR0.out, fun _ => HE.out⟩
      · have hpos : decide ((0 : Int) < 8 * (bs.length : Int) - (at2 : Int)) = false := decide_eq_false (by omega)
        go_wp2_with (first | (go_at_call 71; refine (left_any hT.rd).mono ?_; rintro e_ w4 ⟨rfl, n4_, rfl⟩) | (go_at_call 70; refine (rerr_any (hT.rd.drewN _)).mono ?_; rintro e_ w5 ⟨rfl, rfl⟩))
        go_end0
        exact ⟨rfl, _, _, _, _, _, hT.drewN n4_, hB.drewN n4_, fun h0 => absurd h0 HR0.out, fun _ => HE.out⟩
set_option maxHeartbeats 4000000 in
set_option maxRecDepth 100000 in
theorem takeOrders_any {w : World} {p q : Nat} {bs : List Nat} {at_ : Nat} {err0 : Int} {v : Value} (h : Rd w p bs at_ err0 v) (hpq : p ≠ q) (hvq : v.ownBlock ≠ some q) (s sd md e mn : Int) (v3 v7 : Value) (hv1 : ∃ a n c, v3 = .slice a n c) (hv2 : ∃ a n c, v7 = .slice a n c)
    (hM : Blk w q 52 #[.int .u8 s, .int .u32 sd, .int .u32 md, v3, .slice none 0 0, .int .u8 e, .int .u32 mn, v7]) (k r : Nat) (hk : err0 = 0 → 8 * bs.length = at_ + 64 * k + r) (hr : r < 64) (hkm : k ≤ 1000000) :
    Calls Try.prog 106 #[.pointer (some ⟨q, 0, none⟩), .pointer (some ⟨p, 0, none⟩)] w fun e_ w' =>
      e_ = .returned (.tuple #[]) ∧ ∃ at2 err2 ov n xs, TK w w' p q bs at2 err2 v 134 2 ov n xs ∧ Blk w' q 52 #[.int .u8 s, .int .u32 sd, .int .u32 md, v3, ov, .int .u8 e, .int .u32 mn, v7] ∧ (Good err0 r → err2 = 0 ∧ at2 = 8 * bs.length ∧ n = k ∧ xs = ocs (tOrders bs at_ k)) ∧ (¬ Good err0 r → err2 ≠ 0) := by
  obtain ⟨a3, n3, c3, rfl⟩ := hv1
  obtain ⟨a7, n7, c7, rfl⟩ := hv2
  have hpl := h.blk.lt
  have hql := hM.lt
  have hvl := h.vlt
  have hK := hd hk
  clear hk
  obtain ⟨i0, hi0, hz0, hz1, hz2⟩ := info_parts infoOrder
  go_enter Try.func106, Try.ntmps106
  go_wp2
  go_loopg [] (if err0 = 0 then k + 1 else 0) (fun (g : Nat) (wr : World) => ∃ (j : Nat) (ov : Value) (n at2 : Nat) (err2 : Int) (xs : List Value), TK w wr p q bs at2 err2 v 134 2 ov n xs ∧ n ≤ k + 1 ∧ Blk wr q 52 #[.int .u8 s, .int .u32 sd, .int .u32 md, .slice a3 n3 c3, ov, .int .u8 e, .int .u32 mn, .slice a7 n7 c7] ∧ ((g = k + 1 - j ∧ j ≤ k ∧ err2 = 0 ∧ at2 = at_ + 64 * j ∧ n = j ∧ xs = ocs (tOrders bs at_ j) ∧ err0 = 0) ∨ (g = 0 ∧ err2 ≠ 0 ∧ ¬ Good err0 r)))
  case atStart => exact ⟨0, .slice none 0 0, 0, at_, err0, [], ⟨h, World.ownsRow_nil _ _ _ _, Kp.refl _ _⟩, by omega, hM, (by by_cases he0 : err0 = 0; (exact .inl ⟨by rw [if_pos he0]; rfl, Nat.zero_le _, he0, rfl, rfl, rfl, he0⟩); (exact .inr ⟨if_neg he0, he0, fun hh => he0 hh.e⟩))⟩
  case round =>
    obtain ⟨j, ov, n, at2, err2, xs, hT, hn, hB, hst⟩ := hrel
    obtain ⟨Ao, co, rfl⟩ : ∃ A c, ov = .slice A n c := by
      obtain ⟨A, c, e⟩ := own_slice hT.own
      exact ⟨A, c, e⟩
    rcases hst with ⟨hg, hj, rfl, rfl, rfl, rfl, h00⟩ | ⟨hg, he, hr0⟩
    · have hK := hd (hK.out h00)
      have H00 := hd h00
      clear h00
      by_cases hlt : at_ + 64 * n < 8 * bs.length
      · have hpos : decide ((0 : Int) < 8 * (bs.length : Int) - ((at_ + 64 * n : Nat) : Int)) = true := decide_eq_true (by omega)
        go_wp2_with (first | (go_at_call 71; refine (left_any hT.rd).mono ?_; rintro e_ w4 ⟨rfl, n4_, rfl⟩) | (go_at_call 70; refine (rerr_any (hT.rd.drewN _)).mono ?_; rintro e_ w5 ⟨rfl, rfl⟩))
        have hT4 := hT.drewN n4_
        have hB4 := hB.drewN n4_
        generalize wr.drewN n4_ = w4 at *
        clear hT hB
        have g4 : w4.drew.cell? ⟨q, 4, none⟩ = some (.slice Ao n co) := hB4.cell 4
        have hx1 := tVal_lt bs (at_ + 64 * n) 0 32
        have hx2 := tVal_lt bs (tAt bs (at_ + 64 * n) 0 (32 : Nat)) (tErr 0 (32 : Nat) (8 * bs.length - (at_ + 64 * n : Nat))) 8
        have G1 := take_good (bs := bs) (a := at_ + 64 * n) (n := 32) (by decide)
        have G2 := take_good (bs := bs) (a := at_ + 64 * n + 32) (n := 8) (by decide)
        have B2 := take_short (bs := bs) (a := at_ + 64 * n + 32) (n := 8)
        generalize hX : tVal bs (at_ + 64 * n) 0 ((32 : Nat) : Int) = x1 at *
        generalize hA1 : tAt bs (at_ + 64 * n) 0 ((32 : Nat) : Int) = a1 at *
        generalize hE1 : tErr 0 ((32 : Nat) : Int) (8 * bs.length - (at_ + 64 * n : Nat)) = e1 at *
        generalize hY : tVal bs a1 e1 ((8 : Nat) : Int) = x2 at *
        generalize hA2 : tAt bs a1 e1 ((8 : Nat) : Int) = a2 at *
        generalize hE2 : tErr e1 ((8 : Nat) : Int) (8 * bs.length - a1) = e2 at *
        have hCL : Hd ((n < k → e2 = 0 ∧ a2 = at_ + 64 * n + 40 ∧ x1 = vl bs (at_ + 64 * n) 32 ∧ x2 = vl bs (at_ + 64 * n + 32) 8) ∧ (¬ n < k → (e2 ≠ 0 ∨ 8 * (bs.length : Int) - (a2 : Int) < 24) ∧ r ≠ 0)) := hd (by
          have hK := hK.out
          constructor
          · intro hnk
            obtain ⟨q1, q2, q3⟩ := G1 (by omega)
            obtain ⟨q4, q5, q6⟩ := G2 (by omega)
            subst q1 q2 q3
            rw [q4] at hY
            rw [q5] at hA2
            rw [q6] at hE2
            exact ⟨hE2.symm, hA2.symm.trans (by omega), rfl, hY.symm⟩
          · intro hnk
            refine ⟨?_, by omega⟩
            by_cases h1 : at_ + 64 * n + 32 ≤ 8 * bs.length
            · obtain ⟨q1, q2, q3⟩ := G1 h1
              subst q1 q2 q3
              by_cases h2 : at_ + 64 * n + 32 + 8 ≤ 8 * bs.length
              · obtain ⟨q4, q5, q6⟩ := G2 h2
                rw [q5] at hA2
                right; omega
              · left; rw [← hE2]; exact B2 (by omega) 0
            · have := take_short (bs := bs) (a := at_ + 64 * n) (n := 32) (by omega) 0
              rw [hE1] at this
              left; rw [← hE2]; exact take_err this)
        clear G1 G2 B2
        have f1 : IntKind.u32.wrap (x1 : Int) = x1 := IntWalk.u32_in _ (by omega)
        have f2 : IntKind.u8.wrap (x2 : Int) = x2 := IntWalk.u8_in _ (by omega)
        clear hlt hpos
        go_region_law (first
          | (go_simp; go_at_call_of 69 (Value.int .i64 32); refine (Take_all (rd_drew hT4.rd) ((32 : Nat) : Int)).mono ?_; rw [hX, hA1, hE1]; rintro e_ w5 ⟨rfl, hR5, hK5⟩; have hT5 := hT4.drewN1.moved hpl hR5 hK5; have hB5 := hB4.drew.kp hK5 (Ne.symm hpq); have d5 := hB5.cell 4)
          | (go_simp; go_at_call_of 69 (Value.int .i64 8); refine (Take_all hR5 ((8 : Nat) : Int)).mono ?_; rw [hY, hA2, hE2]; rintro e_ w6 ⟨rfl, hR6, hK6⟩; have hT6 := hT5.moved hpl hR6 hK6; have hB6 := hB5.kp hK6 (Ne.symm hpq); have d6 := hB6.cell 4; have d7 := (hB6.alloc (.cells #[.int .u32 (x1 : Int), .int .u8 (x2 : Int)] 134)).cell 4; have hO6 := own_kp hT6.own ((Kp.refl (fun _ => True) w6).alloc (.cells #[.int .u32 (x1 : Int), .int .u8 (x2 : Int)] 134)) (fun _ _ _ => trivial); have hS6 := hT6.kp.size; have hN6 := new_cells w6 134 [.int .u32 (x1 : Int), .int .u8 (x2 : Int)])
          | (refine step_append_lies (w := w6.alloc (.cells #[.int .u32 (x1 : Int), .int .u8 (x2 : Int)] 134)) rfl (.tmp 16) (.tmp 24) 50 rfl w.heap.size 134 i0 _ 2 8 Try.underlying50 hi0 hz0 hz1 hz2 rfl (by decide) (.slice Ao n co) n (ocs (tOrders bs at_ n)) rfl hO6 ⟨w6.heap.size, 0, none⟩ 1 1 [.int .u32 (x1 : Int), .int .u8 (x2 : Int)] rfl rfl hN6 (order_one _ _) (by decide) (by unfold maxLen; omega) (by omega) (by simp; omega) _ rfl ?_; intro g9 c9 w9 ho9 hg9 hl9 hlt9; have hB9 := (hB6.alloc (.cells #[.int .u32 (x1 : Int), .int .u8 (x2 : Int)] 134)).grown hg9 (by intro e; have := (hO6.lt _ e.symm).1; omega); have f9 := hB9.frozen 4; have c9_ := hB9.cell 4))
        all_goals
          have hBn := hB9.set 4 (.slice (some ⟨g9, 0, none⟩) (n + 1) c9)
          simp only [List.setIfInBounds_toArray, List.set_cons_zero, List.set_cons_succ] at hBn
          have hTn := hT6.append hpl hpq hvq hvl hql _ hg9 ho9 4 (.slice (some ⟨g9, 0, none⟩) (n + 1) c9)
          clear hB9 f9 c9_ hT6 hB6 hO6 hN6
          go_wp2_with fail
          refine (Skip_all hTn.rd 24).mono ?_
          rintro e_ w10 ⟨rfl, hR10, hK10⟩
          have hT10 := hTn.moved hpl hR10 hK10
          have hB10 := hBn.kp hK10 (Ne.symm hpq)
          clear hBn hTn hR10 hK10
          go_wp2
          by_cases hnk : n < k
          · obtain ⟨z1, z2, z3, z4⟩ := hCL.out.1 hnk
            subst z1 z2 z3 z4
            have hK2 := hK.out
            have y0 : ferr 0 24 (8 * (bs.length : Int) - ((at_ + 64 * n + 40 : Nat) : Int)) = 0 := by
              unfold ferr
              rw [if_neg (by decide), if_neg (by decide), if_neg (by omega)]
            have y1 : sAt bs (at_ + 64 * n + 40) 0 24 = at_ + 64 * (n + 1) := by
              unfold sAt
              rw [if_pos y0]
              show at_ + 64 * n + 40 + 24 = _
              omega
            rw [y0, y1] at hT10
            go_roundg (k + 1 - (n + 1))
            case measure => omega
            case rel => exact ⟨n + 1, _, n + 1, _, _, _, hT10, by omega, hB10, .inl ⟨rfl, by omega, rfl, rfl, rfl, by rw [tOrders, ocs_append, ocs_one], H00.out⟩⟩
          · obtain ⟨z1, z2⟩ := hCL.out.2 hnk
            have y0 : ferr e2 24 (8 * (bs.length : Int) - (a2 : Int)) ≠ 0 := z1.elim ferr_err ferr_short
            go_roundg 0
            case measure => omega
            case rel => exact ⟨0, _, n + 1, _, _, _, hT10, by omega, hB10, .inr ⟨rfl, y0, fun hh => z2 hh.r⟩⟩
      · have hKo := hK.out
        obtain rfl : n = k := by omega
        have hle : decide ((0 : Int) < 8 * (bs.length : Int) - ((at_ + 64 * n : Nat) : Int)) = false := decide_eq_false (by omega)
        have hfin : Hd ((r = 0 → at_ + 64 * n = 8 * bs.length) ∧ Good err0 r) := hd ⟨by omega, ⟨H00.out, by omega⟩⟩
        have hle2 : ¬ ((at_ : Int) + 64 * (n : Int) < 8 * (bs.length : Int)) := by omega
        clear hKo hlt
        go_wp2_with (go_at_call 71; refine (left_any hT.rd).mono ?_; rintro e_ w4 ⟨rfl, n4_, rfl⟩)
        go_end0
        exact ⟨rfl, _, _, _, _, _, hT.drewN n4_, hB.drewN n4_, fun h0 => ⟨rfl, hfin.out.1 h0.r, rfl, rfl⟩, fun h0 => absurd hfin.out.2 h0⟩
    · have hle : (err2 == 0) = false := by rw [beq_eq_false_iff_ne]; exact he
      have HE := hd he
      have HR0 := hd hr0
      clear he hr0
      by_cases hlt : (at2 : Int) < 8 * (bs.length : Int)
      · have hpos : decide ((0 : Int) < 8 * (bs.length : Int) - (at2 : Int)) = true := decide_eq_true (by omega)
        go_wp2_with (first | (go_at_call 71; refine (left_any hT.rd).mono ?_; rintro e_ w4 ⟨rfl, n4_, rfl⟩) | (go_at_call 70; refine (rerr_any (hT.rd.drewN _)).mono ?_; rintro e_ w5 ⟨rfl, rfl⟩))
        go_end0
        exact ⟨rfl, _, _, _, _, _, hT.drewN n4_, hB.drewN n4_, fun h0 => absurd h0 HR0.out, fun _ => HE.out⟩
      · have hpos : decide ((0 : Int) < 8 * (bs.length : Int) - (at2 : Int)) = false := decide_eq_false (by omega)
        go_wp2_with (first | (go_at_call 71; refine (left_any hT.rd).mono ?_; rintro e_ w4 ⟨rfl, n4_, rfl⟩) | (go_at_call 70; refine (rerr_any (hT.rd.drewN _)).mono ?_; rintro e_ w5 ⟨rfl, rfl⟩))
        go_end0
        exact ⟨rfl, _, _, _, _, _, hT.drewN n4_, hB.drewN n4_, fun h0 => absurd h0 HR0.out, fun _ => HE.out⟩
end Go.Proofs.Ytjcejgolcdgipaa.K7
