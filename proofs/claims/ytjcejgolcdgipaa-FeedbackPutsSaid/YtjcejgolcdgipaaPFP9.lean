/- Texts of this session, one behind the other, what the row does not use left out: walks and laws over plain data. -/
import Derived.Test.YtjcejgolcdgipaaPFP8
import Derived.Deep.RegionLaw
import Derived.Deep.AppendLies

namespace Go.Proofs.Ytjcejgolcdgipaa.K7
open Go.RowKit Go.Proofs.YtjcejgolcdgipaaW.PrintWords Go.Proofs.YtjcejgolcdgipaaW.PrintLast Go.Proofs.YtjcejgolcdgipaaW.PrintMore
set_option linter.unusedVariables false

/-- The pairs, the orders in bytes, from a place on. -/
def tPairs (bs : List Nat) (at0 : Nat) : Nat → List (Nat × Nat)
  | 0 => []
  | k + 1 => tPairs bs at0 k ++ [(vl bs (at0 + 32 * k) 16, vl bs (at0 + 32 * k + 16) 16)]
theorem tPairs_length (bs : List Nat) (at0 k : Nat) : (tPairs bs at0 k).length = k := by
  induction k with
  | zero => rfl
  | succ k ih => rw [tPairs, List.length_append, ih]; rfl
def tOrders (bs : List Nat) (at0 : Nat) : Nat → List (Nat × Nat)
  | 0 => []
  | k + 1 => tOrders bs at0 k ++ [(vl bs (at0 + 64 * k) 32, vl bs (at0 + 64 * k + 32) 8)]
theorem tOrders_length (bs : List Nat) (at0 k : Nat) : (tOrders bs at0 k).length = k := by
  induction k with
  | zero => rfl
  | succ k ih => rw [tOrders, List.length_append, ih]; rfl
def ocs (ps : List (Nat × Nat)) : List Value := ps.flatMap fun p => [Value.int .u32 (p.1 : Int), Value.int .u8 (p.2 : Int)]
theorem ocs_append (a b : List (Nat × Nat)) : ocs (a ++ b) = ocs a ++ ocs b := by simp [ocs]
theorem ocs_one (p : Nat × Nat) : ocs [p] = [Value.int .u32 (p.1 : Int), Value.int .u8 (p.2 : Int)] := by simp [ocs]
theorem order_one (a b : Int) : ∀ u ∈ [Value.int .u32 a, Value.int .u8 b], u.oneCell' = true := by
  intro u hu
  simp at hu
  rcases hu with rfl | rfl <;> rfl
theorem infoOrder : (Try.prog.info? 134).map (fun i => (i.zero, i.size, i.bytes)) = some (some (.agg #[(.int .u32 0), (.int .u8 0)]), 2, 8) := by kernel_rfl
theorem rd_drew {w : World} {p : Nat} {bs : List Nat} {at_ : Nat} {err : Int} {v : Value} (h : Rd w p bs at_ err v) : Rd w.drew p bs at_ err v := h.drewN 1
theorem new_cells (w : World) (t : TypeId) (cs : List Value) : ∀ j u, cs[j]? = some u → (w.alloc (.cells cs.toArray t)).cell? ((⟨w.heap.size, 0, none⟩ : Addr).add j) = some u := by
  intro j u hu
  rw [Addr.add_lit, Nat.zero_add, cell_of_row _ _ _ _ _ _ (heap_alloc_new w _)]
  simpa using hu
/-- In the round of a taker: the reader, the message's box, its row; what was there is left alone. -/
structure TK (w wr : World) (p q : Nat) (bs : List Nat) (at_ : Nat) (err : Int) (v : Value) (t : TypeId) (sz : Nat) (ov : Value) (n : Nat) (xs : List Value) : Prop where
  rd : Rd wr p bs at_ err v
  own : wr.ownsRow w.heap.size t sz ov n xs
  kp : Kp (fun k => k ≠ p ∧ k ≠ q) w wr
section
variable {w wr w' : World} {p q : Nat} {bs : List Nat} {at_ at2 : Nat} {err err2 : Int} {v ov : Value} {t : TypeId} {sz n : Nat} {xs : List Value}
theorem TK.drewN (h : TK w wr p q bs at_ err v t sz ov n xs) (m : Nat) : TK w (wr.drewN m) p q bs at_ err v t sz ov n xs := ⟨h.rd.drewN m, h.own, h.kp.drewN m⟩
theorem TK.drewN1 (h : TK w wr p q bs at_ err v t sz ov n xs) : TK w wr.drew p q bs at_ err v t sz ov n xs := ⟨h.rd.drewN 1, h.own, h.kp.drew⟩
theorem TK.append {w9 : World} {v9 : Value} {n' : Nat} {xs' : List Value} (h : TK w wr p q bs at_ err v t sz ov n xs) (hp : p < w.heap.size) (hpq : p ≠ q) (hvq : v.ownBlock ≠ some q) (hvl : ∀ g, v.ownBlock = some g → g < w.heap.size) (hq : q < w.heap.size) (o : Obj)
    (hg : (wr.alloc o).grownBy w9 ov.ownBlock) (ho : w9.ownsRow w.heap.size t sz v9 n' xs') (i : Nat) (u : Value) : TK w (w9.setCell ⟨q, i, none⟩ u) p q bs at_ err v t sz v9 n' xs' := by
  have hs := h.kp.size
  have hk : Kp (fun k => k < w.heap.size ∧ k ≠ q) wr (w9.setCell ⟨q, i, none⟩ u) :=
    (((Kp.refl (fun k => k < w.heap.size ∧ k ≠ q) wr).alloc o).grown hg (fun k hk _ e => by have := (h.own.lt k e.symm).1; omega)).set (fun k hk _ => hk.2)
  exact ⟨h.rd.kp hk ⟨hp, hpq⟩ (fun g hg => ⟨hvl g hg, fun e => hvq (e ▸ hg)⟩), own_kp ho (Kp.refl (· ≠ q) w9).set_ (fun g hg _ => by show g ≠ q; omega), h.kp.next hk (fun k hk hl => ⟨hl, hk.2⟩)⟩
theorem TK.moved (h : TK w wr p q bs at_ err v t sz ov n xs) (hp : p < w.heap.size) (hR : Rd w' p bs at2 err2 v) (hK : Kp (· ≠ p) wr w') : TK w w' p q bs at2 err2 v t sz ov n xs :=
  ⟨hR, own_kp h.own hK (fun g hg _ => by have := h.kp.size; show g ≠ p; omega), h.kp.next hK (fun k hk _ => hk.1)⟩
end
structure Good (err0 : Int) (r : Nat) : Prop where
  e : err0 = 0
  r : r = 0
/-- What Take tells while there are digits enough; when there are not. -/
theorem take_good {bs : List Nat} {a n : Nat} (hn : n ≤ 64) (h : a + n ≤ 8 * bs.length) : tVal bs a 0 (n : Int) = vl bs a n ∧ tAt bs a 0 (n : Int) = a + n ∧ tErr 0 (n : Int) (8 * bs.length - a) = 0 := by
  have h0 : tErr 0 (n : Int) (8 * bs.length - a) = 0 := by
    unfold tErr
    rw [if_neg (by decide), if_neg (by omega), if_neg (by omega)]
  unfold tVal tAt
  rw [if_pos h0, if_pos h0, Int.toNat_natCast]
  exact ⟨rfl, rfl, h0⟩
theorem take_short {bs : List Nat} {a n : Nat} (h : 8 * bs.length < a + n) (err : Int) : tErr err (n : Int) (8 * bs.length - a) ≠ 0 := by
  unfold tErr
  split
  · assumption
  · split
    · decide
    · first
        | decide
        | (rw [if_pos (by omega)]; decide)
theorem take_err {err n left : Int} (h : err ≠ 0) : tErr err n left ≠ 0 := by
  unfold tErr
  rw [if_pos h]
  exact h
theorem tVal_lt (bs : List Nat) (a : Nat) (err : Int) (n : Nat) : tVal bs a err (n : Int) < 2 ^ n := by
  unfold tVal
  split
  · rw [Int.toNat_natCast]
    exact vl_lt bs a n
  · exact Nat.two_pow_pos n
def sAt (bs : List Nat) (at_ : Nat) (err n : Int) : Nat := if ferr err n (8 * bs.length - at_) = 0 then at_ + n.toNat else at_
theorem ferr_zero {err n left : Int} (h : ferr err n left = 0) : err = 0 ∧ 0 ≤ n ∧ n ≤ left := by
  unfold ferr at h
  split at h
  · omega
  · split at h
    · omega
    · split at h
      · omega
      · omega
theorem ferr_err {err n left : Int} (h : err ≠ 0) : ferr err n left ≠ 0 := by
  unfold ferr
  rw [if_pos h]
  exact h
theorem ferr_short {err n left : Int} (h : left < n) : ferr err n left ≠ 0 := by
  unfold ferr
  split
  · assumption
  · split
    · decide
    · first
        | decide
        | (rw [if_pos h]; decide)
theorem Skip_all {w : World} {p : Nat} {bs : List Nat} {at_ : Nat} {err : Int} {v : Value} (h : Rd w p bs at_ err v) (n : Int) :
    Calls Try.prog 129 #[.pointer (some ⟨p, 0, none⟩), .int .i64 n] w fun e w' => e = .returned (.tuple #[]) ∧ Rd w' p bs (sAt bs at_ err n) (ferr err n (8 * bs.length - at_)) v ∧ Kp (· ≠ p) w w' := by
  by_cases hf : ferr err n (8 * bs.length - at_) = 0
  · obtain ⟨rfl, h0, hl⟩ := ferr_zero hf
    obtain ⟨m, rfl⟩ := Int.eq_ofNat_of_zero_le h0
    unfold sAt
    rw [if_pos hf, hf, Int.toNat_natCast]
    exact Skip_ok h _ m rfl (by omega)
  · unfold sAt
    rw [if_neg hf]
    exact Skip_bad h n hf
set_option maxHeartbeats 4000000 in
set_option maxRecDepth 100000 in
theorem takePairs_any {w : World} {p q : Nat} {bs : List Nat} {at_ : Nat} {err0 : Int} {v : Value} (h : Rd w p bs at_ err0 v) (hpq : p ≠ q) (hvq : v.ownBlock ≠ some q) (s sd md e mn : Int) (v4 v7 : Value) (hv1 : ∃ a n c, v4 = .slice a n c) (hv2 : ∃ a n c, v7 = .slice a n c)
    (hM : Blk w q 52 #[.int .u8 s, .int .u32 sd, .int .u32 md, .slice none 0 0, v4, .int .u8 e, .int .u32 mn, v7]) (k r : Nat) (hk : err0 = 0 → 8 * bs.length = at_ + 32 * k + r) (hr : r < 32) (hkm : k ≤ 1000000) :
    Calls Try.prog 100 #[.pointer (some ⟨q, 0, none⟩), .pointer (some ⟨p, 0, none⟩)] w fun e_ w' =>
      e_ = .returned (.tuple #[]) ∧ ∃ at2 err2 ov n xs, TK w w' p q bs at2 err2 v 82 2 ov n xs ∧ Blk w' q 52 #[.int .u8 s, .int .u32 sd, .int .u32 md, ov, v4, .int .u8 e, .int .u32 mn, v7] ∧ (Good err0 r → err2 = 0 ∧ at2 = 8 * bs.length ∧ n = k ∧ xs = pcs (tPairs bs at_ k)) ∧ (¬ Good err0 r → err2 ≠ 0) := by
  obtain ⟨a4, n4, c4, rfl⟩ := hv1
  obtain ⟨a7, n7, c7, rfl⟩ := hv2
  have hpl := h.blk.lt
  have hql := hM.lt
  have hvl := h.vlt
  have hK := hd hk
  clear hk
  obtain ⟨i0, hi0, hz0, hz1, hz2⟩ := info_parts infoPair
  go_enter Try.func100, Try.ntmps100
  go_wp2
  go_loopg [] (if err0 = 0 then k + 1 else 0) (fun (g : Nat) (wr : World) => ∃ (j : Nat) (ov : Value) (n at2 : Nat) (err2 : Int) (xs : List Value), TK w wr p q bs at2 err2 v 82 2 ov n xs ∧ n ≤ k + 1 ∧ Blk wr q 52 #[.int .u8 s, .int .u32 sd, .int .u32 md, ov, .slice a4 n4 c4, .int .u8 e, .int .u32 mn, .slice a7 n7 c7] ∧ ((g = k + 1 - j ∧ j ≤ k ∧ err2 = 0 ∧ at2 = at_ + 32 * j ∧ n = j ∧ xs = pcs (tPairs bs at_ j) ∧ err0 = 0) ∨ (g = 0 ∧ err2 ≠ 0 ∧ ¬ Good err0 r)))
  case atStart => exact ⟨0, .slice none 0 0, 0, at_, err0, [], ⟨h, World.ownsRow_nil _ _ _ _, Kp.refl _ _⟩, by omega, hM, (by by_cases he0 : err0 = 0; (exact .inl ⟨by rw [if_pos he0]; rfl, Nat.zero_le _, he0, rfl, rfl, rfl, he0⟩); (exact .inr ⟨if_neg he0, he0, fun hh => he0 hh.e⟩))⟩
  case round =>
    obtain ⟨j, ov, n, at2, err2, xs, hT, hn, hB, hst⟩ := hrel
    obtain ⟨Ao, co, rfl⟩ : ∃ A c, ov = .slice A n c := by
      obtain ⟨A, c, e⟩ := own_slice hT.own
      exact ⟨A, c, e⟩
    rcases hst with ⟨hg, hj, rfl, rfl, rfl, rfl, h00⟩ | ⟨hg, he, hr0⟩
    · have hK := hd (hK.out h00)
      have H00 := hd h00
      clear h00
      by_cases hlt : at_ + 32 * n < 8 * bs.length
      · have hpos : decide ((0 : Int) < 8 * (bs.length : Int) - ((at_ + 32 * n : Nat) : Int)) = true := decide_eq_true (by omega)
        go_wp2_with (first | (go_at_call 71; refine (left_any hT.rd).mono ?_; rintro e_ w4 ⟨rfl, n4_, rfl⟩) | (go_at_call 70; refine (rerr_any (hT.rd.drewN _)).mono ?_; rintro e_ w5 ⟨rfl, rfl⟩))
        have hT4 := hT.drewN n4_
        have hB4 := hB.drewN n4_
        generalize wr.drewN n4_ = w4 at *
        clear hT hB
        have g4 : w4.drew.cell? ⟨q, 3, none⟩ = some (.slice Ao n co) := hB4.cell 3
        have hx1 := tVal_lt bs (at_ + 32 * n) 0 16
        have hx2 := tVal_lt bs (tAt bs (at_ + 32 * n) 0 (16 : Nat)) (tErr 0 (16 : Nat) (8 * bs.length - (at_ + 32 * n : Nat))) 16
        have G1 := take_good (bs := bs) (a := at_ + 32 * n) (n := 16) (by decide)
        have G2 := take_good (bs := bs) (a := at_ + 32 * n + 16) (n := 16) (by decide)
        have B2 := take_short (bs := bs) (a := at_ + 32 * n + 16) (n := 16)
        generalize hX : tVal bs (at_ + 32 * n) 0 ((16 : Nat) : Int) = x1 at *
        generalize hA1 : tAt bs (at_ + 32 * n) 0 ((16 : Nat) : Int) = a1 at *
        generalize hE1 : tErr 0 ((16 : Nat) : Int) (8 * bs.length - (at_ + 32 * n : Nat)) = e1 at *
        generalize hY : tVal bs a1 e1 ((16 : Nat) : Int) = x2 at *
        generalize hA2 : tAt bs a1 e1 ((16 : Nat) : Int) = a2 at *
        generalize hE2 : tErr e1 ((16 : Nat) : Int) (8 * bs.length - a1) = e2 at *
        have hCL : Hd ((n < k → e2 = 0 ∧ a2 = at_ + 32 * n + 32 ∧ x1 = vl bs (at_ + 32 * n) 16 ∧ x2 = vl bs (at_ + 32 * n + 16) 16) ∧ (¬ n < k → e2 ≠ 0 ∧ r ≠ 0)) := hd (by
          have hK := hK.out
          constructor
          · intro hnk
            obtain ⟨q1, q2, q3⟩ := G1 (by omega)
            obtain ⟨q4, q5, q6⟩ := G2 (by omega)
            subst q1 q2 q3
            rw [q4] at hY
            rw [q5] at hA2
            rw [q6] at hE2
            exact ⟨hE2.symm, hA2.symm.trans (by omega), rfl, hY.symm⟩
          · intro hnk
            refine ⟨?_, by omega⟩
            by_cases h1 : at_ + 32 * n + 16 ≤ 8 * bs.length
            · obtain ⟨q1, q2, q3⟩ := G1 h1
              subst q1 q2 q3
              rw [← hE2]; exact B2 (by omega) 0
            · have := take_short (bs := bs) (a := at_ + 32 * n) (n := 16) (by omega) 0
              rw [hE1] at this
              rw [← hE2]; exact take_err this)
        clear G1 G2 B2
        have f1 : IntKind.u16.wrap (x1 : Int) = x1 := IntWalk.u16_in _ (by omega)
        have f2 : IntKind.u16.wrap (x2 : Int) = x2 := IntWalk.u16_in _ (by omega)
        clear hlt hpos
        go_region_law (first
          | (go_simp; go_at_call 69; refine (Take_all (rd_drew hT4.rd) ((16 : Nat) : Int)).mono ?_; rw [hX, hA1, hE1]; rintro e_ w5 ⟨rfl, hR5, hK5⟩; have hT5 := hT4.drewN1.moved hpl hR5 hK5; have hB5 := hB4.drew.kp hK5 (Ne.symm hpq); have d5 := hB5.cell 3)
          | (go_simp; go_at_call 69; refine (Take_all hR5 ((16 : Nat) : Int)).mono ?_; rw [hY, hA2, hE2]; rintro e_ w6 ⟨rfl, hR6, hK6⟩; have hT6 := hT5.moved hpl hR6 hK6; have hB6 := hB5.kp hK6 (Ne.symm hpq); have d6 := hB6.cell 3; have d7 := (hB6.alloc (.cells #[.int .u16 (x1 : Int), .int .u16 (x2 : Int)] 82)).cell 3; have hO6 := own_kp hT6.own ((Kp.refl (fun _ => True) w6).alloc (.cells #[.int .u16 (x1 : Int), .int .u16 (x2 : Int)] 82)) (fun _ _ _ => trivial); have hS6 := hT6.kp.size; have hN6 := new_cells w6 82 [.int .u16 (x1 : Int), .int .u16 (x2 : Int)])
          | (refine step_append_lies (w := w6.alloc (.cells #[.int .u16 (x1 : Int), .int .u16 (x2 : Int)] 82)) rfl (.tmp 16) (.tmp 24) 22 rfl w.heap.size 82 i0 _ 2 4 Try.underlying22 hi0 hz0 hz1 hz2 rfl (by decide) (.slice Ao n co) n (pcs (tPairs bs at_ n)) rfl hO6 ⟨w6.heap.size, 0, none⟩ 1 1 [.int .u16 (x1 : Int), .int .u16 (x2 : Int)] rfl rfl hN6 (pair_one _ _) (by decide) (by unfold maxLen; omega) (by omega) (by simp; omega) _ rfl ?_; intro g9 c9 w9 ho9 hg9 hl9 hlt9; have hB9 := (hB6.alloc (.cells #[.int .u16 (x1 : Int), .int .u16 (x2 : Int)] 82)).grown hg9 (by intro e; have := (hO6.lt _ e.symm).1; omega); have f9 := hB9.frozen 3; have c9_ := hB9.cell 3))
        all_goals
          have hBn := hB9.set 3 (.slice (some ⟨g9, 0, none⟩) (n + 1) c9)
          simp only [List.setIfInBounds_toArray, List.set_cons_zero, List.set_cons_succ] at hBn
          have hTn := hT6.append hpl hpq hvq hvl hql _ hg9 ho9 3 (.slice (some ⟨g9, 0, none⟩) (n + 1) c9)
          clear hB9 f9 c9_ hT6 hB6 hO6 hN6
          go_wp2
          by_cases hnk : n < k
          · obtain ⟨z1, z2, z3, z4⟩ := hCL.out.1 hnk
            subst z1 z2 z3 z4
            go_roundg (k + 1 - (n + 1))
            case measure => omega
            case rel => exact ⟨n + 1, _, n + 1, _, _, _, hTn, by omega, hBn, .inl ⟨rfl, by omega, rfl, by omega, rfl, by rw [tPairs, pcs_append, pcs_one], H00.out⟩⟩
          · obtain ⟨z1, z2⟩ := hCL.out.2 hnk
            go_roundg 0
            case measure => omega
            case rel => exact ⟨0, _, n + 1, _, _, _, hTn, by omega, hBn, .inr ⟨rfl, z1, fun hh => z2 hh.r⟩⟩
      · have hKo := hK.out
        obtain rfl : n = k := by omega
        have hle : decide ((0 : Int) < 8 * (bs.length : Int) - ((at_ + 32 * n : Nat) : Int)) = false := decide_eq_false (by omega)
        have hfin : Hd ((r = 0 → at_ + 32 * n = 8 * bs.length) ∧ Good err0 r) := hd ⟨by omega, ⟨H00.out, by omega⟩⟩
        have hle2 : ¬ ((at_ : Int) + 32 * (n : Int) < 8 * (bs.length : Int)) := by omega
        clear hKo hlt
        go_wp2_with (go_at_call 71; refine (left_any hT.rd).mono ?_; rintro e_ w4 ⟨rfl, n4_, rfl⟩)
        go_end0
        exact ⟨rfl, _, _, _, _, _, hT.drewN n4_, hB.drewN n4_, fun h0 => ⟨rfl, hfin.out.1 h0.r, rfl, rfl⟩, fun h0 => absurd hfin.out.2 h0⟩
    · have hle : (err2 == 0) = false := by rw [beq_eq_false_iff_ne]; exact he
      have HE := hd he
      have HR0 := hd hr0
      clear he hr0
      by_cases hlt : (at2 : Int) < 8 * (bs.length : Int)
      · have hpos : decide ((0 : Int) < 8 * (bs.length : Int) - (at2 : Int)) = true := decide_eq_true (by omega)
        go_wp2_with (first | (go_at_call 71; refine (left_any hT.rd).mono ?_; rintro e_ w4 ⟨rfl, n4_, rfl⟩) | (go_at_call 70; refine (rerr_any (hT.rd.drewN _)).mono ?_; rintro e_ w5 ⟨rfl, rfl⟩))
        go_end0
        exact ⟨rfl, _, _, _, _, _, hT.drewN n4_, hB.drewN n4_, fun h0 => absurd h0 HR0.out, fun _ => HE.out⟩
      · have hpos : decide ((0 : Int) < 8 * (bs.length : Int) - (at2 : Int)) = false := decide_eq_false (by omega)
        go_wp2_with (first | (go_at_call 71; refine (left_any hT.rd).mono ?_; rintro e_ w4 ⟨rfl, n4_, rfl⟩) | (go_at_call 70; refine (rerr_any (hT.rd.drewN _)).mono ?_; rintro e_ w5 ⟨rfl, rfl⟩))
        go_end0
        exact ⟨rfl, _, _, _, _, _, hT.drewN n4_, hB.drewN n4_, fun h0 => absurd h0 HR0.out, fun _ => HE.out⟩
set_option maxHeartbeats 4000000 in
set_option maxRecDepth 100000 in
theorem takeOrders_any {w : World} {p q : Nat} {bs : List Nat} {at_ : Nat} {err0 : Int} {v : Value} (h : Rd w p bs at_ err0 v) (hpq : p ≠ q) (hvq : v.ownBlock ≠ some q) (s sd md e mn : Int) (v3 v7 : Value) (hv1 : ∃ a n c, v3 = .slice a n c) (hv2 : ∃ a n c, v7 = .slice a n c)
    (hM : Blk w q 52 #[.int .u8 s, .int .u32 sd, .int .u32 md, v3, .slice none 0 0, .int .u8 e, .int .u32 mn, v7]) (k r : Nat) (hk : err0 = 0 → 8 * bs.length = at_ + 64 * k + r) (hr : r < 64) (hkm : k ≤ 1000000) :
    Calls Try.prog 106 #[.pointer (some ⟨q, 0, none⟩), .pointer (some ⟨p, 0, none⟩)] w fun e_ w' =>
      e_ = .returned (.tuple #[]) ∧ ∃ at2 err2 ov n xs, TK w w' p q bs at2 err2 v 134 2 ov n xs ∧ Blk w' q 52 #[.int .u8 s, .int .u32 sd, .int .u32 md, v3, ov, .int .u8 e, .int .u32 mn, v7] ∧ (Good err0 r → err2 = 0 ∧ at2 = 8 * bs.length ∧ n = k ∧ xs = ocs (tOrders bs at_ k)) ∧ (¬ Good err0 r → err2 ≠ 0) := by
  obtain ⟨a3, n3, c3, rfl⟩ := hv1
  obtain ⟨a7, n7, c7, rfl⟩ := hv2
  have hpl := h.blk.lt
  have hql := hM.lt
  have hvl := h.vlt
  have hK := hd hk
  clear hk
  obtain ⟨i0, hi0, hz0, hz1, hz2⟩ := info_parts infoOrder
  go_enter Try.func106, Try.ntmps106
  go_wp2
  go_loopg [] (if err0 = 0 then k + 1 else 0) (fun (g : Nat) (wr : World) => ∃ (j : Nat) (ov : Value) (n at2 : Nat) (err2 : Int) (xs : List Value), TK w wr p q bs at2 err2 v 134 2 ov n xs ∧ n ≤ k + 1 ∧ Blk wr q 52 #[.int .u8 s, .int .u32 sd, .int .u32 md, .slice a3 n3 c3, ov, .int .u8 e, .int .u32 mn, .slice a7 n7 c7] ∧ ((g = k + 1 - j ∧ j ≤ k ∧ err2 = 0 ∧ at2 = at_ + 64 * j ∧ n = j ∧ xs = ocs (tOrders bs at_ j) ∧ err0 = 0) ∨ (g = 0 ∧ err2 ≠ 0 ∧ ¬ Good err0 r)))
  case atStart => exact ⟨0, .slice none 0 0, 0, at_, err0, [], ⟨h, World.ownsRow_nil _ _ _ _, Kp.refl _ _⟩, by omega, hM, (by by_cases he0 : err0 = 0; (exact .inl ⟨by rw [if_pos he0]; rfl, Nat.zero_le _, he0, rfl, rfl, rfl, he0⟩); (exact .inr ⟨if_neg he0, he0, fun hh => he0 hh.e⟩))⟩
  case round =>
    obtain ⟨j, ov, n, at2, err2, xs, hT, hn, hB, hst⟩ := hrel
    obtain ⟨Ao, co, rfl⟩ : ∃ A c, ov = .slice A n c := by
      obtain ⟨A, c, e⟩ := own_slice hT.own
      exact ⟨A, c, e⟩
    rcases hst with ⟨hg, hj, rfl, rfl, rfl, rfl, h00⟩ | ⟨hg, he, hr0⟩
    · have hK := hd (hK.out h00)
      have H00 := hd h00
      clear h00
      by_cases hlt : at_ + 64 * n < 8 * bs.length
      · have hpos : decide ((0 : Int) < 8 * (bs.length : Int) - ((at_ + 64 * n : Nat) : Int)) = true := decide_eq_true (by omega)
        go_wp2_with (first | (go_at_call 71; refine (left_any hT.rd).mono ?_; rintro e_ w4 ⟨rfl, n4_, rfl⟩) | (go_at_call 70; refine (rerr_any (hT.rd.drewN _)).mono ?_; rintro e_ w5 ⟨rfl, rfl⟩))
        have hT4 := hT.drewN n4_
        have hB4 := hB.drewN n4_
        generalize wr.drewN n4_ = w4 at *
        clear hT hB
        have g4 : w4.drew.cell? ⟨q, 4, none⟩ = some (.slice Ao n co) := hB4.cell 4
        have hx1 := tVal_lt bs (at_ + 64 * n) 0 32
        have hx2 := tVal_lt bs (tAt bs (at_ + 64 * n) 0 (32 : Nat)) (tErr 0 (32 : Nat) (8 * bs.length - (at_ + 64 * n : Nat))) 8
        have G1 := take_good (bs := bs) (a := at_ + 64 * n) (n := 32) (by decide)
        have G2 := take_good (bs := bs) (a := at_ + 64 * n + 32) (n := 8) (by decide)
        have B2 := take_short (bs := bs) (a := at_ + 64 * n + 32) (n := 8)
        generalize hX : tVal bs (at_ + 64 * n) 0 ((32 : Nat) : Int) = x1 at *
        generalize hA1 : tAt bs (at_ + 64 * n) 0 ((32 : Nat) : Int) = a1 at *
        generalize hE1 : tErr 0 ((32 : Nat) : Int) (8 * bs.length - (at_ + 64 * n : Nat)) = e1 at *
        generalize hY : tVal bs a1 e1 ((8 : Nat) : Int) = x2 at *
        generalize hA2 : tAt bs a1 e1 ((8 : Nat) : Int) = a2 at *
        generalize hE2 : tErr e1 ((8 : Nat) : Int) (8 * bs.length - a1) = e2 at *
        have hCL : Hd ((n < k → e2 = 0 ∧ a2 = at_ + 64 * n + 40 ∧ x1 = vl bs (at_ + 64 * n) 32 ∧ x2 = vl bs (at_ + 64 * n + 32) 8) ∧ (¬ n < k → (e2 ≠ 0 ∨ 8 * (bs.length : Int) - (a2 : Int) < 24) ∧ r ≠ 0)) := hd (by
          have hK := hK.out
          constructor
          · intro hnk
            obtain ⟨q1, q2, q3⟩ := G1 (by omega)
            obtain ⟨q4, q5, q6⟩ := G2 (by omega)
            subst q1 q2 q3
            rw [q4] at hY
            rw [q5] at hA2
            rw [q6] at hE2
            exact ⟨hE2.symm, hA2.symm.trans (by omega), rfl, hY.symm⟩
          · intro hnk
            refine ⟨?_, by omega⟩
            by_cases h1 : at_ + 64 * n + 32 ≤ 8 * bs.length
            · obtain ⟨q1, q2, q3⟩ := G1 h1
              subst q1 q2 q3
              by_cases h2 : at_ + 64 * n + 32 + 8 ≤ 8 * bs.length
              · obtain ⟨q4, q5, q6⟩ := G2 h2
                rw [q5] at hA2
                right; omega
              · left; rw [← hE2]; exact B2 (by omega) 0
            · have := take_short (bs := bs) (a := at_ + 64 * n) (n := 32) (by omega) 0
              rw [hE1] at this
              left; rw [← hE2]; exact take_err this)
        clear G1 G2 B2
        have f1 : IntKind.u32.wrap (x1 : Int) = x1 := IntWalk.u32_in _ (by omega)
        have f2 : IntKind.u8.wrap (x2 : Int) = x2 := IntWalk.u8_in _ (by omega)
        clear hlt hpos
        go_region_law (first
          | (go_simp; go_at_call_of 69 (Value.int .i64 32); refine (Take_all (rd_drew hT4.rd) ((32 : Nat) : Int)).mono ?_; rw [hX, hA1, hE1]; rintro e_ w5 ⟨rfl, hR5, hK5⟩; have hT5 := hT4.drewN1.moved hpl hR5 hK5; have hB5 := hB4.drew.kp hK5 (Ne.symm hpq); have d5 := hB5.cell 4)
          | (go_simp; go_at_call_of 69 (Value.int .i64 8); refine (Take_all hR5 ((8 : Nat) : Int)).mono ?_; rw [hY, hA2, hE2]; rintro e_ w6 ⟨rfl, hR6, hK6⟩; have hT6 := hT5.moved hpl hR6 hK6; have hB6 := hB5.kp hK6 (Ne.symm hpq); have d6 := hB6.cell 4; have d7 := (hB6.alloc (.cells #[.int .u32 (x1 : Int), .int .u8 (x2 : Int)] 134)).cell 4; have hO6 := own_kp hT6.own ((Kp.refl (fun _ => True) w6).alloc (.cells #[.int .u32 (x1 : Int), .int .u8 (x2 : Int)] 134)) (fun _ _ _ => trivial); have hS6 := hT6.kp.size; have hN6 := new_cells w6 134 [.int .u32 (x1 : Int), .int .u8 (x2 : Int)])
          | (refine step_append_lies (w := w6.alloc (.cells #[.int .u32 (x1 : Int), .int .u8 (x2 : Int)] 134)) rfl (.tmp 16) (.tmp 24) 50 rfl w.heap.size 134 i0 _ 2 8 Try.underlying50 hi0 hz0 hz1 hz2 rfl (by decide) (.slice Ao n co) n (ocs (tOrders bs at_ n)) rfl hO6 ⟨w6.heap.size, 0, none⟩ 1 1 [.int .u32 (x1 : Int), .int .u8 (x2 : Int)] rfl rfl hN6 (order_one _ _) (by decide) (by unfold maxLen; omega) (by omega) (by simp; omega) _ rfl ?_; intro g9 c9 w9 ho9 hg9 hl9 hlt9; have hB9 := (hB6.alloc (.cells #[.int .u32 (x1 : Int), .int .u8 (x2 : Int)] 134)).grown hg9 (by intro e; have := (hO6.lt _ e.symm).1; omega); have f9 := hB9.frozen 4; have c9_ := hB9.cell 4))
        all_goals
          have hBn := hB9.set 4 (.slice (some ⟨g9, 0, none⟩) (n + 1) c9)
          simp only [List.setIfInBounds_toArray, List.set_cons_zero, List.set_cons_succ] at hBn
          have hTn := hT6.append hpl hpq hvq hvl hql _ hg9 ho9 4 (.slice (some ⟨g9, 0, none⟩) (n + 1) c9)
          clear hB9 f9 c9_ hT6 hB6 hO6 hN6
          go_wp2_with fail
          refine (Skip_all hTn.rd 24).mono ?_
          rintro e_ w10 ⟨rfl, hR10, hK10⟩
          have hT10 := hTn.moved hpl hR10 hK10
          have hB10 := hBn.kp hK10 (Ne.symm hpq)
          clear hBn hTn hR10 hK10
          go_wp2
          by_cases hnk : n < k
          · obtain ⟨z1, z2, z3, z4⟩ := hCL.out.1 hnk
            subst z1 z2 z3 z4
            have hK2 := hK.out
            have y0 : ferr 0 24 (8 * (bs.length : Int) - ((at_ + 64 * n + 40 : Nat) : Int)) = 0 := by
              unfold ferr
              rw [if_neg (by decide), if_neg (by decide), if_neg (by omega)]
            have y1 : sAt bs (at_ + 64 * n + 40) 0 24 = at_ + 64 * (n + 1) := by
              unfold sAt
              rw [if_pos y0]
              show at_ + 64 * n + 40 + 24 = _
              omega
            rw [y0, y1] at hT10
            go_roundg (k + 1 - (n + 1))
            case measure => omega
            case rel => exact ⟨n + 1, _, n + 1, _, _, _, hT10, by omega, hB10, .inl ⟨rfl, by omega, rfl, rfl, rfl, by rw [tOrders, ocs_append, ocs_one], H00.out⟩⟩
          · obtain ⟨z1, z2⟩ := hCL.out.2 hnk
            have y0 : ferr e2 24 (8 * (bs.length : Int) - (a2 : Int)) ≠ 0 := z1.elim ferr_err ferr_short
            go_roundg 0
            case measure => omega
            case rel => exact ⟨0, _, n + 1, _, _, _, hT10, by omega, hB10, .inr ⟨rfl, y0, fun hh => z2 hh.r⟩⟩
      · have hKo := hK.out
        obtain rfl : n = k := by omega
        have hle : decide ((0 : Int) < 8 * (bs.length : Int) - ((at_ + 64 * n : Nat) : Int)) = false := decide_eq_false (by omega)
        have hfin : Hd ((r = 0 → at_ + 64 * n = 8 * bs.length) ∧ Good err0 r) := hd ⟨by omega, ⟨H00.out, by omega⟩⟩
        have hle2 : ¬ ((at_ : Int) + 64 * (n : Int) < 8 * (bs.length : Int)) := by omega
        clear hKo hlt
        go_wp2_with (go_at_call 71; refine (left_any hT.rd).mono ?_; rintro e_ w4 ⟨rfl, n4_, rfl⟩)
        go_end0
        exact ⟨rfl, _, _, _, _, _, hT.drewN n4_, hB.drewN n4_, fun h0 => ⟨rfl, hfin.out.1 h0.r, rfl, rfl⟩, fun h0 => absurd hfin.out.2 h0⟩
    · have hle : (err2 == 0) = false := by rw [beq_eq_false_iff_ne]; exact he
      have HE := hd he
      have HR0 := hd hr0
      clear he hr0
      by_cases hlt : (at2 : Int) < 8 * (bs.length : Int)
      · have hpos : decide ((0 : Int) < 8 * (bs.length : Int) - (at2 : Int)) = true := decide_eq_true (by omega)
        go_wp2_with (first | (go_at_call 71; refine (left_any hT.rd).mono ?_; rintro e_ w4 ⟨rfl, n4_, rfl⟩) | (go_at_call 70; refine (rerr_any (hT.rd.drewN _)).mono ?_; rintro e_ w5 ⟨rfl, rfl⟩))
        go_end0
        exact ⟨rfl, _, _, _, _, _, hT.drewN n4_, hB.drewN n4_, fun h0 => absurd h0 HR0.out, fun _ => HE.out⟩
      · have hpos : decide ((0 : Int) < 8 * (bs.length : Int) - (at2 : Int)) = false := decide_eq_false (by omega)
        go_wp2_with (first | (go_at_call 71; refine (left_any hT.rd).mono ?_; rintro e_ w4 ⟨rfl, n4_, rfl⟩) | (go_at_call 70; refine (rerr_any (hT.rd.drewN _)).mono ?_; rintro e_ w5 ⟨rfl, rfl⟩))
        go_end0
        exact ⟨rfl, _, _, _, _, _, hT.drewN n4_, hB.drewN n4_, fun h0 => absurd h0 HR0.out, fun _ => HE.out⟩
end Go.Proofs.Ytjcejgolcdgipaa.K7

namespace Go.Proofs.Ytjcejgolcdgipaa.K7
open Go.RowKit Go.Proofs.YtjcejgolcdgipaaW.PrintWords Go.Proofs.YtjcejgolcdgipaaW.PrintLast Go.Proofs.YtjcejgolcdgipaaW.PrintMore
set_option linter.unusedVariables false

def tSrc (bs : List Nat) (at0 : Nat) : Nat → List Nat
  | 0 => []
  | k + 1 => tSrc bs at0 k ++ [vl bs (at0 + 32 * k) 32]
theorem tSrc_length (bs : List Nat) (at0 k : Nat) : (tSrc bs at0 k).length = k := by
  induction k with
  | zero => rfl
  | succ k ih => rw [tSrc, List.length_append, ih]; rfl
def scs (ns : List Nat) : List Value := ns.map fun (n : Nat) => Value.int .u32 (n : Int)
theorem scs_snoc (a : List Nat) (x : Nat) : scs (a ++ [x]) = scs a ++ [Value.int .u32 (x : Int)] := by simp [scs]
theorem src_one (a : Int) : ∀ u ∈ [Value.int .u32 a], u.oneCell' = true := by
  intro u hu
  simp at hu
  subst hu
  rfl
theorem infoU32 : (Try.prog.info? 28).map (fun i => (i.zero, i.size, i.bytes)) = some (some (.int .u32 0), 1, 4) := by kernel_rfl
/-- Whether bytes hold a whole rate from a place on. -/
def RateOk (bs : List Nat) (a : Nat) (err0 : Int) : Prop := err0 = 0 ∧ a + 64 ≤ 8 * bs.length ∧ vl bs a 32 = rembN ∧ a + 64 + 32 * vl bs (a + 32) 8 ≤ 8 * bs.length
theorem tVal_pos {bs : List Nat} {a : Nat} {err : Int} {n : Nat} (h : tVal bs a err (n : Int) ≠ 0) : err = 0 ∧ a + n ≤ 8 * bs.length ∧ tVal bs a err (n : Int) = vl bs a n := by
  unfold tVal at h ⊢
  split at h
  · rename_i h0
    obtain ⟨rfl, _, _, hl⟩ := tErr_zero h0
    rw [if_pos h0, Int.toNat_natCast]
    exact ⟨rfl, by omega, rfl⟩
  · exact absurd rfl h
theorem TK.setq {w wr : World} {p q : Nat} {bs : List Nat} {at_ : Nat} {err : Int} {v ov : Value} {t : TypeId} {sz n : Nat} {xs : List Value} (h : TK w wr p q bs at_ err v t sz ov n xs) (hp : p < w.heap.size) (hpq : p ≠ q) (hvq : v.ownBlock ≠ some q) (hvl : ∀ g, v.ownBlock = some g → g < w.heap.size) (hq : q < w.heap.size) (i : Nat) (u : Value) : TK w (wr.setCell ⟨q, i, none⟩ u) p q bs at_ err v t sz ov n xs := by
  have hk : Kp (fun k => k < w.heap.size ∧ k ≠ q) wr (wr.setCell ⟨q, i, none⟩ u) := (Kp.refl (fun k => k < w.heap.size ∧ k ≠ q) wr).set (fun k hk _ => hk.2)
  exact ⟨h.rd.kp hk ⟨hp, hpq⟩ (fun g hg => ⟨hvl g hg, fun e => hvq (e ▸ hg)⟩), own_kp h.own (Kp.refl (· ≠ q) wr).set_ (fun g hg _ => by show g ≠ q; omega), h.kp.next hk (fun k hk hl => ⟨hl, hk.2⟩)⟩
set_option maxHeartbeats 8000000 in
set_option maxRecDepth 100000 in
theorem takeRate_any {w : World} {p q : Nat} {bs : List Nat} {at_ : Nat} {err0 : Int} {v : Value} (h : Rd w p bs at_ err0 v) (hpq : p ≠ q) (hvq : v.ownBlock ≠ some q) (s sd md : Int) (v3 v4 : Value) (hv1 : ∃ a n c, v3 = .slice a n c) (hv2 : ∃ a n c, v4 = .slice a n c)
    (hM : Blk w q 52 #[.int .u8 s, .int .u32 sd, .int .u32 md, v3, v4, .int .u8 0, .int .u32 0, .slice none 0 0]) :
    Calls Try.prog 109 #[.pointer (some ⟨q, 0, none⟩), .pointer (some ⟨p, 0, none⟩)] w fun e_ w' =>
      e_ = .returned (.tuple #[]) ∧ ∃ at2 err2 ov n xs E M, TK w w' p q bs at2 err2 v 28 1 ov n xs ∧ Blk w' q 52 #[.int .u8 s, .int .u32 sd, .int .u32 md, v3, v4, .int .u8 E, .int .u32 M, ov] ∧
        (RateOk bs at_ err0 → err2 = 0 ∧ at2 = at_ + 64 + 32 * vl bs (at_ + 32) 8 ∧ n = vl bs (at_ + 32) 8 ∧ xs = scs (tSrc bs (at_ + 64) (vl bs (at_ + 32) 8)) ∧ E = (vl bs (at_ + 40) 6 : Nat) ∧ M = (vl bs (at_ + 46) 18 : Nat)) ∧ (¬ RateOk bs at_ err0 → err2 ≠ 0) := by
  obtain ⟨a3, n3, c3, rfl⟩ := hv1
  obtain ⟨a4, n4, c4, rfl⟩ := hv2
  have hpl := h.blk.lt
  have hql := hM.lt
  have hvl := h.vlt
  obtain ⟨i0, hi0, hz0, hz1, hz2⟩ := info_parts infoU32
  have hx0 := tVal_lt bs at_ err0 32
  have hp0 := tVal_pos (bs := bs) (a := at_) (err := err0) (n := 32)
  have hg0 := fun (he : err0 = 0) => he ▸ take_good (bs := bs) (a := at_) (n := 32) (by decide)
  have hb0 := take_short (bs := bs) (a := at_) (n := 32)
  have hne : rembN ≠ 0 := by decide
  have hrm : (1380273474 : Int) = (rembN : Int) := rembN_i
  generalize hX0 : tVal bs at_ err0 ((32 : Nat) : Int) = x0 at *
  generalize hA0 : tAt bs at_ err0 ((32 : Nat) : Int) = a0 at *
  generalize hE0 : tErr err0 ((32 : Nat) : Int) (8 * bs.length - at_) = e0 at *
  have hC0 : Hd (x0 = rembN → e0 = 0 ∧ a0 = at_ + 32 ∧ vl bs at_ 32 = rembN ∧ at_ + 32 ≤ 8 * bs.length ∧ err0 = 0) := hd (by
    intro hx
    obtain ⟨q1, q2, q3⟩ := hp0 (by rw [hx]; exact hne)
    obtain ⟨_, q5, q6⟩ := hg0 q1 q2
    exact ⟨q6.trans q1, q5, by rw [← q3, hx], q2, q1⟩)
  have hC1 : Hd (x0 ≠ rembN → ¬ RateOk bs at_ err0) := hd (by
    intro hx hR
    obtain ⟨q0, q1, q2, q3⟩ := hR
    obtain ⟨q4, _, _⟩ := hg0 q0 (by omega)
    exact hx (q4.trans q2))
  clear hp0 hg0 hb0
  by_cases hxr : x0 = rembN
  · have hq : ((x0 : Int) != 1380273474) = false := by rw [hrm, bne_eq_false_iff_eq, hxr]
    obtain ⟨z1, z2, z3, z4, z00⟩ := hC0.out hxr
    have hST : Hd ((e0 = 0 ∧ a0 = at_ + 32 ∧ at_ + 32 ≤ 8 * bs.length ∧ vl bs at_ 32 = rembN ∧ err0 = 0) ∨ (e0 ≠ 0 ∧ ¬ RateOk bs at_ err0)) := hd (.inl ⟨z1, z2, z4, z3, z00⟩)
    clear z1 z2 z3 z4 z00 hC0 hC1 hrm hxr hne
    go_enter Try.func109, Try.ntmps109
    go_wp2_with fail
    refine (Take_all h ((32 : Nat) : Int)).mono ?_
    rw [hX0, hA0, hE0]
    rintro e_ w1 ⟨rfl, hR1, hK1_⟩
    have hK1 : Kp (fun k => k ≠ p ∧ k ≠ q) w w1 := hK1_.mono (fun k hk _ => hk.1)
    have hB1 := hM.kp hK1_ (Ne.symm hpq)
    clear h hM hK1_ hX0 hA0 hE0
    generalize a0 = a1 at *
    generalize e0 = e1 at *
    have hT1 : TK w w1 p q bs a1 e1 v 28 1 (.slice none 0 0) 0 [] := ⟨hR1, World.ownsRow_nil _ _ _ _, hK1⟩
    clear hR1 hK1
    have hy1 := tVal_lt bs a1 e1 8
    have G1 := take_good (bs := bs) (a := at_ + 32) (n := 8) (by decide)
    have S1 := take_short (bs := bs) (a := at_ + 32) (n := 8)
    have E1 := take_err (err := e1) (n := ((8 : Nat) : Int)) (left := 8 * bs.length - a1)
    generalize hY1 : tVal bs a1 e1 ((8 : Nat) : Int) = y1 at *
    generalize hB_1 : tAt bs a1 e1 ((8 : Nat) : Int) = b1 at *
    generalize hF1 : tErr e1 ((8 : Nat) : Int) (8 * bs.length - a1) = f1 at *
    have hy2 := tVal_lt bs b1 f1 6
    have G2 := take_good (bs := bs) (a := at_ + 40) (n := 6) (by decide)
    have S2 := take_short (bs := bs) (a := at_ + 40) (n := 6)
    have E2 := take_err (err := f1) (n := ((6 : Nat) : Int)) (left := 8 * bs.length - b1)
    generalize hY2 : tVal bs b1 f1 ((6 : Nat) : Int) = y2 at *
    generalize hB_2 : tAt bs b1 f1 ((6 : Nat) : Int) = b2 at *
    generalize hF2 : tErr f1 ((6 : Nat) : Int) (8 * bs.length - b1) = f2 at *
    have hy3 := tVal_lt bs b2 f2 18
    have G3 := take_good (bs := bs) (a := at_ + 46) (n := 18) (by decide)
    have S3 := take_short (bs := bs) (a := at_ + 46) (n := 18)
    have E3 := take_err (err := f2) (n := ((18 : Nat) : Int)) (left := 8 * bs.length - b2)
    generalize hY3 : tVal bs b2 f2 ((18 : Nat) : Int) = y3 at *
    generalize hB_3 : tAt bs b2 f2 ((18 : Nat) : Int) = b3 at *
    generalize hF3 : tErr f2 ((18 : Nat) : Int) (8 * bs.length - b2) = f3 at *
    have hC2 : Hd ((f3 = 0 ∧ b3 = at_ + 64 ∧ at_ + 64 ≤ 8 * bs.length ∧ vl bs at_ 32 = rembN ∧ y1 = vl bs (at_ + 32) 8 ∧ y2 = vl bs (at_ + 40) 6 ∧ y3 = vl bs (at_ + 46) 18 ∧ err0 = 0) ∨ (f3 ≠ 0 ∧ ¬ RateOk bs at_ err0)) := hd (by
      rcases hST.out with ⟨z1, z2, z3, z4, z00⟩ | ⟨z1, z2⟩
      · subst z1 z2
        by_cases h64 : at_ + 64 ≤ 8 * bs.length
        · obtain ⟨q1, q2, q3⟩ := G1 (by omega)
          rw [hY1] at q1
          rw [hB_1] at q2
          rw [hF1] at q3
          subst q2 q3
          obtain ⟨q4, q5, q6⟩ := G2 (by omega)
          rw [hY2] at q4
          rw [hB_2] at q5
          rw [hF2] at q6
          subst q5 q6
          obtain ⟨q7, q8, q9⟩ := G3 (by omega)
          rw [hY3] at q7
          rw [hB_3] at q8
          rw [hF3] at q9
          exact .inl ⟨q9, q8, h64, z4, q1, q4, q7, z00⟩
        · refine .inr ⟨?_, fun hR => h64 hR.2.1⟩
          by_cases h40 : at_ + 40 ≤ 8 * bs.length
          · obtain ⟨q1, q2, q3⟩ := G1 (by omega)
            rw [hB_1] at q2
            rw [hF1] at q3
            subst q2 q3
            by_cases h46 : at_ + 46 ≤ 8 * bs.length
            · obtain ⟨q4, q5, q6⟩ := G2 (by omega)
              rw [hB_2] at q5
              rw [hF2] at q6
              subst q5 q6
              have := S3 (by omega) 0
              rw [hF3] at this
              exact this
            · have := S2 (by omega) 0
              rw [hF2] at this
              exact E3 this
          · have := S1 (by omega) 0
            rw [hF1] at this
            exact E3 (E2 this)
      · exact .inr ⟨E3 (E2 (E1 z1)), z2⟩)
    clear G1 G2 G3 S1 S2 S3 E1 E2 E3 hST
    have k2 : IntKind.u8.wrap (y2 : Int) = y2 := IntWalk.u8_in _ (by omega)
    have k3 : IntKind.u32.wrap (y3 : Int) = y3 := IntWalk.u32_in _ (by omega)
    go_wp2_with fail
    refine (Take_all hT1.rd ((8 : Nat) : Int)).mono ?_
    rw [hY1, hB_1, hF1]
    rintro e_ w2 ⟨rfl, hR2, hK2⟩
    have hT2 := hT1.moved hpl hR2 hK2
    have hB2 := hB1.kp hK2 (Ne.symm hpq)
    clear hT1 hB1 hR2 hK2
    go_wp2_with fail
    refine (Take_all hT2.rd ((6 : Nat) : Int)).mono ?_
    rw [hY2, hB_2, hF2]
    rintro e_ w3 ⟨rfl, hR3, hK3⟩
    have hT3 := hT2.moved hpl hR3 hK3
    have hB3 := hB2.kp hK3 (Ne.symm hpq)
    clear hT2 hB2 hR3 hK3
    go_wp2_with fail
    refine (Take_all hT3.rd ((18 : Nat) : Int)).mono ?_
    rw [hY3, hB_3, hF3]
    rintro e_ w4 ⟨rfl, hR4, hK4⟩
    have hT4 := hT3.moved hpl hR4 hK4
    have hB4 := hB3.kp hK4 (Ne.symm hpq)
    clear hT3 hB3 hR4 hK4
    have ff := hB4.frozen
    have cc := hB4.cell
    have hB5 := (hB4.set 5 (.int .u8 (y2 : Int))).set 6 (.int .u32 (y3 : Int))
    simp only [List.setIfInBounds_toArray, List.set_cons_zero, List.set_cons_succ] at hB5
    have hT5 := (hT4.setq hpl hpq hvq hvl hql 5 (.int .u8 (y2 : Int))).setq hpl hpq hvq hvl hql 6 (.int .u32 (y3 : Int))
    go_wp2
    clear ff cc hT4 hB4
    generalize (w4.setCell ⟨q, 5, none⟩ (.int .u8 (y2 : Int))).setCell ⟨q, 6, none⟩ (.int .u32 (y3 : Int)) = w5 at *
    go_loopw [4] (fun nv wr => ∃ (m : Nat) (ov : Value) (n at2 : Nat) (err2 : Int) (xs : List Value), nv = .int .u64 (m : Int) ∧ m < 256 ∧ n + m ≤ 256 ∧ TK w wr p q bs at2 err2 v 28 1 ov n xs ∧ Blk wr q 52 #[.int .u8 s, .int .u32 sd, .int .u32 md, .slice a3 n3 c3, .slice a4 n4 c4, .int .u8 (y2 : Int), .int .u32 (y3 : Int), ov] ∧
      ((err2 = 0 ∧ at2 = at_ + 64 + 32 * n ∧ at2 ≤ 8 * bs.length ∧ xs = scs (tSrc bs (at_ + 64) n) ∧ n + m = vl bs (at_ + 32) 8 ∧ vl bs at_ 32 = rembN ∧ y2 = vl bs (at_ + 40) 6 ∧ y3 = vl bs (at_ + 46) 18 ∧ err0 = 0) ∨ (err2 ≠ 0 ∧ ¬ RateOk bs at_ err0))) (fun nv _ => (intOf nv).toNat)
    case atStart =>
      refine ⟨y1, .slice none 0 0, 0, b3, f3, [], rfl, by omega, by omega, hT5, hB5, ?_⟩
      rcases hC2.out with ⟨z1, z2, z3, z4, z5, z6, z7, z00⟩ | ⟨z1, z2⟩
      · exact .inl ⟨z1, by omega, by omega, rfl, by omega, z4, z6, z7, z00⟩
      · exact .inr ⟨z1, z2⟩
    case round =>
      obtain ⟨m, ov, n, at2, err2, xs, rfl, hm, hnm, hT, hB, hS⟩ := hrel
      have HS := hd hS
      clear hS
      obtain ⟨Ao, co, rfl⟩ : ∃ A c, ov = .slice A n c := by
        obtain ⟨A, c, e⟩ := own_slice hT.own
        exact ⟨A, c, e⟩
      by_cases h0 : 0 < m
      · obtain ⟨m, rfl⟩ : ∃ l, m = l + 1 := ⟨m - 1, by omega⟩
        have hpos : decide ((0 : Int) < ((m + 1 : Nat) : Int)) = true := decide_eq_true (by omega)
        have hdec : IntKind.u64.wrap (((m + 1 : Nat) : Int) - 1) = (m : Int) := by rw [IntWalk.u64_in _ (by omega)]; omega
        by_cases he : err2 = 0
        · subst he
          have hxx := tVal_lt bs at2 0 32
          have G1 := take_good (bs := bs) (a := at2) (n := 32) (by decide)
          have S1 := take_short (bs := bs) (a := at2) (n := 32)
          generalize hX : tVal bs at2 0 ((32 : Nat) : Int) = x1 at *
          generalize hA1 : tAt bs at2 0 ((32 : Nat) : Int) = a9 at *
          generalize hE1 : tErr 0 ((32 : Nat) : Int) (8 * bs.length - at2) = e9 at *
          have hNX : Hd ((e9 = 0 ∧ a9 = at_ + 64 + 32 * (n + 1) ∧ a9 ≤ 8 * bs.length ∧ xs ++ [Value.int .u32 (x1 : Int)] = scs (tSrc bs (at_ + 64) (n + 1)) ∧ (n + 1) + m = vl bs (at_ + 32) 8 ∧ vl bs at_ 32 = rembN ∧ y2 = vl bs (at_ + 40) 6 ∧ y3 = vl bs (at_ + 46) 18 ∧ err0 = 0) ∨ (e9 ≠ 0 ∧ ¬ RateOk bs at_ err0)) := hd (by
            rcases HS.out with ⟨_, z2, z3, z4, z5, z6, z7, z8, z00⟩ | ⟨z1, _⟩
            · by_cases hl : at2 + 32 ≤ 8 * bs.length
              · obtain ⟨q1, q2, q3⟩ := G1 hl
                refine .inl ⟨q3, by omega, by omega, ?_, by omega, z6, z7, z8, z00⟩
                rw [tSrc, scs_snoc, z4, q1, z2]
              · have := S1 (by omega) 0
                rw [hE1] at this
                exact .inr ⟨this, fun hR => by have := hR.2.2.2; omega⟩
            · exact absurd rfl z1)
          clear G1 S1 HS
          have f1_ : IntKind.u32.wrap (x1 : Int) = x1 := IntWalk.u32_in _ (by omega)
          have g7 := hB.cell 7
          have g8 : wr.drew.cell? ⟨q, 7, none⟩ = some (.slice Ao n co) := hB.cell 7
          go_wp2_with (go_at_call 70; refine (rerr_any hT.rd).mono ?_; rintro e_ w6 ⟨rfl, rfl⟩)
          go_region_law (first
            | (go_simp; go_at_call 69; refine (Take_all (rd_drew hT.rd) ((32 : Nat) : Int)).mono ?_; rw [hX, hA1, hE1]; rintro e_ w7 ⟨rfl, hR7, hK7⟩; have hT7 := hT.drewN1.moved hpl hR7 hK7; have hB7 := hB.drew.kp hK7 (Ne.symm hpq); have d5 := hB7.cell 7; have d7 := (hB7.alloc (.cells #[.int .u32 (x1 : Int)] 28)).cell 7; have hO7 := own_kp hT7.own ((Kp.refl (fun _ => True) w7).alloc (.cells #[.int .u32 (x1 : Int)] 28)) (fun _ _ _ => trivial); have hS7 := hT7.kp.size; have hN7 := new_cells w7 28 [.int .u32 (x1 : Int)])
            | (refine step_append_lies (w := w7.alloc (.cells #[.int .u32 (x1 : Int)] 28)) rfl (.tmp 37) (.tmp 41) 44 rfl w.heap.size 28 i0 _ 1 4 Try.underlying44 hi0 hz0 hz1 hz2 rfl (by decide) (.slice Ao n co) n xs rfl hO7 ⟨w7.heap.size, 0, none⟩ 1 1 [.int .u32 (x1 : Int)] rfl rfl hN7 (src_one _) (by decide) (by unfold maxLen; omega) (by omega) (by simp; omega) _ rfl ?_; intro g9 c9 w9 ho9 hg9 hl9 hlt9; have hB9 := (hB7.alloc (.cells #[.int .u32 (x1 : Int)] 28)).grown hg9 (by intro e; have := (hO7.lt _ e.symm).1; omega); have f9 := hB9.frozen 7; have c9_ := hB9.cell 7))
          all_goals
            have hBn := hB9.set 7 (.slice (some ⟨g9, 0, none⟩) (n + 1) c9)
            simp only [List.setIfInBounds_toArray, List.set_cons_zero, List.set_cons_succ] at hBn
            have hTn := hT7.append hpl hpq hvq hvl hql _ hg9 ho9 7 (.slice (some ⟨g9, 0, none⟩) (n + 1) c9)
            clear hB9 f9 c9_ hT7 hB7 hO7 hN7
            go_wp2
            go_roundw
            case rel => exact ⟨m, _, n + 1, a9, e9, _, by go_num, by omega, by omega, hTn, hBn, hNX.out⟩
            case measure => simp [intOf]
        · have hle : (err2 == 0) = false := by rw [beq_eq_false_iff_ne]; exact he
          have HE := hd he
          clear he
          go_wp2_with (go_at_call 70; refine (rerr_any hT.rd).mono ?_; rintro e_ w6 ⟨rfl, rfl⟩)
          go_end0
          refine ⟨rfl, _, _, _, _, _, _, _, hT, hB, ?_, ?_⟩
          · intro hR
            rcases HS.out with ⟨z1, _⟩ | ⟨_, z2⟩
            · exact absurd z1 HE.out
            · exact absurd hR z2
          · intro _
            exact HE.out
      · obtain rfl : m = 0 := by omega
        have hneg : decide ((0 : Int) < ((0 : Nat) : Int)) = false := by decide
        go_wp2
        go_end0
        refine ⟨rfl, _, _, _, _, _, _, _, hT, hB, ?_, ?_⟩
        · intro hR
          rcases HS.out with ⟨z1, z2, z3, z4, z5, z6, z7, z8, z00⟩ | ⟨_, z2⟩
          · have hn : n = vl bs (at_ + 32) 8 := by omega
            rw [← z7, ← z8, ← hn]
            exact ⟨z1, z2, rfl, z4, rfl, rfl⟩
          · exact absurd hR z2
        · intro hR
          rcases HS.out with ⟨z1, z2, z3, z4, z5, z6, z7, z8, z00⟩ | ⟨z1, _⟩
          · exact absurd ⟨z00, by omega, z6, by omega⟩ hR
          · exact z1
  · have hq : ((x0 : Int) != 1380273474) = true := by rw [hrm, bne_iff_ne]; omega
    have hnR := hC1.out hxr
    have hSE : ferr e0 (-1) (8 * bs.length - a0) ≠ 0 := by
      unfold ferr
      split
      · assumption
      · first | decide | (rw [if_pos (by decide)]; decide)
    have hST : Hd ((ferr e0 (-1) (8 * bs.length - a0) = 0 ∧ sAt bs a0 e0 (-1) = at_ + 32 ∧ at_ + 32 ≤ 8 * bs.length ∧ vl bs at_ 32 = rembN ∧ err0 = 0) ∨ (ferr e0 (-1) (8 * bs.length - a0) ≠ 0 ∧ ¬ RateOk bs at_ err0)) := hd (.inr ⟨hSE, hnR⟩)
    clear hC0 hC1 hrm hxr hne hnR hSE
    go_enter Try.func109, Try.ntmps109
    go_wp2_with fail
    refine (Take_all h ((32 : Nat) : Int)).mono ?_
    rw [hX0, hA0, hE0]
    rintro e_ w0 ⟨rfl, hR0, hK0_⟩
    go_wp2_with fail
    refine (Skip_all hR0 (-1)).mono ?_
    rintro e_ w1 ⟨rfl, hR1, hK1_⟩
    have hK1 : Kp (fun k => k ≠ p ∧ k ≠ q) w w1 := (hK0_.trans hK1_).mono (fun k hk _ => hk.1)
    have hB1 := (hM.kp hK0_ (Ne.symm hpq)).kp hK1_ (Ne.symm hpq)
    clear h hM hK1_ hK0_ hX0 hA0 hE0 hR0
    generalize sAt bs a0 e0 (-1) = a1 at *
    generalize ferr e0 (-1) (8 * bs.length - a0) = e1 at *
    have hT1 : TK w w1 p q bs a1 e1 v 28 1 (.slice none 0 0) 0 [] := ⟨hR1, World.ownsRow_nil _ _ _ _, hK1⟩
    clear hR1 hK1
    have hy1 := tVal_lt bs a1 e1 8
    have G1 := take_good (bs := bs) (a := at_ + 32) (n := 8) (by decide)
    have S1 := take_short (bs := bs) (a := at_ + 32) (n := 8)
    have E1 := take_err (err := e1) (n := ((8 : Nat) : Int)) (left := 8 * bs.length - a1)
    generalize hY1 : tVal bs a1 e1 ((8 : Nat) : Int) = y1 at *
    generalize hB_1 : tAt bs a1 e1 ((8 : Nat) : Int) = b1 at *
    generalize hF1 : tErr e1 ((8 : Nat) : Int) (8 * bs.length - a1) = f1 at *
    have hy2 := tVal_lt bs b1 f1 6
    have G2 := take_good (bs := bs) (a := at_ + 40) (n := 6) (by decide)
    have S2 := take_short (bs := bs) (a := at_ + 40) (n := 6)
    have E2 := take_err (err := f1) (n := ((6 : Nat) : Int)) (left := 8 * bs.length - b1)
    generalize hY2 : tVal bs b1 f1 ((6 : Nat) : Int) = y2 at *
    generalize hB_2 : tAt bs b1 f1 ((6 : Nat) : Int) = b2 at *
    generalize hF2 : tErr f1 ((6 : Nat) : Int) (8 * bs.length - b1) = f2 at *
    have hy3 := tVal_lt bs b2 f2 18
    have G3 := take_good (bs := bs) (a := at_ + 46) (n := 18) (by decide)
    have S3 := take_short (bs := bs) (a := at_ + 46) (n := 18)
    have E3 := take_err (err := f2) (n := ((18 : Nat) : Int)) (left := 8 * bs.length - b2)
    generalize hY3 : tVal bs b2 f2 ((18 : Nat) : Int) = y3 at *
    generalize hB_3 : tAt bs b2 f2 ((18 : Nat) : Int) = b3 at *
    generalize hF3 : tErr f2 ((18 : Nat) : Int) (8 * bs.length - b2) = f3 at *
    have hC2 : Hd ((f3 = 0 ∧ b3 = at_ + 64 ∧ at_ + 64 ≤ 8 * bs.length ∧ vl bs at_ 32 = rembN ∧ y1 = vl bs (at_ + 32) 8 ∧ y2 = vl bs (at_ + 40) 6 ∧ y3 = vl bs (at_ + 46) 18 ∧ err0 = 0) ∨ (f3 ≠ 0 ∧ ¬ RateOk bs at_ err0)) := hd (by
      rcases hST.out with ⟨z1, z2, z3, z4, z00⟩ | ⟨z1, z2⟩
      · subst z1 z2
        by_cases h64 : at_ + 64 ≤ 8 * bs.length
        · obtain ⟨q1, q2, q3⟩ := G1 (by omega)
          rw [hY1] at q1
          rw [hB_1] at q2
          rw [hF1] at q3
          subst q2 q3
          obtain ⟨q4, q5, q6⟩ := G2 (by omega)
          rw [hY2] at q4
          rw [hB_2] at q5
          rw [hF2] at q6
          subst q5 q6
          obtain ⟨q7, q8, q9⟩ := G3 (by omega)
          rw [hY3] at q7
          rw [hB_3] at q8
          rw [hF3] at q9
          exact .inl ⟨q9, q8, h64, z4, q1, q4, q7, z00⟩
        · refine .inr ⟨?_, fun hR => h64 hR.2.1⟩
          by_cases h40 : at_ + 40 ≤ 8 * bs.length
          · obtain ⟨q1, q2, q3⟩ := G1 (by omega)
            rw [hB_1] at q2
            rw [hF1] at q3
            subst q2 q3
            by_cases h46 : at_ + 46 ≤ 8 * bs.length
            · obtain ⟨q4, q5, q6⟩ := G2 (by omega)
              rw [hB_2] at q5
              rw [hF2] at q6
              subst q5 q6
              have := S3 (by omega) 0
              rw [hF3] at this
              exact this
            · have := S2 (by omega) 0
              rw [hF2] at this
              exact E3 this
          · have := S1 (by omega) 0
            rw [hF1] at this
            exact E3 (E2 this)
      · exact .inr ⟨E3 (E2 (E1 z1)), z2⟩)
    clear G1 G2 G3 S1 S2 S3 E1 E2 E3 hST
    have k2 : IntKind.u8.wrap (y2 : Int) = y2 := IntWalk.u8_in _ (by omega)
    have k3 : IntKind.u32.wrap (y3 : Int) = y3 := IntWalk.u32_in _ (by omega)
    go_wp2_with fail
    refine (Take_all hT1.rd ((8 : Nat) : Int)).mono ?_
    rw [hY1, hB_1, hF1]
    rintro e_ w2 ⟨rfl, hR2, hK2⟩
    have hT2 := hT1.moved hpl hR2 hK2
    have hB2 := hB1.kp hK2 (Ne.symm hpq)
    clear hT1 hB1 hR2 hK2
    go_wp2_with fail
    refine (Take_all hT2.rd ((6 : Nat) : Int)).mono ?_
    rw [hY2, hB_2, hF2]
    rintro e_ w3 ⟨rfl, hR3, hK3⟩
    have hT3 := hT2.moved hpl hR3 hK3
    have hB3 := hB2.kp hK3 (Ne.symm hpq)
    clear hT2 hB2 hR3 hK3
    go_wp2_with fail
    refine (Take_all hT3.rd ((18 : Nat) : Int)).mono ?_
    rw [hY3, hB_3, hF3]
    rintro e_ w4 ⟨rfl, hR4, hK4⟩
    have hT4 := hT3.moved hpl hR4 hK4
    have hB4 := hB3.kp hK4 (Ne.symm hpq)
    clear hT3 hB3 hR4 hK4
    have ff := hB4.frozen
    have cc := hB4.cell
    have hB5 := (hB4.set 5 (.int .u8 (y2 : Int))).set 6 (.int .u32 (y3 : Int))
    simp only [List.setIfInBounds_toArray, List.set_cons_zero, List.set_cons_succ] at hB5
    have hT5 := (hT4.setq hpl hpq hvq hvl hql 5 (.int .u8 (y2 : Int))).setq hpl hpq hvq hvl hql 6 (.int .u32 (y3 : Int))
    go_wp2
    clear ff cc hT4 hB4
    generalize (w4.setCell ⟨q, 5, none⟩ (.int .u8 (y2 : Int))).setCell ⟨q, 6, none⟩ (.int .u32 (y3 : Int)) = w5 at *
    go_loopw [4] (fun nv wr => ∃ (m : Nat) (ov : Value) (n at2 : Nat) (err2 : Int) (xs : List Value), nv = .int .u64 (m : Int) ∧ m < 256 ∧ n + m ≤ 256 ∧ TK w wr p q bs at2 err2 v 28 1 ov n xs ∧ Blk wr q 52 #[.int .u8 s, .int .u32 sd, .int .u32 md, .slice a3 n3 c3, .slice a4 n4 c4, .int .u8 (y2 : Int), .int .u32 (y3 : Int), ov] ∧
      ((err2 = 0 ∧ at2 = at_ + 64 + 32 * n ∧ at2 ≤ 8 * bs.length ∧ xs = scs (tSrc bs (at_ + 64) n) ∧ n + m = vl bs (at_ + 32) 8 ∧ vl bs at_ 32 = rembN ∧ y2 = vl bs (at_ + 40) 6 ∧ y3 = vl bs (at_ + 46) 18 ∧ err0 = 0) ∨ (err2 ≠ 0 ∧ ¬ RateOk bs at_ err0))) (fun nv _ => (intOf nv).toNat)
    case atStart =>
      refine ⟨y1, .slice none 0 0, 0, b3, f3, [], rfl, by omega, by omega, hT5, hB5, ?_⟩
      rcases hC2.out with ⟨z1, z2, z3, z4, z5, z6, z7, z00⟩ | ⟨z1, z2⟩
      · exact .inl ⟨z1, by omega, by omega, rfl, by omega, z4, z6, z7, z00⟩
      · exact .inr ⟨z1, z2⟩
    case round =>
      obtain ⟨m, ov, n, at2, err2, xs, rfl, hm, hnm, hT, hB, hS⟩ := hrel
      have HS := hd hS
      clear hS
      obtain ⟨Ao, co, rfl⟩ : ∃ A c, ov = .slice A n c := by
        obtain ⟨A, c, e⟩ := own_slice hT.own
        exact ⟨A, c, e⟩
      by_cases h0 : 0 < m
      · obtain ⟨m, rfl⟩ : ∃ l, m = l + 1 := ⟨m - 1, by omega⟩
        have hpos : decide ((0 : Int) < ((m + 1 : Nat) : Int)) = true := decide_eq_true (by omega)
        have hdec : IntKind.u64.wrap (((m + 1 : Nat) : Int) - 1) = (m : Int) := by rw [IntWalk.u64_in _ (by omega)]; omega
        by_cases he : err2 = 0
        · subst he
          have hxx := tVal_lt bs at2 0 32
          have G1 := take_good (bs := bs) (a := at2) (n := 32) (by decide)
          have S1 := take_short (bs := bs) (a := at2) (n := 32)
          generalize hX : tVal bs at2 0 ((32 : Nat) : Int) = x1 at *
          generalize hA1 : tAt bs at2 0 ((32 : Nat) : Int) = a9 at *
          generalize hE1 : tErr 0 ((32 : Nat) : Int) (8 * bs.length - at2) = e9 at *
          have hNX : Hd ((e9 = 0 ∧ a9 = at_ + 64 + 32 * (n + 1) ∧ a9 ≤ 8 * bs.length ∧ xs ++ [Value.int .u32 (x1 : Int)] = scs (tSrc bs (at_ + 64) (n + 1)) ∧ (n + 1) + m = vl bs (at_ + 32) 8 ∧ vl bs at_ 32 = rembN ∧ y2 = vl bs (at_ + 40) 6 ∧ y3 = vl bs (at_ + 46) 18 ∧ err0 = 0) ∨ (e9 ≠ 0 ∧ ¬ RateOk bs at_ err0)) := hd (by
            rcases HS.out with ⟨_, z2, z3, z4, z5, z6, z7, z8, z00⟩ | ⟨z1, _⟩
            · by_cases hl : at2 + 32 ≤ 8 * bs.length
              · obtain ⟨q1, q2, q3⟩ := G1 hl
                refine .inl ⟨q3, by omega, by omega, ?_, by omega, z6, z7, z8, z00⟩
                rw [tSrc, scs_snoc, z4, q1, z2]
              · have := S1 (by omega) 0
                rw [hE1] at this
                exact .inr ⟨this, fun hR => by have := hR.2.2.2; omega⟩
            · exact absurd rfl z1)
          clear G1 S1 HS
          have f1_ : IntKind.u32.wrap (x1 : Int) = x1 := IntWalk.u32_in _ (by omega)
          have g7 := hB.cell 7
          have g8 : wr.drew.cell? ⟨q, 7, none⟩ = some (.slice Ao n co) := hB.cell 7
          go_wp2_with (go_at_call 70; refine (rerr_any hT.rd).mono ?_; rintro e_ w6 ⟨rfl, rfl⟩)
          go_region_law (first
            | (go_simp; go_at_call 69; refine (Take_all (rd_drew hT.rd) ((32 : Nat) : Int)).mono ?_; rw [hX, hA1, hE1]; rintro e_ w7 ⟨rfl, hR7, hK7⟩; have hT7 := hT.drewN1.moved hpl hR7 hK7; have hB7 := hB.drew.kp hK7 (Ne.symm hpq); have d5 := hB7.cell 7; have d7 := (hB7.alloc (.cells #[.int .u32 (x1 : Int)] 28)).cell 7; have hO7 := own_kp hT7.own ((Kp.refl (fun _ => True) w7).alloc (.cells #[.int .u32 (x1 : Int)] 28)) (fun _ _ _ => trivial); have hS7 := hT7.kp.size; have hN7 := new_cells w7 28 [.int .u32 (x1 : Int)])
            | (refine step_append_lies (w := w7.alloc (.cells #[.int .u32 (x1 : Int)] 28)) rfl (.tmp 37) (.tmp 41) 44 rfl w.heap.size 28 i0 _ 1 4 Try.underlying44 hi0 hz0 hz1 hz2 rfl (by decide) (.slice Ao n co) n xs rfl hO7 ⟨w7.heap.size, 0, none⟩ 1 1 [.int .u32 (x1 : Int)] rfl rfl hN7 (src_one _) (by decide) (by unfold maxLen; omega) (by omega) (by simp; omega) _ rfl ?_; intro g9 c9 w9 ho9 hg9 hl9 hlt9; have hB9 := (hB7.alloc (.cells #[.int .u32 (x1 : Int)] 28)).grown hg9 (by intro e; have := (hO7.lt _ e.symm).1; omega); have f9 := hB9.frozen 7; have c9_ := hB9.cell 7))
          all_goals
            have hBn := hB9.set 7 (.slice (some ⟨g9, 0, none⟩) (n + 1) c9)
            simp only [List.setIfInBounds_toArray, List.set_cons_zero, List.set_cons_succ] at hBn
            have hTn := hT7.append hpl hpq hvq hvl hql _ hg9 ho9 7 (.slice (some ⟨g9, 0, none⟩) (n + 1) c9)
            clear hB9 f9 c9_ hT7 hB7 hO7 hN7
            go_wp2
            go_roundw
            case rel => exact ⟨m, _, n + 1, a9, e9, _, by go_num, by omega, by omega, hTn, hBn, hNX.out⟩
            case measure => simp [intOf]
        · have hle : (err2 == 0) = false := by rw [beq_eq_false_iff_ne]; exact he
          have HE := hd he
          clear he
          go_wp2_with (go_at_call 70; refine (rerr_any hT.rd).mono ?_; rintro e_ w6 ⟨rfl, rfl⟩)
          go_end0
          refine ⟨rfl, _, _, _, _, _, _, _, hT, hB, ?_, ?_⟩
          · intro hR
            rcases HS.out with ⟨z1, _⟩ | ⟨_, z2⟩
            · exact absurd z1 HE.out
            · exact absurd hR z2
          · intro _
            exact HE.out
      · obtain rfl : m = 0 := by omega
        have hneg : decide ((0 : Int) < ((0 : Nat) : Int)) = false := by decide
        go_wp2
        go_end0
        refine ⟨rfl, _, _, _, _, _, _, _, hT, hB, ?_, ?_⟩
        · intro hR
          rcases HS.out with ⟨z1, z2, z3, z4, z5, z6, z7, z8, z00⟩ | ⟨_, z2⟩
          · have hn : n = vl bs (at_ + 32) 8 := by omega
            rw [← z7, ← z8, ← hn]
            exact ⟨z1, z2, rfl, z4, rfl, rfl⟩
          · exact absurd hR z2
        · intro hR
          rcases HS.out with ⟨z1, z2, z3, z4, z5, z6, z7, z8, z00⟩ | ⟨z1, _⟩
          · exact absurd ⟨z00, by omega, z6, by omega⟩ hR
          · exact z1
end Go.Proofs.Ytjcejgolcdgipaa.K7

namespace Go.Proofs.Ytjcejgolcdgipaa.K7
open Go.RowKit Go.Proofs.YtjcejgolcdgipaaW.PrintWords Go.Proofs.YtjcejgolcdgipaaW.PrintLast Go.Proofs.YtjcejgolcdgipaaW.PrintMore
set_option linter.unusedVariables false

/-- A message, and an error. -/
structure PM where
  sort : Nat
  sd : Nat
  md : Nat
  ps : List (Nat × Nat)
  os : List (Nat × Nat)
  e : Nat
  m : Nat
  ss : List Nat
  err : Nat
def PM.no (err : Nat) : PM := ⟨0, 0, 0, [], [], 0, 0, [], err⟩
/-- What is behind the head, sort by sort. -/
def parse1 (bs : List Nat) : PM := if 8 < bs.length ∧ (bs.length - 8) % 4 = 0 then ⟨1, vl bs 0 32, vl bs 32 32, tPairs bs 64 ((bs.length - 8) / 4), [], 0, 0, [], 0⟩ else PM.no 63
def parse2 (bs : List Nat) : PM := if bs.length = 8 then ⟨2, vl bs 0 32, vl bs 32 32, [], [], 0, 0, [], 0⟩ else PM.no 63
def parse3 (bs : List Nat) : PM := if 8 < bs.length ∧ (bs.length - 8) % 8 = 0 then ⟨3, vl bs 0 32, vl bs 32 32, [], tOrders bs 64 ((bs.length - 8) / 8), 0, 0, [], 0⟩ else PM.no 63
def Rem (bs : List Nat) : Prop := 16 ≤ bs.length ∧ vl bs 64 32 = rembN ∧ bs.length = 16 + 4 * vl bs 96 8
instance (bs : List Nat) : Decidable (Rem bs) := by unfold Rem; exact inferInstance
def parse4 (bs : List Nat) : PM := if Rem bs then ⟨4, vl bs 0 32, vl bs 32 32, [], [], vl bs 104 6, vl bs 110 18, tSrc bs 128 (vl bs 96 8), 0⟩ else PM.no 63
def parseP (kd ct : Nat) (bs : List Nat) : PM :=
  match sortOf kd ct with
  | 1 => parse1 bs
  | 2 => parse2 bs
  | 3 => parse3 bs
  | 4 => parse4 bs
  | _ => PM.no 62
/-- The answer in memory. -/
def PMs (w w' : World) (e : Ending) (P : PM) : Prop :=
  ∃ vp vo vs, e = .returned (.tuple #[.agg #[.int .u8 (P.sort : Int), .int .u32 (P.sd : Int), .int .u32 (P.md : Int), vp, vo, .int .u8 (P.e : Int), .int .u32 (P.m : Int), vs], .int .i64 (P.err : Int)]) ∧
    w'.ownsRow w.heap.size 82 2 vp P.ps.length (pcs P.ps) ∧ w'.ownsRow w.heap.size 134 2 vo P.os.length (ocs P.os) ∧ w'.ownsRow w.heap.size 28 1 vs P.ss.length (scs P.ss) ∧ Kp (fun _ => True) w w'
theorem takeNothing_any (w : World) (p q : Nat) : Calls Try.prog 103 #[.pointer (some ⟨q, 0, none⟩), .pointer (some ⟨p, 0, none⟩)] w fun e_ w' => e_ = .returned (.tuple #[]) ∧ w' = w := by
  go_enter Try.func103, Try.ntmps103
  go_wp2
  go_end0
  exact ⟨rfl, rfl⟩
theorem nPairs_any (w : World) (s sd md e mn : Int) (a4 a7 A : Option Addr) (n4 c4 n7 c7 n c : Nat) :
    Calls Try.prog 101 #[.agg #[.int .u8 s, .int .u32 sd, .int .u32 md, .slice A n c, .slice a4 n4 c4, .int .u8 e, .int .u32 mn, .slice a7 n7 c7]] w fun e_ w' => e_ = .returned (.int .i64 (n : Int)) ∧ Kp (fun _ => True) w w' := by
  go_enter Try.func101, Try.ntmps101
  go_wp2
  go_ret
  exact ⟨rfl, (Kp.refl _ _).alloc _⟩
theorem nOrders_any (w : World) (s sd md e mn : Int) (a4 a7 A : Option Addr) (n4 c4 n7 c7 n c : Nat) :
    Calls Try.prog 107 #[.agg #[.int .u8 s, .int .u32 sd, .int .u32 md, .slice a4 n4 c4, .slice A n c, .int .u8 e, .int .u32 mn, .slice a7 n7 c7]] w fun e_ w' => e_ = .returned (.int .i64 (n : Int)) ∧ Kp (fun _ => True) w w' := by
  go_enter Try.func107, Try.ntmps107
  go_wp2
  go_ret
  exact ⟨rfl, (Kp.refl _ _).alloc _⟩
theorem nOne_any (w : World) (s sd md e mn : Int) (a4 a7 A : Option Addr) (n4 c4 n7 c7 n c : Nat) :
    Calls Try.prog 104 #[.agg #[.int .u8 s, .int .u32 sd, .int .u32 md, .slice A n c, .slice a4 n4 c4, .int .u8 e, .int .u32 mn, .slice a7 n7 c7]] w fun e_ w' => e_ = .returned (.int .i64 1) ∧ Kp (fun _ => True) w w' := by
  go_enter Try.func104, Try.ntmps104
  go_wp2
  go_ret
  exact ⟨rfl, (Kp.refl _ _).alloc _⟩
/-- Eight stores into one block. -/
def st8 (w : World) (g : Nat) (a0 a1 a2 a3 a4 a5 a6 a7 : Value) : World :=
  (((((((w.setCell ⟨g, 0, none⟩ a0).setCell ⟨g, 1, none⟩ a1).setCell ⟨g, 2, none⟩ a2).setCell ⟨g, 3, none⟩ a3).setCell ⟨g, 4, none⟩ a4).setCell ⟨g, 5, none⟩ a5).setCell ⟨g, 6, none⟩ a6).setCell ⟨g, 7, none⟩ a7
theorem st8_kp (w : World) (g : Nat) (a0 a1 a2 a3 a4 a5 a6 a7 : Value) : Kp (· ≠ g) w (st8 w g a0 a1 a2 a3 a4 a5 a6 a7) := by
  unfold st8
  exact (((((((((Kp.refl (· ≠ g) w).set_).set_).set_).set_).set_).set_).set_).set_)
theorem st8_blk {w : World} {g : Nat} {t : TypeId} {b0 b1 b2 b3 b4 b5 b6 b7 : Value} (h : Blk w g t #[b0, b1, b2, b3, b4, b5, b6, b7]) (a0 a1 a2 a3 a4 a5 a6 a7 : Value) : Blk (st8 w g a0 a1 a2 a3 a4 a5 a6 a7) g t #[a0, a1, a2, a3, a4, a5, a6, a7] := by
  have h9 := (((((((h.set 0 a0).set 1 a1).set 2 a2).set 3 a3).set 4 a4).set 5 a5).set 6 a6).set 7 a7
  simp only [List.setIfInBounds_toArray, List.set_cons_zero, List.set_cons_succ] at h9
  exact h9
theorem own_lo {w : World} {b b' : Nat} {e : TypeId} {k n : Nat} {v : Value} {xs : List Value} (h : w.ownsRow b e k v n xs) (hb : b' ≤ b) : w.ownsRow b' e k v n xs := own_weaken h hb
theorem PMs.no_ (w w' : World) (e : Ending) (err : Nat) (he : e = .returned (.tuple #[.agg #[.int .u8 0, .int .u32 0, .int .u32 0, .slice none 0 0, .slice none 0 0, .int .u8 0, .int .u32 0, .slice none 0 0], .int .i64 (err : Int)])) (hk : Kp (fun _ => True) w w') : PMs w w' e (PM.no err) :=
  ⟨.slice none 0 0, .slice none 0 0, .slice none 0 0, he, World.ownsRow_nil _ _ _ _, World.ownsRow_nil _ _ _ _, World.ownsRow_nil _ _ _ _, hk⟩
set_option maxHeartbeats 8000000 in
set_option maxRecDepth 100000 in
theorem parse0_any {w : World} {A : Option Addr} {n c : Nat} {bs : List Nat} (ct kd pd : Nat) (hs : Sl w (.slice A n c) (bv bs)) (hb : Bts bs) (hl : bs.length ≤ 1000000) (hso : sortOf kd ct = 0) :
    Calls Try.prog 25 #[.agg #[.int .u8 (ct : Int), .int .u8 (kd : Int), .slice A n c, .int .u8 (pd : Int)]] w fun e_ w' => PMs w w' e_ (PM.no 62) := by
  obtain ⟨w0, hw0⟩ : ∃ w0, w0 = (w.alloc (.cells #[.int .u8 (ct : Int), .int .u8 (kd : Int), .slice A n c, .int .u8 (pd : Int)] 40)).alloc (.cells #[.int .u8 0, .int .u32 0, .int .u32 0, .slice none 0 0, .slice none 0 0, .int .u8 0, .int .u32 0, .slice none 0 0] 52) := ⟨_, rfl⟩
  have hK0 : Kp (fun _ => True) w w0 := hw0 ▸ ((Kp.refl _ _).alloc _).alloc _
  have P0 : Blk w0 w.heap.size 40 #[.int .u8 (ct : Int), .int .u8 (kd : Int), .slice A n c, .int .u8 (pd : Int)] := hw0 ▸ (Blk.new w _ _).alloc _
  have Z0 : Blk w0 (w.heap.size + 1) 52 #[.int .u8 0, .int .u32 0, .int .u32 0, .slice none 0 0, .slice none 0 0, .int .u8 0, .int .u32 0, .slice none 0 0] := by
    have := Blk.new (w.alloc (.cells #[.int .u8 (ct : Int), .int .u8 (kd : Int), .slice A n c, .int .u8 (pd : Int)] 40)) 52 #[.int .u8 0, .int .u32 0, .int .u32 0, .slice none 0 0, .slice none 0 0, .int .u8 0, .int .u32 0, .slice none 0 0]
    rw [← hw0, World.size_alloc] at this
    exact this
  have cP := P0.cell
  go_enter Try.func25, Try.ntmps25
  go_upto_region 1 with (fail)
  rw [← hw0]
  clear hw0
  go_wp2_with fail
  refine (of_any _ ct kd pd _ ⟨_, _, _, rfl⟩).mono ?_
  rw [hso]
  rintro e_ w1 ⟨rfl, hK1⟩
  have P1 := P0.kp hK1 trivial
  have Z1 := Z0.kp hK1 trivial
  have hKa := hK0.trans hK1
  clear cP P0 Z0 hK0 hK1 hso
  have fZ := Z1.frozen
  have cZ := Z1.cell
  go_wp2
  exact bodyPost_ret (results_ct rfl _ _ (w.heap.size + 1) 52 _ (0, 0) _ rfl (st8_blk Z1 _ _ _ _ _ _ _ _) Try.underlying52 rfl (by kernel_rfl)) rfl
    (PMs.no_ _ _ _ _ rfl (kp_far hKa (st8_kp _ _ _ _ _ _ _ _ _ _) (fun k hk => by omega)))
set_option maxHeartbeats 8000000 in
set_option maxRecDepth 100000 in
theorem parse1_any {w : World} {A : Option Addr} {n c : Nat} {bs : List Nat} (ct kd pd : Nat) (hs : Sl w (.slice A n c) (bv bs)) (hb : Bts bs) (hl : bs.length ≤ 1000000) (hso : sortOf kd ct = 1) :
    Calls Try.prog 25 #[.agg #[.int .u8 (ct : Int), .int .u8 (kd : Int), .slice A n c, .int .u8 (pd : Int)]] w fun e_ w' => PMs w w' e_ (parse1 bs) := by
  obtain ⟨w0, hw0⟩ : ∃ w0, w0 = (w.alloc (.cells #[.int .u8 (ct : Int), .int .u8 (kd : Int), .slice A n c, .int .u8 (pd : Int)] 40)).alloc (.cells #[.int .u8 0, .int .u32 0, .int .u32 0, .slice none 0 0, .slice none 0 0, .int .u8 0, .int .u32 0, .slice none 0 0] 52) := ⟨_, rfl⟩
  have hK0 : Kp (fun _ => True) w w0 := hw0 ▸ ((Kp.refl _ _).alloc _).alloc _
  have P0 : Blk w0 w.heap.size 40 #[.int .u8 (ct : Int), .int .u8 (kd : Int), .slice A n c, .int .u8 (pd : Int)] := hw0 ▸ (Blk.new w _ _).alloc _
  have Z0 : Blk w0 (w.heap.size + 1) 52 #[.int .u8 0, .int .u32 0, .int .u32 0, .slice none 0 0, .slice none 0 0, .int .u8 0, .int .u32 0, .slice none 0 0] := by
    have := Blk.new (w.alloc (.cells #[.int .u8 (ct : Int), .int .u8 (kd : Int), .slice A n c, .int .u8 (pd : Int)] 40)) 52 #[.int .u8 0, .int .u32 0, .int .u32 0, .slice none 0 0, .slice none 0 0, .int .u8 0, .int .u32 0, .slice none 0 0]
    rw [← hw0, World.size_alloc] at this
    exact this
  have cP := P0.cell
  go_enter Try.func25, Try.ntmps25
  go_upto_region 1 with (fail)
  rw [← hw0]
  clear hw0
  go_wp2_with fail
  refine (of_any _ ct kd pd _ ⟨_, _, _, rfl⟩).mono ?_
  rw [hso]
  rintro e_ w1 ⟨rfl, hK1⟩
  have P1 := P0.kp hK1 trivial
  have Z1 := Z0.kp hK1 trivial
  have hKa := hK0.trans hK1
  clear cP P0 Z0 hK0 hK1 hso
  have cP := P1.cell
  have hix := sort_ix1 .u8
  go_wp2_with fail
  refine (sorts_any _).mono ?_
  rintro e_ w2 ⟨rfl, hK2⟩
  have P2 := P1.kp hK2 trivial
  have Z2 := Z1.kp hK2 trivial
  have hKb := hKa.trans hK2
  clear cP P1 Z1 hKa hK2
  obtain ⟨w3, hw3⟩ : ∃ w3, w3 = w2.alloc (.cells #[.int .u8 205, .int .u8 1, .func (Fn.func 99) #[] #[], .func (Fn.func 100) #[] #[], .func (Fn.func 101) #[] #[]] 125) := ⟨_, rfl⟩
  have hK3 : Kp (fun _ => True) w2 w3 := hw3 ▸ (Kp.refl _ _).alloc _
  have T3 : Blk w3 w2.heap.size 125 #[.int .u8 205, .int .u8 1, .func (Fn.func 99) #[] #[], .func (Fn.func 100) #[] #[], .func (Fn.func 101) #[] #[]] := hw3 ▸ Blk.new w2 _ _
  have P3 := P2.kp hK3 trivial
  have Z3 := Z2.kp hK3 trivial
  have hKc := hKb.trans hK3
  have cP := P3.cell
  have hs2 := hKb.size
  have hs3 := hK3.size
  have hz2 := Z2.lt
  have ht3 := T3.lt
  clear P2 Z2 hKb hK3
  go_upto_region 5 with (fail)
  rw [← hw3]
  clear hw3 hix
  go_wp2_with fail
  refine (Of_any (hs.all hKc) hb (by omega)).mono ?_
  rintro e_ w4 ⟨p, v, rfl, hp, hR1, hv, hK4⟩
  have hs4 := hK4.size
  have hpl := hR1.blk.lt
  have T4 := T3.kp hK4 trivial
  have Z4 := Z3.kp hK4 trivial
  have hKd := hKc.trans hK4
  clear cP P3 T3 Z3 hKc hK4
  have hx1 := tVal_lt bs 0 0 32
  have hx2 := tVal_lt bs (tAt bs 0 0 ((32 : Nat) : Int)) (tErr 0 ((32 : Nat) : Int) (8 * bs.length - (0 : Nat))) 32
  have G1 := take_good (bs := bs) (a := 0) (n := 32) (by decide)
  have G2 := take_good (bs := bs) (a := 32) (n := 32) (by decide)
  have S1 := take_short (bs := bs) (a := 0) (n := 32)
  have S2 := take_short (bs := bs) (a := 32) (n := 32)
  generalize hX1 : tVal bs 0 0 ((32 : Nat) : Int) = x1 at *
  generalize hA1 : tAt bs 0 0 ((32 : Nat) : Int) = a1 at *
  generalize hE1 : tErr 0 ((32 : Nat) : Int) (8 * bs.length - (0 : Nat)) = e1 at *
  generalize hX2 : tVal bs a1 e1 ((32 : Nat) : Int) = x2 at *
  generalize hA2 : tAt bs a1 e1 ((32 : Nat) : Int) = a2 at *
  generalize hE2 : tErr e1 ((32 : Nat) : Int) (8 * bs.length - a1) = e2 at *
  have hC : Hd ((8 ≤ bs.length ∧ e2 = 0 ∧ a2 = 64 ∧ x1 = vl bs 0 32 ∧ x2 = vl bs 32 32) ∨ (bs.length < 8 ∧ e2 ≠ 0)) := hd (by
    by_cases h8 : 8 ≤ bs.length
    · obtain ⟨q1, q2, q3⟩ := G1 (by omega)
      have q2' : a1 = 32 := q2
      subst q2' q3
      obtain ⟨q4, q5, q6⟩ := G2 (by omega)
      exact .inl ⟨h8, hE2.symm.trans q6, hA2.symm.trans q5, q1, hX2.symm.trans q4⟩
    · refine .inr ⟨by omega, ?_⟩
      rw [← hE2]
      by_cases h4 : 4 ≤ bs.length
      · obtain ⟨_, q2, q3⟩ := G1 (by omega)
        have q2' : a1 = 32 := q2
        subst q2' q3
        exact S2 (by omega) 0
      · exact take_err (fun h => S1 (by omega) 0 (hE1.trans h)))
  clear G1 G2 S1 S2
  have f1 : IntKind.u32.wrap (x1 : Int) = x1 := IntWalk.u32_in _ (by omega)
  have f2 : IntKind.u32.wrap (x2 : Int) = x2 := IntWalk.u32_in _ (by omega)
  go_wp2_with fail
  refine (Take_all hR1 ((32 : Nat) : Int)).mono ?_
  rw [hX1, hA1, hE1]
  rintro e_ w5 ⟨rfl, hR2, hK5⟩
  go_wp2_with fail
  refine (Take_all hR2 ((32 : Nat) : Int)).mono ?_
  rw [hX2, hA2, hE2]
  rintro e_ w6 ⟨rfl, hR3, hK6⟩
  have hpT : w2.heap.size ≠ p := by omega
  have hpZ : w.heap.size + 1 ≠ p := by omega
  have T6 := (T4.kp hK5 hpT).kp hK6 hpT
  have Z6 := (Z4.kp hK5 hpZ).kp hK6 hpZ
  have hKe : Kp (fun _ => True) w w6 := kp_far (kp_far hKd hK5 (fun k hk => by omega)) hK6 (fun k hk => by omega)
  have hs6 : w4.heap.size ≤ w6.heap.size := Nat.le_trans hK5.size hK6.size
  clear hX1 hA1 hE1 hX2 hA2 hE2 hR1 hR2 hK5 hK6 T4 Z4 hKd
  obtain ⟨w7, hw7⟩ : ∃ w7, w7 = w6.alloc (.cells #[.int .u8 1, .int .u32 (x1 : Int), .int .u32 (x2 : Int), .slice none 0 0, .slice none 0 0, .int .u8 0, .int .u32 0, .slice none 0 0] 52) := ⟨_, rfl⟩
  have hR4 := hw7 ▸ hR3.alloc (.cells #[.int .u8 1, .int .u32 (x1 : Int), .int .u32 (x2 : Int), .slice none 0 0, .slice none 0 0, .int .u8 0, .int .u32 0, .slice none 0 0] 52)
  have hQ5 : Blk w7 w6.heap.size 52 _ := hw7 ▸ Blk.new w6 _ #[.int .u8 1, .int .u32 (x1 : Int), .int .u32 (x2 : Int), .slice none 0 0, .slice none 0 0, .int .u8 0, .int .u32 0, .slice none 0 0]
  have T7 : Blk w7 w2.heap.size 125 _ := hw7 ▸ T6.alloc _
  have Z7 : Blk w7 (w.heap.size + 1) 52 _ := hw7 ▸ Z6.alloc _
  have hKf : Kp (fun _ => True) w w7 := hw7 ▸ hKe.alloc _
  have hpq : p ≠ w6.heap.size := by omega
  have hvq : v.ownBlock ≠ some w6.heap.size := fun e => by have := hR3.vlt _ e; omega
  have cT := T7.cell
  have hs7 : w6.heap.size + 1 = w7.heap.size := by rw [hw7]; simp
  clear hR3 T6 Z6 hKe hv
  go_upto_region 7 with (fail)
  rw [← hw7]
  clear hw7 f1 f2
  have hT1 : e2 = 0 → 8 * bs.length = a2 + 32 * ((bs.length - 8) / 4) + 8 * ((bs.length - 8) % 4) := fun h0 => by
    rcases hC.out with ⟨z1, z2, z3, z4, z5⟩ | ⟨_, z2⟩
    · omega
    · exact absurd h0 z2
  clear hs hb
  go_wp2_with fail
  refine (takePairs_any hR4 hpq hvq _ _ _ _ _ _ _ ⟨_, _, _, rfl⟩ ⟨_, _, _, rfl⟩ hQ5 ((bs.length - 8) / 4) (8 * ((bs.length - 8) % 4)) hT1 (by omega) (by omega)).mono ?_
  rintro e_ w6_ ⟨rfl, at3, e3, vx, nx, xs, hTK, hQ6, hG, hBd⟩
  clear cT
  have hR8 := hTK.rd
  have hO8 := hTK.own
  have hTS := hTK.kp.size
  have T8 := T7.kp hTK.kp ⟨by omega, by omega⟩
  have Z8 := Z7.kp hTK.kp ⟨by omega, by omega⟩
  have hKg : Kp (fun _ => True) w w6_ := kp_far hKf hTK.kp (fun k hk => ⟨by omega, by omega⟩)
  have hle := hR8.le
  clear hR4 hQ5 T7 Z7 hTK
  obtain ⟨Ax, cx, rfl⟩ : ∃ A c, vx = .slice A nx c := by
    obtain ⟨A, c, e⟩ := own_slice hO8
    exact ⟨A, c, e⟩
  have c8 := hQ6.cell
  have fZ := Z8.frozen
  have cZ := Z8.cell
  have cT8 := fun m => (T8.drewN m).cell
  have c8m := fun m => (hQ6.drewN m).cell
  have fZm := fun m => (Z8.drewN m).frozen
  have cZm := fun m => (Z8.drewN m).cell
  have cT0 := T8.cell
  have hF : Hd (e3 = 0 → Good e2 (8 * ((bs.length - 8) % 4))) := hd (fun z => Classical.byContradiction fun hn => hBd hn z)
  have hF3 : Hd (Good e2 (8 * ((bs.length - 8) % 4)) → 8 ≤ bs.length ∧ x1 = vl bs 0 32 ∧ x2 = vl bs 32 32 ∧ a2 = 64) := hd (fun z => by
    rcases hC.out with ⟨y1, y2, y3, y4, y5⟩ | ⟨_, y2⟩
    · exact ⟨y1, y4, y5, y3⟩
    · exact absurd z.e y2)
  have hF4 : Hd (8 ≤ bs.length → (bs.length - 8) % 4 = 0 → Good e2 (8 * ((bs.length - 8) % 4))) := hd (fun z1 z2 => by
    rcases hC.out with ⟨y1, y2, y3, y4, y5⟩ | ⟨y1, _⟩
    · exact ⟨y2, by omega⟩
    · omega)
  by_cases he : e3 = 0
  · have hGd := hF.out he
    obtain ⟨z1, z2, z3, z4⟩ := hG hGd
    obtain ⟨y1, y2, y3, y4⟩ := hF3.out hGd
    have hr0 : (bs.length - 8) % 4 = 0 := by have := hGd.r; omega
    subst y4
    clear z1
    by_cases h0 : nx = 0
    · have HN : Hd (parse1 bs = PM.no 63) := hd (by unfold parse1; rw [if_neg]; rintro ⟨q1, q2⟩; omega)
      clear hGd
      subst he
      have hz : decide ((0 : Int) < 8 * (bs.length : Int) - (at3 : Int)) = false := decide_eq_false (by omega)
      have hz2 : ¬ ((at3 : Int) < 8 * (bs.length : Int)) := by omega
      clear hG hBd hF hF3 hF4 hC
      have Z3 := hd z3
      have Z4 := hd z4
      clear y1 y2 y3 z2 z3 z4 hr0
      go_wp2_with (first | (go_at_call 70; refine (rerr_any hR8).mono ?_; rintro e_ w9 ⟨rfl, rfl⟩) | (go_at_call 71; refine (left_any hR8).mono ?_; rintro e_ w9 ⟨rfl, m9, rfl⟩))
      refine (nPairs_any _ _ _ _ _ _ _ _ _ _ _ _ _ _ _).mono ?_
      rintro e_ w10 ⟨rfl, hK10⟩
      have Z10 := (Z8.drewN m9).kp hK10 trivial
      have hKh : Kp (fun _ => True) w w10 := (hKg.drewN m9).trans hK10
      have f10 := Z10.frozen
      have c10 := Z10.cell
      have q10 := ((hQ6.drewN m9).kp hK10 trivial).cell
      clear c8 fZ cZ cT8
      have hn0 : ((nx : Int) == 0) = true := by rw [beq_iff_eq]; omega
      go_wp2
      exact bodyPost_ret (results_ct rfl _ _ (w.heap.size + 1) 52 _ (0, 0) _ rfl (st8_blk Z10 _ _ _ _ _ _ _ _) Try.underlying52 rfl (by kernel_rfl)) rfl (by rw [HN.out]; exact PMs.no_ _ _ _ _ rfl (kp_far hKh (st8_kp _ _ _ _ _ _ _ _ _ _) (fun k hk => by omega)))
    · have HN : Hd (parse1 bs = ⟨1, x1, x2, tPairs bs 64 ((bs.length - 8) / 4), [], 0, 0, [], 0⟩) := hd (by unfold parse1; rw [if_pos ⟨by omega, hr0⟩, y2, y3])
      have hn0 : ((nx : Int) == 0) = false := by rw [beq_eq_false_iff_ne]; omega
      clear hGd
      subst he
      have hz : decide ((0 : Int) < 8 * (bs.length : Int) - (at3 : Int)) = false := decide_eq_false (by omega)
      have hz2 : ¬ ((at3 : Int) < 8 * (bs.length : Int)) := by omega
      clear hG hBd hF hF3 hF4 hC
      have Z3 := hd z3
      have Z4 := hd z4
      clear y1 y2 y3 z2 z3 z4 hr0
      go_wp2_with (first | (go_at_call 70; refine (rerr_any hR8).mono ?_; rintro e_ w9 ⟨rfl, rfl⟩) | (go_at_call 71; refine (left_any hR8).mono ?_; rintro e_ w9 ⟨rfl, m9, rfl⟩))
      refine (nPairs_any _ _ _ _ _ _ _ _ _ _ _ _ _ _ _).mono ?_
      rintro e_ w10 ⟨rfl, hK10⟩
      have Z10 := (Z8.drewN m9).kp hK10 trivial
      have hKh : Kp (fun _ => True) w w10 := (hKg.drewN m9).trans hK10
      have f10 := Z10.frozen
      have c10 := Z10.cell
      have q10 := ((hQ6.drewN m9).kp hK10 trivial).cell
      clear c8 fZ cZ cT8
      go_wp2
      refine bodyPost_ret (results_ct rfl _ _ (w.heap.size + 1) 52 _ (0, 0) _ rfl (st8_blk Z10 _ _ _ _ _ _ _ _) Try.underlying52 rfl (by kernel_rfl)) rfl ?_
      rw [HN.out]
      refine ⟨_, _, _, rfl, ?_, World.ownsRow_nil _ _ _ _, World.ownsRow_nil _ _ _ _, kp_far hKh (st8_kp _ _ _ _ _ _ _ _ _ _) (fun k hk => by omega)⟩
      have hOw := own_kp (own_kp hO8 ((Kp.refl (fun _ => True) _).drewN m9) (fun _ _ _ => trivial)) hK10 (fun _ _ _ => trivial)
      have hln : (tPairs bs 64 ((bs.length - 8) / 4)).length = nx := by rw [tPairs_length, Z3.out]
      show World.ownsRow _ _ _ _ _ (tPairs bs 64 ((bs.length - 8) / 4)).length (pcs (tPairs bs 64 ((bs.length - 8) / 4)))
      rw [hln, ← Z4.out]
      exact own_lo (own_kp hOw (st8_kp _ _ _ _ _ _ _ _ _ _) (fun g hg _ => by omega)) (by omega)
  · have HN : Hd (parse1 bs = PM.no 63) := hd (by unfold parse1; rw [if_neg]; rintro ⟨q1, q2⟩; exact he (hG (hF4.out (by omega) q2)).1)
    have hq : (e3 != 0) = true := by rw [bne_iff_ne]; exact he
    clear he
    clear hG hBd hF hF3 hF4 hC
    go_wp2_with (first | (go_at_call 70; refine (rerr_any hR8).mono ?_; rintro e_ w9 ⟨rfl, rfl⟩) | (go_at_call 71; refine (left_any hR8).mono ?_; rintro e_ w9 ⟨rfl, m9, rfl⟩))
    exact bodyPost_ret (results_ct rfl _ _ (w.heap.size + 1) 52 _ (0, 0) _ rfl (st8_blk Z8 _ _ _ _ _ _ _ _) Try.underlying52 rfl (by kernel_rfl)) rfl (by rw [HN.out]; exact PMs.no_ _ _ _ _ rfl (kp_far hKg (st8_kp _ _ _ _ _ _ _ _ _ _) (fun k hk => by omega)))
set_option maxHeartbeats 8000000 in
set_option maxRecDepth 100000 in
theorem parse2_any {w : World} {A : Option Addr} {n c : Nat} {bs : List Nat} (ct kd pd : Nat) (hs : Sl w (.slice A n c) (bv bs)) (hb : Bts bs) (hl : bs.length ≤ 1000000) (hso : sortOf kd ct = 2) :
    Calls Try.prog 25 #[.agg #[.int .u8 (ct : Int), .int .u8 (kd : Int), .slice A n c, .int .u8 (pd : Int)]] w fun e_ w' => PMs w w' e_ (parse2 bs) := by
  obtain ⟨w0, hw0⟩ : ∃ w0, w0 = (w.alloc (.cells #[.int .u8 (ct : Int), .int .u8 (kd : Int), .slice A n c, .int .u8 (pd : Int)] 40)).alloc (.cells #[.int .u8 0, .int .u32 0, .int .u32 0, .slice none 0 0, .slice none 0 0, .int .u8 0, .int .u32 0, .slice none 0 0] 52) := ⟨_, rfl⟩
  have hK0 : Kp (fun _ => True) w w0 := hw0 ▸ ((Kp.refl _ _).alloc _).alloc _
  have P0 : Blk w0 w.heap.size 40 #[.int .u8 (ct : Int), .int .u8 (kd : Int), .slice A n c, .int .u8 (pd : Int)] := hw0 ▸ (Blk.new w _ _).alloc _
  have Z0 : Blk w0 (w.heap.size + 1) 52 #[.int .u8 0, .int .u32 0, .int .u32 0, .slice none 0 0, .slice none 0 0, .int .u8 0, .int .u32 0, .slice none 0 0] := by
    have := Blk.new (w.alloc (.cells #[.int .u8 (ct : Int), .int .u8 (kd : Int), .slice A n c, .int .u8 (pd : Int)] 40)) 52 #[.int .u8 0, .int .u32 0, .int .u32 0, .slice none 0 0, .slice none 0 0, .int .u8 0, .int .u32 0, .slice none 0 0]
    rw [← hw0, World.size_alloc] at this
    exact this
  have cP := P0.cell
  go_enter Try.func25, Try.ntmps25
  go_upto_region 1 with (fail)
  rw [← hw0]
  clear hw0
  go_wp2_with fail
  refine (of_any _ ct kd pd _ ⟨_, _, _, rfl⟩).mono ?_
  rw [hso]
  rintro e_ w1 ⟨rfl, hK1⟩
  have P1 := P0.kp hK1 trivial
  have Z1 := Z0.kp hK1 trivial
  have hKa := hK0.trans hK1
  clear cP P0 Z0 hK0 hK1 hso
  have cP := P1.cell
  have hix := sort_ix2 .u8
  go_wp2_with fail
  refine (sorts_any _).mono ?_
  rintro e_ w2 ⟨rfl, hK2⟩
  have P2 := P1.kp hK2 trivial
  have Z2 := Z1.kp hK2 trivial
  have hKb := hKa.trans hK2
  clear cP P1 Z1 hKa hK2
  obtain ⟨w3, hw3⟩ : ∃ w3, w3 = w2.alloc (.cells #[.int .u8 206, .int .u8 1, .func (Fn.func 102) #[] #[], .func (Fn.func 103) #[] #[], .func (Fn.func 104) #[] #[]] 125) := ⟨_, rfl⟩
  have hK3 : Kp (fun _ => True) w2 w3 := hw3 ▸ (Kp.refl _ _).alloc _
  have T3 : Blk w3 w2.heap.size 125 #[.int .u8 206, .int .u8 1, .func (Fn.func 102) #[] #[], .func (Fn.func 103) #[] #[], .func (Fn.func 104) #[] #[]] := hw3 ▸ Blk.new w2 _ _
  have P3 := P2.kp hK3 trivial
  have Z3 := Z2.kp hK3 trivial
  have hKc := hKb.trans hK3
  have cP := P3.cell
  have hs2 := hKb.size
  have hs3 := hK3.size
  have hz2 := Z2.lt
  have ht3 := T3.lt
  clear P2 Z2 hKb hK3
  go_upto_region 5 with (fail)
  rw [← hw3]
  clear hw3 hix
  go_wp2_with fail
  refine (Of_any (hs.all hKc) hb (by omega)).mono ?_
  rintro e_ w4 ⟨p, v, rfl, hp, hR1, hv, hK4⟩
  have hs4 := hK4.size
  have hpl := hR1.blk.lt
  have T4 := T3.kp hK4 trivial
  have Z4 := Z3.kp hK4 trivial
  have hKd := hKc.trans hK4
  clear cP P3 T3 Z3 hKc hK4
  have hx1 := tVal_lt bs 0 0 32
  have hx2 := tVal_lt bs (tAt bs 0 0 ((32 : Nat) : Int)) (tErr 0 ((32 : Nat) : Int) (8 * bs.length - (0 : Nat))) 32
  have G1 := take_good (bs := bs) (a := 0) (n := 32) (by decide)
  have G2 := take_good (bs := bs) (a := 32) (n := 32) (by decide)
  have S1 := take_short (bs := bs) (a := 0) (n := 32)
  have S2 := take_short (bs := bs) (a := 32) (n := 32)
  generalize hX1 : tVal bs 0 0 ((32 : Nat) : Int) = x1 at *
  generalize hA1 : tAt bs 0 0 ((32 : Nat) : Int) = a1 at *
  generalize hE1 : tErr 0 ((32 : Nat) : Int) (8 * bs.length - (0 : Nat)) = e1 at *
  generalize hX2 : tVal bs a1 e1 ((32 : Nat) : Int) = x2 at *
  generalize hA2 : tAt bs a1 e1 ((32 : Nat) : Int) = a2 at *
  generalize hE2 : tErr e1 ((32 : Nat) : Int) (8 * bs.length - a1) = e2 at *
  have hC : Hd ((8 ≤ bs.length ∧ e2 = 0 ∧ a2 = 64 ∧ x1 = vl bs 0 32 ∧ x2 = vl bs 32 32) ∨ (bs.length < 8 ∧ e2 ≠ 0)) := hd (by
    by_cases h8 : 8 ≤ bs.length
    · obtain ⟨q1, q2, q3⟩ := G1 (by omega)
      have q2' : a1 = 32 := q2
      subst q2' q3
      obtain ⟨q4, q5, q6⟩ := G2 (by omega)
      exact .inl ⟨h8, hE2.symm.trans q6, hA2.symm.trans q5, q1, hX2.symm.trans q4⟩
    · refine .inr ⟨by omega, ?_⟩
      rw [← hE2]
      by_cases h4 : 4 ≤ bs.length
      · obtain ⟨_, q2, q3⟩ := G1 (by omega)
        have q2' : a1 = 32 := q2
        subst q2' q3
        exact S2 (by omega) 0
      · exact take_err (fun h => S1 (by omega) 0 (hE1.trans h)))
  clear G1 G2 S1 S2
  have f1 : IntKind.u32.wrap (x1 : Int) = x1 := IntWalk.u32_in _ (by omega)
  have f2 : IntKind.u32.wrap (x2 : Int) = x2 := IntWalk.u32_in _ (by omega)
  go_wp2_with fail
  refine (Take_all hR1 ((32 : Nat) : Int)).mono ?_
  rw [hX1, hA1, hE1]
  rintro e_ w5 ⟨rfl, hR2, hK5⟩
  go_wp2_with fail
  refine (Take_all hR2 ((32 : Nat) : Int)).mono ?_
  rw [hX2, hA2, hE2]
  rintro e_ w6 ⟨rfl, hR3, hK6⟩
  have hpT : w2.heap.size ≠ p := by omega
  have hpZ : w.heap.size + 1 ≠ p := by omega
  have T6 := (T4.kp hK5 hpT).kp hK6 hpT
  have Z6 := (Z4.kp hK5 hpZ).kp hK6 hpZ
  have hKe : Kp (fun _ => True) w w6 := kp_far (kp_far hKd hK5 (fun k hk => by omega)) hK6 (fun k hk => by omega)
  have hs6 : w4.heap.size ≤ w6.heap.size := Nat.le_trans hK5.size hK6.size
  clear hX1 hA1 hE1 hX2 hA2 hE2 hR1 hR2 hK5 hK6 T4 Z4 hKd
  obtain ⟨w7, hw7⟩ : ∃ w7, w7 = w6.alloc (.cells #[.int .u8 2, .int .u32 (x1 : Int), .int .u32 (x2 : Int), .slice none 0 0, .slice none 0 0, .int .u8 0, .int .u32 0, .slice none 0 0] 52) := ⟨_, rfl⟩
  have hR4 := hw7 ▸ hR3.alloc (.cells #[.int .u8 2, .int .u32 (x1 : Int), .int .u32 (x2 : Int), .slice none 0 0, .slice none 0 0, .int .u8 0, .int .u32 0, .slice none 0 0] 52)
  have hQ5 : Blk w7 w6.heap.size 52 _ := hw7 ▸ Blk.new w6 _ #[.int .u8 2, .int .u32 (x1 : Int), .int .u32 (x2 : Int), .slice none 0 0, .slice none 0 0, .int .u8 0, .int .u32 0, .slice none 0 0]
  have T7 : Blk w7 w2.heap.size 125 _ := hw7 ▸ T6.alloc _
  have Z7 : Blk w7 (w.heap.size + 1) 52 _ := hw7 ▸ Z6.alloc _
  have hKf : Kp (fun _ => True) w w7 := hw7 ▸ hKe.alloc _
  have hpq : p ≠ w6.heap.size := by omega
  have hvq : v.ownBlock ≠ some w6.heap.size := fun e => by have := hR3.vlt _ e; omega
  have cT := T7.cell
  have hs7 : w6.heap.size + 1 = w7.heap.size := by rw [hw7]; simp
  clear hR3 T6 Z6 hKe hv
  go_upto_region 7 with (fail)
  rw [← hw7]
  clear hw7 f1 f2
  obtain ⟨at3, h3⟩ : ∃ x, x = a2 := ⟨_, rfl⟩
  obtain ⟨e3, h3e⟩ : ∃ x, x = e2 := ⟨_, rfl⟩
  rw [← h3, ← h3e] at hR4
  have hF : Hd (e3 = 0 → 8 * bs.length = at3 → bs.length = 8 ∧ e2 = 0) := hd (fun z1 z2 => by
    rcases hC.out with ⟨y1, y2, y3, y4, y5⟩ | ⟨_, y2⟩
    · exact ⟨by omega, y2⟩
    · exact absurd (h3e.symm.trans z1) y2)
  have hF2 : Hd (bs.length = 8 → e3 = 0 ∧ 8 * bs.length = at3) := hd (fun z => by
    rcases hC.out with ⟨y1, y2, y3, y4, y5⟩ | ⟨y1, y2⟩
    · exact ⟨h3e.trans y2, by omega⟩
    · omega)
  clear h3 h3e
  have hQ6 := hQ5
  have T8 := T7
  have Z8 := Z7
  have hKg := hKf
  clear hs hb
  go_wp2_with fail
  refine (takeNothing_any _ _ _).mono ?_
  rintro e_ w8_ ⟨rfl, rfl⟩
  have hR8 := hR4
  have hle := hR8.le
  have c8 := hQ6.cell
  have fZ := Z8.frozen
  have cZ := Z8.cell
  have cT8 := fun m => (T8.drewN m).cell
  have c8m := fun m => (hQ6.drewN m).cell
  have fZm := fun m => (Z8.drewN m).frozen
  have cZm := fun m => (Z8.drewN m).cell
  have cT0 := T8.cell
  by_cases he : e3 = 0
  · by_cases hl8 : at3 = 8 * bs.length
    · have hlen := hF.out he hl8.symm
      have HX : Hd (x1 = vl bs 0 32 ∧ x2 = vl bs 32 32) := hd (by
        rcases hC.out with ⟨y1, y2, y3, y4, y5⟩ | ⟨_, y2⟩
        · exact ⟨y4, y5⟩
        · exact absurd hlen.2 y2)
      have HN : Hd (parse2 bs = ⟨2, x1, x2, [], [], 0, 0, [], 0⟩) := hd (by unfold parse2; rw [if_pos hlen.1, HX.out.1, HX.out.2])
      clear hlen
      subst he
      have hz : decide ((0 : Int) < 8 * (bs.length : Int) - (at3 : Int)) = false := decide_eq_false (by omega)
      have hz2 : ¬ ((at3 : Int) < 8 * (bs.length : Int)) := by omega
      clear hF hF2 hC
      clear HX hl8
      go_wp2_with (first | (go_at_call 70; refine (rerr_any hR8).mono ?_; rintro e_ w9 ⟨rfl, rfl⟩) | (go_at_call 71; refine (left_any hR8).mono ?_; rintro e_ w9 ⟨rfl, m9, rfl⟩))
      refine (nOne_any _ _ _ _ _ _ _ _ _ _ _ _ _ _ _).mono ?_
      rintro e_ w10 ⟨rfl, hK10⟩
      have Z10 := (Z8.drewN m9).kp hK10 trivial
      have hKh : Kp (fun _ => True) w w10 := (hKg.drewN m9).trans hK10
      have f10 := Z10.frozen
      have c10 := Z10.cell
      have q10 := ((hQ6.drewN m9).kp hK10 trivial).cell
      clear c8 fZ cZ cT8
      go_wp2
      refine bodyPost_ret (results_ct rfl _ _ (w.heap.size + 1) 52 _ (0, 0) _ rfl (st8_blk Z10 _ _ _ _ _ _ _ _) Try.underlying52 rfl (by kernel_rfl)) rfl ?_
      rw [HN.out]
      refine ⟨_, _, _, rfl, World.ownsRow_nil _ _ _ _, World.ownsRow_nil _ _ _ _, World.ownsRow_nil _ _ _ _, kp_far hKh (st8_kp _ _ _ _ _ _ _ _ _ _) (fun k hk => by omega)⟩
    · have HN : Hd (parse2 bs = PM.no 63) := hd (by unfold parse2; rw [if_neg]; intro q1; exact hl8 (hF2.out q1).2.symm)
      subst he
      have hz : decide ((0 : Int) < 8 * (bs.length : Int) - (at3 : Int)) = true := decide_eq_true (by omega)
      have hz2 : (at3 : Int) < 8 * (bs.length : Int) := by omega
      clear hF hF2 hC
      go_wp2_with (first | (go_at_call 70; refine (rerr_any hR8).mono ?_; rintro e_ w9 ⟨rfl, rfl⟩) | (go_at_call 71; refine (left_any hR8).mono ?_; rintro e_ w9 ⟨rfl, m9, rfl⟩))
      exact bodyPost_ret (results_ct rfl _ _ (w.heap.size + 1) 52 _ (0, 0) _ rfl (st8_blk (Z8.drewN m9) _ _ _ _ _ _ _ _) Try.underlying52 rfl (by kernel_rfl)) rfl (by rw [HN.out]; exact PMs.no_ _ _ _ _ rfl (kp_far (hKg.drewN m9) (st8_kp _ _ _ _ _ _ _ _ _ _) (fun k hk => by omega)))
  · have HN : Hd (parse2 bs = PM.no 63) := hd (by unfold parse2; rw [if_neg]; intro q1; exact he (hF2.out q1).1)
    have hq : (e3 != 0) = true := by rw [bne_iff_ne]; exact he
    clear he
    clear hF hF2 hC
    go_wp2_with (first | (go_at_call 70; refine (rerr_any hR8).mono ?_; rintro e_ w9 ⟨rfl, rfl⟩) | (go_at_call 71; refine (left_any hR8).mono ?_; rintro e_ w9 ⟨rfl, m9, rfl⟩))
    exact bodyPost_ret (results_ct rfl _ _ (w.heap.size + 1) 52 _ (0, 0) _ rfl (st8_blk Z8 _ _ _ _ _ _ _ _) Try.underlying52 rfl (by kernel_rfl)) rfl (by rw [HN.out]; exact PMs.no_ _ _ _ _ rfl (kp_far hKg (st8_kp _ _ _ _ _ _ _ _ _ _) (fun k hk => by omega)))
set_option maxHeartbeats 8000000 in
set_option maxRecDepth 100000 in
theorem parse3_any {w : World} {A : Option Addr} {n c : Nat} {bs : List Nat} (ct kd pd : Nat) (hs : Sl w (.slice A n c) (bv bs)) (hb : Bts bs) (hl : bs.length ≤ 1000000) (hso : sortOf kd ct = 3) :
    Calls Try.prog 25 #[.agg #[.int .u8 (ct : Int), .int .u8 (kd : Int), .slice A n c, .int .u8 (pd : Int)]] w fun e_ w' => PMs w w' e_ (parse3 bs) := by
  obtain ⟨w0, hw0⟩ : ∃ w0, w0 = (w.alloc (.cells #[.int .u8 (ct : Int), .int .u8 (kd : Int), .slice A n c, .int .u8 (pd : Int)] 40)).alloc (.cells #[.int .u8 0, .int .u32 0, .int .u32 0, .slice none 0 0, .slice none 0 0, .int .u8 0, .int .u32 0, .slice none 0 0] 52) := ⟨_, rfl⟩
  have hK0 : Kp (fun _ => True) w w0 := hw0 ▸ ((Kp.refl _ _).alloc _).alloc _
  have P0 : Blk w0 w.heap.size 40 #[.int .u8 (ct : Int), .int .u8 (kd : Int), .slice A n c, .int .u8 (pd : Int)] := hw0 ▸ (Blk.new w _ _).alloc _
  have Z0 : Blk w0 (w.heap.size + 1) 52 #[.int .u8 0, .int .u32 0, .int .u32 0, .slice none 0 0, .slice none 0 0, .int .u8 0, .int .u32 0, .slice none 0 0] := by
    have := Blk.new (w.alloc (.cells #[.int .u8 (ct : Int), .int .u8 (kd : Int), .slice A n c, .int .u8 (pd : Int)] 40)) 52 #[.int .u8 0, .int .u32 0, .int .u32 0, .slice none 0 0, .slice none 0 0, .int .u8 0, .int .u32 0, .slice none 0 0]
    rw [← hw0, World.size_alloc] at this
    exact this
  have cP := P0.cell
  go_enter Try.func25, Try.ntmps25
  go_upto_region 1 with (fail)
  rw [← hw0]
  clear hw0
  go_wp2_with fail
  refine (of_any _ ct kd pd _ ⟨_, _, _, rfl⟩).mono ?_
  rw [hso]
  rintro e_ w1 ⟨rfl, hK1⟩
  have P1 := P0.kp hK1 trivial
  have Z1 := Z0.kp hK1 trivial
  have hKa := hK0.trans hK1
  clear cP P0 Z0 hK0 hK1 hso
  have cP := P1.cell
  have hix := sort_ix3 .u8
  go_wp2_with fail
  refine (sorts_any _).mono ?_
  rintro e_ w2 ⟨rfl, hK2⟩
  have P2 := P1.kp hK2 trivial
  have Z2 := Z1.kp hK2 trivial
  have hKb := hKa.trans hK2
  clear cP P1 Z1 hKa hK2
  obtain ⟨w3, hw3⟩ : ∃ w3, w3 = w2.alloc (.cells #[.int .u8 206, .int .u8 4, .func (Fn.func 105) #[] #[], .func (Fn.func 106) #[] #[], .func (Fn.func 107) #[] #[]] 125) := ⟨_, rfl⟩
  have hK3 : Kp (fun _ => True) w2 w3 := hw3 ▸ (Kp.refl _ _).alloc _
  have T3 : Blk w3 w2.heap.size 125 #[.int .u8 206, .int .u8 4, .func (Fn.func 105) #[] #[], .func (Fn.func 106) #[] #[], .func (Fn.func 107) #[] #[]] := hw3 ▸ Blk.new w2 _ _
  have P3 := P2.kp hK3 trivial
  have Z3 := Z2.kp hK3 trivial
  have hKc := hKb.trans hK3
  have cP := P3.cell
  have hs2 := hKb.size
  have hs3 := hK3.size
  have hz2 := Z2.lt
  have ht3 := T3.lt
  clear P2 Z2 hKb hK3
  go_upto_region 5 with (fail)
  rw [← hw3]
  clear hw3 hix
  go_wp2_with fail
  refine (Of_any (hs.all hKc) hb (by omega)).mono ?_
  rintro e_ w4 ⟨p, v, rfl, hp, hR1, hv, hK4⟩
  have hs4 := hK4.size
  have hpl := hR1.blk.lt
  have T4 := T3.kp hK4 trivial
  have Z4 := Z3.kp hK4 trivial
  have hKd := hKc.trans hK4
  clear cP P3 T3 Z3 hKc hK4
  have hx1 := tVal_lt bs 0 0 32
  have hx2 := tVal_lt bs (tAt bs 0 0 ((32 : Nat) : Int)) (tErr 0 ((32 : Nat) : Int) (8 * bs.length - (0 : Nat))) 32
  have G1 := take_good (bs := bs) (a := 0) (n := 32) (by decide)
  have G2 := take_good (bs := bs) (a := 32) (n := 32) (by decide)
  have S1 := take_short (bs := bs) (a := 0) (n := 32)
  have S2 := take_short (bs := bs) (a := 32) (n := 32)
  generalize hX1 : tVal bs 0 0 ((32 : Nat) : Int) = x1 at *
  generalize hA1 : tAt bs 0 0 ((32 : Nat) : Int) = a1 at *
  generalize hE1 : tErr 0 ((32 : Nat) : Int) (8 * bs.length - (0 : Nat)) = e1 at *
  generalize hX2 : tVal bs a1 e1 ((32 : Nat) : Int) = x2 at *
  generalize hA2 : tAt bs a1 e1 ((32 : Nat) : Int) = a2 at *
  generalize hE2 : tErr e1 ((32 : Nat) : Int) (8 * bs.length - a1) = e2 at *
  have hC : Hd ((8 ≤ bs.length ∧ e2 = 0 ∧ a2 = 64 ∧ x1 = vl bs 0 32 ∧ x2 = vl bs 32 32) ∨ (bs.length < 8 ∧ e2 ≠ 0)) := hd (by
    by_cases h8 : 8 ≤ bs.length
    · obtain ⟨q1, q2, q3⟩ := G1 (by omega)
      have q2' : a1 = 32 := q2
      subst q2' q3
      obtain ⟨q4, q5, q6⟩ := G2 (by omega)
      exact .inl ⟨h8, hE2.symm.trans q6, hA2.symm.trans q5, q1, hX2.symm.trans q4⟩
    · refine .inr ⟨by omega, ?_⟩
      rw [← hE2]
      by_cases h4 : 4 ≤ bs.length
      · obtain ⟨_, q2, q3⟩ := G1 (by omega)
        have q2' : a1 = 32 := q2
        subst q2' q3
        exact S2 (by omega) 0
      · exact take_err (fun h => S1 (by omega) 0 (hE1.trans h)))
  clear G1 G2 S1 S2
  have f1 : IntKind.u32.wrap (x1 : Int) = x1 := IntWalk.u32_in _ (by omega)
  have f2 : IntKind.u32.wrap (x2 : Int) = x2 := IntWalk.u32_in _ (by omega)
  go_wp2_with fail
  refine (Take_all hR1 ((32 : Nat) : Int)).mono ?_
  rw [hX1, hA1, hE1]
  rintro e_ w5 ⟨rfl, hR2, hK5⟩
  go_wp2_with fail
  refine (Take_all hR2 ((32 : Nat) : Int)).mono ?_
  rw [hX2, hA2, hE2]
  rintro e_ w6 ⟨rfl, hR3, hK6⟩
  have hpT : w2.heap.size ≠ p := by omega
  have hpZ : w.heap.size + 1 ≠ p := by omega
  have T6 := (T4.kp hK5 hpT).kp hK6 hpT
  have Z6 := (Z4.kp hK5 hpZ).kp hK6 hpZ
  have hKe : Kp (fun _ => True) w w6 := kp_far (kp_far hKd hK5 (fun k hk => by omega)) hK6 (fun k hk => by omega)
  have hs6 : w4.heap.size ≤ w6.heap.size := Nat.le_trans hK5.size hK6.size
  clear hX1 hA1 hE1 hX2 hA2 hE2 hR1 hR2 hK5 hK6 T4 Z4 hKd
  obtain ⟨w7, hw7⟩ : ∃ w7, w7 = w6.alloc (.cells #[.int .u8 3, .int .u32 (x1 : Int), .int .u32 (x2 : Int), .slice none 0 0, .slice none 0 0, .int .u8 0, .int .u32 0, .slice none 0 0] 52) := ⟨_, rfl⟩
  have hR4 := hw7 ▸ hR3.alloc (.cells #[.int .u8 3, .int .u32 (x1 : Int), .int .u32 (x2 : Int), .slice none 0 0, .slice none 0 0, .int .u8 0, .int .u32 0, .slice none 0 0] 52)
  have hQ5 : Blk w7 w6.heap.size 52 _ := hw7 ▸ Blk.new w6 _ #[.int .u8 3, .int .u32 (x1 : Int), .int .u32 (x2 : Int), .slice none 0 0, .slice none 0 0, .int .u8 0, .int .u32 0, .slice none 0 0]
  have T7 : Blk w7 w2.heap.size 125 _ := hw7 ▸ T6.alloc _
  have Z7 : Blk w7 (w.heap.size + 1) 52 _ := hw7 ▸ Z6.alloc _
  have hKf : Kp (fun _ => True) w w7 := hw7 ▸ hKe.alloc _
  have hpq : p ≠ w6.heap.size := by omega
  have hvq : v.ownBlock ≠ some w6.heap.size := fun e => by have := hR3.vlt _ e; omega
  have cT := T7.cell
  have hs7 : w6.heap.size + 1 = w7.heap.size := by rw [hw7]; simp
  clear hR3 T6 Z6 hKe hv
  go_upto_region 7 with (fail)
  rw [← hw7]
  clear hw7 f1 f2
  have hT1 : e2 = 0 → 8 * bs.length = a2 + 64 * ((bs.length - 8) / 8) + 8 * ((bs.length - 8) % 8) := fun h0 => by
    rcases hC.out with ⟨z1, z2, z3, z4, z5⟩ | ⟨_, z2⟩
    · omega
    · exact absurd h0 z2
  clear hs hb
  go_wp2_with fail
  refine (takeOrders_any hR4 hpq hvq _ _ _ _ _ _ _ ⟨_, _, _, rfl⟩ ⟨_, _, _, rfl⟩ hQ5 ((bs.length - 8) / 8) (8 * ((bs.length - 8) % 8)) hT1 (by omega) (by omega)).mono ?_
  rintro e_ w6_ ⟨rfl, at3, e3, vx, nx, xs, hTK, hQ6, hG, hBd⟩
  clear cT
  have hR8 := hTK.rd
  have hO8 := hTK.own
  have hTS := hTK.kp.size
  have T8 := T7.kp hTK.kp ⟨by omega, by omega⟩
  have Z8 := Z7.kp hTK.kp ⟨by omega, by omega⟩
  have hKg : Kp (fun _ => True) w w6_ := kp_far hKf hTK.kp (fun k hk => ⟨by omega, by omega⟩)
  have hle := hR8.le
  clear hR4 hQ5 T7 Z7 hTK
  obtain ⟨Ax, cx, rfl⟩ : ∃ A c, vx = .slice A nx c := by
    obtain ⟨A, c, e⟩ := own_slice hO8
    exact ⟨A, c, e⟩
  have c8 := hQ6.cell
  have fZ := Z8.frozen
  have cZ := Z8.cell
  have cT8 := fun m => (T8.drewN m).cell
  have c8m := fun m => (hQ6.drewN m).cell
  have fZm := fun m => (Z8.drewN m).frozen
  have cZm := fun m => (Z8.drewN m).cell
  have cT0 := T8.cell
  have hF : Hd (e3 = 0 → Good e2 (8 * ((bs.length - 8) % 8))) := hd (fun z => Classical.byContradiction fun hn => hBd hn z)
  have hF3 : Hd (Good e2 (8 * ((bs.length - 8) % 8)) → 8 ≤ bs.length ∧ x1 = vl bs 0 32 ∧ x2 = vl bs 32 32 ∧ a2 = 64) := hd (fun z => by
    rcases hC.out with ⟨y1, y2, y3, y4, y5⟩ | ⟨_, y2⟩
    · exact ⟨y1, y4, y5, y3⟩
    · exact absurd z.e y2)
  have hF4 : Hd (8 ≤ bs.length → (bs.length - 8) % 8 = 0 → Good e2 (8 * ((bs.length - 8) % 8))) := hd (fun z1 z2 => by
    rcases hC.out with ⟨y1, y2, y3, y4, y5⟩ | ⟨y1, _⟩
    · exact ⟨y2, by omega⟩
    · omega)
  by_cases he : e3 = 0
  · have hGd := hF.out he
    obtain ⟨z1, z2, z3, z4⟩ := hG hGd
    obtain ⟨y1, y2, y3, y4⟩ := hF3.out hGd
    have hr0 : (bs.length - 8) % 8 = 0 := by have := hGd.r; omega
    subst y4
    clear z1
    by_cases h0 : nx = 0
    · have HN : Hd (parse3 bs = PM.no 63) := hd (by unfold parse3; rw [if_neg]; rintro ⟨q1, q2⟩; omega)
      clear hGd
      subst he
      have hz : decide ((0 : Int) < 8 * (bs.length : Int) - (at3 : Int)) = false := decide_eq_false (by omega)
      have hz2 : ¬ ((at3 : Int) < 8 * (bs.length : Int)) := by omega
      clear hG hBd hF hF3 hF4 hC
      have Z3 := hd z3
      have Z4 := hd z4
      clear y1 y2 y3 z2 z3 z4 hr0
      go_wp2_with (first | (go_at_call 70; refine (rerr_any hR8).mono ?_; rintro e_ w9 ⟨rfl, rfl⟩) | (go_at_call 71; refine (left_any hR8).mono ?_; rintro e_ w9 ⟨rfl, m9, rfl⟩))
      refine (nOrders_any _ _ _ _ _ _ _ _ _ _ _ _ _ _ _).mono ?_
      rintro e_ w10 ⟨rfl, hK10⟩
      have Z10 := (Z8.drewN m9).kp hK10 trivial
      have hKh : Kp (fun _ => True) w w10 := (hKg.drewN m9).trans hK10
      have f10 := Z10.frozen
      have c10 := Z10.cell
      have q10 := ((hQ6.drewN m9).kp hK10 trivial).cell
      clear c8 fZ cZ cT8
      have hn0 : ((nx : Int) == 0) = true := by rw [beq_iff_eq]; omega
      go_wp2
      exact bodyPost_ret (results_ct rfl _ _ (w.heap.size + 1) 52 _ (0, 0) _ rfl (st8_blk Z10 _ _ _ _ _ _ _ _) Try.underlying52 rfl (by kernel_rfl)) rfl (by rw [HN.out]; exact PMs.no_ _ _ _ _ rfl (kp_far hKh (st8_kp _ _ _ _ _ _ _ _ _ _) (fun k hk => by omega)))
    · have HN : Hd (parse3 bs = ⟨3, x1, x2, [], tOrders bs 64 ((bs.length - 8) / 8), 0, 0, [], 0⟩) := hd (by unfold parse3; rw [if_pos ⟨by omega, hr0⟩, y2, y3])
      have hn0 : ((nx : Int) == 0) = false := by rw [beq_eq_false_iff_ne]; omega
      clear hGd
      subst he
      have hz : decide ((0 : Int) < 8 * (bs.length : Int) - (at3 : Int)) = false := decide_eq_false (by omega)
      have hz2 : ¬ ((at3 : Int) < 8 * (bs.length : Int)) := by omega
      clear hG hBd hF hF3 hF4 hC
      have Z3 := hd z3
      have Z4 := hd z4
      clear y1 y2 y3 z2 z3 z4 hr0
      go_wp2_with (first | (go_at_call 70; refine (rerr_any hR8).mono ?_; rintro e_ w9 ⟨rfl, rfl⟩) | (go_at_call 71; refine (left_any hR8).mono ?_; rintro e_ w9 ⟨rfl, m9, rfl⟩))
      refine (nOrders_any _ _ _ _ _ _ _ _ _ _ _ _ _ _ _).mono ?_
      rintro e_ w10 ⟨rfl, hK10⟩
      have Z10 := (Z8.drewN m9).kp hK10 trivial
      have hKh : Kp (fun _ => True) w w10 := (hKg.drewN m9).trans hK10
      have f10 := Z10.frozen
      have c10 := Z10.cell
      have q10 := ((hQ6.drewN m9).kp hK10 trivial).cell
      clear c8 fZ cZ cT8
      go_wp2
      refine bodyPost_ret (results_ct rfl _ _ (w.heap.size + 1) 52 _ (0, 0) _ rfl (st8_blk Z10 _ _ _ _ _ _ _ _) Try.underlying52 rfl (by kernel_rfl)) rfl ?_
      rw [HN.out]
      refine ⟨_, _, _, rfl, World.ownsRow_nil _ _ _ _, ?_, World.ownsRow_nil _ _ _ _, kp_far hKh (st8_kp _ _ _ _ _ _ _ _ _ _) (fun k hk => by omega)⟩
      have hOw := own_kp (own_kp hO8 ((Kp.refl (fun _ => True) _).drewN m9) (fun _ _ _ => trivial)) hK10 (fun _ _ _ => trivial)
      have hln : (tOrders bs 64 ((bs.length - 8) / 8)).length = nx := by rw [tOrders_length, Z3.out]
      show World.ownsRow _ _ _ _ _ (tOrders bs 64 ((bs.length - 8) / 8)).length (ocs (tOrders bs 64 ((bs.length - 8) / 8)))
      rw [hln, ← Z4.out]
      exact own_lo (own_kp hOw (st8_kp _ _ _ _ _ _ _ _ _ _) (fun g hg _ => by omega)) (by omega)
  · have HN : Hd (parse3 bs = PM.no 63) := hd (by unfold parse3; rw [if_neg]; rintro ⟨q1, q2⟩; exact he (hG (hF4.out (by omega) q2)).1)
    have hq : (e3 != 0) = true := by rw [bne_iff_ne]; exact he
    clear he
    clear hG hBd hF hF3 hF4 hC
    go_wp2_with (first | (go_at_call 70; refine (rerr_any hR8).mono ?_; rintro e_ w9 ⟨rfl, rfl⟩) | (go_at_call 71; refine (left_any hR8).mono ?_; rintro e_ w9 ⟨rfl, m9, rfl⟩))
    exact bodyPost_ret (results_ct rfl _ _ (w.heap.size + 1) 52 _ (0, 0) _ rfl (st8_blk Z8 _ _ _ _ _ _ _ _) Try.underlying52 rfl (by kernel_rfl)) rfl (by rw [HN.out]; exact PMs.no_ _ _ _ _ rfl (kp_far hKg (st8_kp _ _ _ _ _ _ _ _ _ _) (fun k hk => by omega)))
set_option maxHeartbeats 8000000 in
set_option maxRecDepth 100000 in
theorem parse4_any {w : World} {A : Option Addr} {n c : Nat} {bs : List Nat} (ct kd pd : Nat) (hs : Sl w (.slice A n c) (bv bs)) (hb : Bts bs) (hl : bs.length ≤ 1000000) (hso : sortOf kd ct = 4) :
    Calls Try.prog 25 #[.agg #[.int .u8 (ct : Int), .int .u8 (kd : Int), .slice A n c, .int .u8 (pd : Int)]] w fun e_ w' => PMs w w' e_ (parse4 bs) := by
  obtain ⟨w0, hw0⟩ : ∃ w0, w0 = (w.alloc (.cells #[.int .u8 (ct : Int), .int .u8 (kd : Int), .slice A n c, .int .u8 (pd : Int)] 40)).alloc (.cells #[.int .u8 0, .int .u32 0, .int .u32 0, .slice none 0 0, .slice none 0 0, .int .u8 0, .int .u32 0, .slice none 0 0] 52) := ⟨_, rfl⟩
  have hK0 : Kp (fun _ => True) w w0 := hw0 ▸ ((Kp.refl _ _).alloc _).alloc _
  have P0 : Blk w0 w.heap.size 40 #[.int .u8 (ct : Int), .int .u8 (kd : Int), .slice A n c, .int .u8 (pd : Int)] := hw0 ▸ (Blk.new w _ _).alloc _
  have Z0 : Blk w0 (w.heap.size + 1) 52 #[.int .u8 0, .int .u32 0, .int .u32 0, .slice none 0 0, .slice none 0 0, .int .u8 0, .int .u32 0, .slice none 0 0] := by
    have := Blk.new (w.alloc (.cells #[.int .u8 (ct : Int), .int .u8 (kd : Int), .slice A n c, .int .u8 (pd : Int)] 40)) 52 #[.int .u8 0, .int .u32 0, .int .u32 0, .slice none 0 0, .slice none 0 0, .int .u8 0, .int .u32 0, .slice none 0 0]
    rw [← hw0, World.size_alloc] at this
    exact this
  have cP := P0.cell
  go_enter Try.func25, Try.ntmps25
  go_upto_region 1 with (fail)
  rw [← hw0]
  clear hw0
  go_wp2_with fail
  refine (of_any _ ct kd pd _ ⟨_, _, _, rfl⟩).mono ?_
  rw [hso]
  rintro e_ w1 ⟨rfl, hK1⟩
  have P1 := P0.kp hK1 trivial
  have Z1 := Z0.kp hK1 trivial
  have hKa := hK0.trans hK1
  clear cP P0 Z0 hK0 hK1 hso
  have cP := P1.cell
  have hix := sort_ix4 .u8
  go_wp2_with fail
  refine (sorts_any _).mono ?_
  rintro e_ w2 ⟨rfl, hK2⟩
  have P2 := P1.kp hK2 trivial
  have Z2 := Z1.kp hK2 trivial
  have hKb := hKa.trans hK2
  clear cP P1 Z1 hKa hK2
  obtain ⟨w3, hw3⟩ : ∃ w3, w3 = w2.alloc (.cells #[.int .u8 206, .int .u8 15, .func (Fn.func 108) #[] #[], .func (Fn.func 109) #[] #[], .func (Fn.func 104) #[] #[]] 125) := ⟨_, rfl⟩
  have hK3 : Kp (fun _ => True) w2 w3 := hw3 ▸ (Kp.refl _ _).alloc _
  have T3 : Blk w3 w2.heap.size 125 #[.int .u8 206, .int .u8 15, .func (Fn.func 108) #[] #[], .func (Fn.func 109) #[] #[], .func (Fn.func 104) #[] #[]] := hw3 ▸ Blk.new w2 _ _
  have P3 := P2.kp hK3 trivial
  have Z3 := Z2.kp hK3 trivial
  have hKc := hKb.trans hK3
  have cP := P3.cell
  have hs2 := hKb.size
  have hs3 := hK3.size
  have hz2 := Z2.lt
  have ht3 := T3.lt
  clear P2 Z2 hKb hK3
  go_upto_region 5 with (fail)
  rw [← hw3]
  clear hw3 hix
  go_wp2_with fail
  refine (Of_any (hs.all hKc) hb (by omega)).mono ?_
  rintro e_ w4 ⟨p, v, rfl, hp, hR1, hv, hK4⟩
  have hs4 := hK4.size
  have hpl := hR1.blk.lt
  have T4 := T3.kp hK4 trivial
  have Z4 := Z3.kp hK4 trivial
  have hKd := hKc.trans hK4
  clear cP P3 T3 Z3 hKc hK4
  have hx1 := tVal_lt bs 0 0 32
  have hx2 := tVal_lt bs (tAt bs 0 0 ((32 : Nat) : Int)) (tErr 0 ((32 : Nat) : Int) (8 * bs.length - (0 : Nat))) 32
  have G1 := take_good (bs := bs) (a := 0) (n := 32) (by decide)
  have G2 := take_good (bs := bs) (a := 32) (n := 32) (by decide)
  have S1 := take_short (bs := bs) (a := 0) (n := 32)
  have S2 := take_short (bs := bs) (a := 32) (n := 32)
  generalize hX1 : tVal bs 0 0 ((32 : Nat) : Int) = x1 at *
  generalize hA1 : tAt bs 0 0 ((32 : Nat) : Int) = a1 at *
  generalize hE1 : tErr 0 ((32 : Nat) : Int) (8 * bs.length - (0 : Nat)) = e1 at *
  generalize hX2 : tVal bs a1 e1 ((32 : Nat) : Int) = x2 at *
  generalize hA2 : tAt bs a1 e1 ((32 : Nat) : Int) = a2 at *
  generalize hE2 : tErr e1 ((32 : Nat) : Int) (8 * bs.length - a1) = e2 at *
  have hC : Hd ((8 ≤ bs.length ∧ e2 = 0 ∧ a2 = 64 ∧ x1 = vl bs 0 32 ∧ x2 = vl bs 32 32) ∨ (bs.length < 8 ∧ e2 ≠ 0)) := hd (by
    by_cases h8 : 8 ≤ bs.length
    · obtain ⟨q1, q2, q3⟩ := G1 (by omega)
      have q2' : a1 = 32 := q2
      subst q2' q3
      obtain ⟨q4, q5, q6⟩ := G2 (by omega)
      exact .inl ⟨h8, hE2.symm.trans q6, hA2.symm.trans q5, q1, hX2.symm.trans q4⟩
    · refine .inr ⟨by omega, ?_⟩
      rw [← hE2]
      by_cases h4 : 4 ≤ bs.length
      · obtain ⟨_, q2, q3⟩ := G1 (by omega)
        have q2' : a1 = 32 := q2
        subst q2' q3
        exact S2 (by omega) 0
      · exact take_err (fun h => S1 (by omega) 0 (hE1.trans h)))
  clear G1 G2 S1 S2
  have f1 : IntKind.u32.wrap (x1 : Int) = x1 := IntWalk.u32_in _ (by omega)
  have f2 : IntKind.u32.wrap (x2 : Int) = x2 := IntWalk.u32_in _ (by omega)
  go_wp2_with fail
  refine (Take_all hR1 ((32 : Nat) : Int)).mono ?_
  rw [hX1, hA1, hE1]
  rintro e_ w5 ⟨rfl, hR2, hK5⟩
  go_wp2_with fail
  refine (Take_all hR2 ((32 : Nat) : Int)).mono ?_
  rw [hX2, hA2, hE2]
  rintro e_ w6 ⟨rfl, hR3, hK6⟩
  have hpT : w2.heap.size ≠ p := by omega
  have hpZ : w.heap.size + 1 ≠ p := by omega
  have T6 := (T4.kp hK5 hpT).kp hK6 hpT
  have Z6 := (Z4.kp hK5 hpZ).kp hK6 hpZ
  have hKe : Kp (fun _ => True) w w6 := kp_far (kp_far hKd hK5 (fun k hk => by omega)) hK6 (fun k hk => by omega)
  have hs6 : w4.heap.size ≤ w6.heap.size := Nat.le_trans hK5.size hK6.size
  clear hX1 hA1 hE1 hX2 hA2 hE2 hR1 hR2 hK5 hK6 T4 Z4 hKd
  obtain ⟨w7, hw7⟩ : ∃ w7, w7 = w6.alloc (.cells #[.int .u8 4, .int .u32 (x1 : Int), .int .u32 (x2 : Int), .slice none 0 0, .slice none 0 0, .int .u8 0, .int .u32 0, .slice none 0 0] 52) := ⟨_, rfl⟩
  have hR4 := hw7 ▸ hR3.alloc (.cells #[.int .u8 4, .int .u32 (x1 : Int), .int .u32 (x2 : Int), .slice none 0 0, .slice none 0 0, .int .u8 0, .int .u32 0, .slice none 0 0] 52)
  have hQ5 : Blk w7 w6.heap.size 52 _ := hw7 ▸ Blk.new w6 _ #[.int .u8 4, .int .u32 (x1 : Int), .int .u32 (x2 : Int), .slice none 0 0, .slice none 0 0, .int .u8 0, .int .u32 0, .slice none 0 0]
  have T7 : Blk w7 w2.heap.size 125 _ := hw7 ▸ T6.alloc _
  have Z7 : Blk w7 (w.heap.size + 1) 52 _ := hw7 ▸ Z6.alloc _
  have hKf : Kp (fun _ => True) w w7 := hw7 ▸ hKe.alloc _
  have hpq : p ≠ w6.heap.size := by omega
  have hvq : v.ownBlock ≠ some w6.heap.size := fun e => by have := hR3.vlt _ e; omega
  have cT := T7.cell
  have hs7 : w6.heap.size + 1 = w7.heap.size := by rw [hw7]; simp
  clear hR3 T6 Z6 hKe hv
  go_upto_region 7 with (fail)
  rw [← hw7]
  clear hw7 f1 f2
  clear hs hb
  go_wp2_with fail
  refine (takeRate_any hR4 hpq hvq _ _ _ _ _ ⟨_, _, _, rfl⟩ ⟨_, _, _, rfl⟩ hQ5).mono ?_
  rintro e_ w6_ ⟨rfl, at3, e3, vx, nx, xs, E, M, hTK, hQ6, hG, hBd⟩
  clear cT
  have hR8 := hTK.rd
  have hO8 := hTK.own
  have hTS := hTK.kp.size
  have T8 := T7.kp hTK.kp ⟨by omega, by omega⟩
  have Z8 := Z7.kp hTK.kp ⟨by omega, by omega⟩
  have hKg : Kp (fun _ => True) w w6_ := kp_far hKf hTK.kp (fun k hk => ⟨by omega, by omega⟩)
  have hle := hR8.le
  clear hR4 hQ5 T7 Z7 hTK
  obtain ⟨Ax, cx, rfl⟩ : ∃ A c, vx = .slice A nx c := by
    obtain ⟨A, c, e⟩ := own_slice hO8
    exact ⟨A, c, e⟩
  have c8 := hQ6.cell
  have fZ := Z8.frozen
  have cZ := Z8.cell
  have cT8 := fun m => (T8.drewN m).cell
  have c8m := fun m => (hQ6.drewN m).cell
  have fZm := fun m => (Z8.drewN m).frozen
  have cZm := fun m => (Z8.drewN m).cell
  have cT0 := T8.cell
  have hF : Hd (e3 = 0 → e2 = 0 ∧ a2 = 64 ∧ x1 = vl bs 0 32 ∧ x2 = vl bs 32 32 ∧ RateOk bs 64 0) := hd (fun z => by
    have hR : RateOk bs a2 e2 := Classical.byContradiction fun hn => hBd hn z
    rcases hC.out with ⟨y1, y2, y3, y4, y5⟩ | ⟨_, y2⟩
    · subst y2 y3
      exact ⟨rfl, rfl, y4, y5, hR⟩
    · exact absurd hR.1 y2)
  have hF2 : Hd (Rem bs → e3 = 0 ∧ at3 = 8 * bs.length) := hd (fun z => by
    obtain ⟨q1, q2, q3⟩ := z
    rcases hC.out with ⟨y1, y2, y3, y4, y5⟩ | ⟨y1, y2⟩
    · subst y2 y3
      have q3' : bs.length = 16 + 4 * vl bs (64 + 32) 8 := q3
      have := hG ⟨rfl, by omega, q2, by omega⟩
      exact ⟨this.1, by omega⟩
    · omega)
  by_cases he : e3 = 0
  · by_cases hl8 : at3 = 8 * bs.length
    · obtain ⟨y1, y2, y3, y4, y5⟩ := hF.out he
      subst y1 y2
      obtain ⟨z1, z2, z3, z4, z5, z6⟩ := hG y5
      have hRm : Rem bs := ⟨by have := y5.2.1; omega, y5.2.2.1, (by omega : bs.length = 16 + 4 * vl bs (64 + 32) 8)⟩
      have HN : Hd (parse4 bs = ⟨4, x1, x2, [], [], vl bs 104 6, vl bs 110 18, tSrc bs 128 (vl bs 96 8), 0⟩) := hd (by unfold parse4; rw [if_pos hRm, y3, y4])
      subst z5 z6
      clear z1 y5 hRm
      subst he
      have hz : decide ((0 : Int) < 8 * (bs.length : Int) - (at3 : Int)) = false := decide_eq_false (by omega)
      have hz2 : ¬ ((at3 : Int) < 8 * (bs.length : Int)) := by omega
      clear hG hBd hF hF2 hC
      have Z3 := hd z3
      have Z4 := hd z4
      clear y3 y4 z2 z3 z4 hl8
      go_wp2_with (first | (go_at_call 70; refine (rerr_any hR8).mono ?_; rintro e_ w9 ⟨rfl, rfl⟩) | (go_at_call 71; refine (left_any hR8).mono ?_; rintro e_ w9 ⟨rfl, m9, rfl⟩))
      refine (nOne_any _ _ _ _ _ _ _ _ _ _ _ _ _ _ _).mono ?_
      rintro e_ w10 ⟨rfl, hK10⟩
      have Z10 := (Z8.drewN m9).kp hK10 trivial
      have hKh : Kp (fun _ => True) w w10 := (hKg.drewN m9).trans hK10
      have f10 := Z10.frozen
      have c10 := Z10.cell
      have q10 := ((hQ6.drewN m9).kp hK10 trivial).cell
      clear c8 fZ cZ cT8
      go_wp2
      refine bodyPost_ret (results_ct rfl _ _ (w.heap.size + 1) 52 _ (0, 0) _ rfl (st8_blk Z10 _ _ _ _ _ _ _ _) Try.underlying52 rfl (by kernel_rfl)) rfl ?_
      rw [HN.out]
      refine ⟨_, _, _, rfl, World.ownsRow_nil _ _ _ _, World.ownsRow_nil _ _ _ _, ?_, kp_far hKh (st8_kp _ _ _ _ _ _ _ _ _ _) (fun k hk => by omega)⟩
      have hOw := own_kp (own_kp hO8 ((Kp.refl (fun _ => True) _).drewN m9) (fun _ _ _ => trivial)) hK10 (fun _ _ _ => trivial)
      have hln : (tSrc bs 128 (vl bs 96 8)).length = nx := by rw [tSrc_length, Z3.out]
      show World.ownsRow _ _ _ _ _ (tSrc bs 128 (vl bs 96 8)).length (scs (tSrc bs 128 (vl bs 96 8)))
      rw [hln, ← Z4.out]
      exact own_lo (own_kp hOw (st8_kp _ _ _ _ _ _ _ _ _ _) (fun g hg _ => by omega)) (by omega)
    · have HN : Hd (parse4 bs = PM.no 63) := hd (by unfold parse4; rw [if_neg]; intro q1; exact hl8 (hF2.out q1).2)
      subst he
      have hz : decide ((0 : Int) < 8 * (bs.length : Int) - (at3 : Int)) = true := decide_eq_true (by omega)
      have hz2 : (at3 : Int) < 8 * (bs.length : Int) := by omega
      clear hG hBd hF hF2 hC
      go_wp2_with (first | (go_at_call 70; refine (rerr_any hR8).mono ?_; rintro e_ w9 ⟨rfl, rfl⟩) | (go_at_call 71; refine (left_any hR8).mono ?_; rintro e_ w9 ⟨rfl, m9, rfl⟩))
      exact bodyPost_ret (results_ct rfl _ _ (w.heap.size + 1) 52 _ (0, 0) _ rfl (st8_blk (Z8.drewN m9) _ _ _ _ _ _ _ _) Try.underlying52 rfl (by kernel_rfl)) rfl (by rw [HN.out]; exact PMs.no_ _ _ _ _ rfl (kp_far (hKg.drewN m9) (st8_kp _ _ _ _ _ _ _ _ _ _) (fun k hk => by omega)))
  · have HN : Hd (parse4 bs = PM.no 63) := hd (by unfold parse4; rw [if_neg]; intro q1; exact he (hF2.out q1).1)
    have hq : (e3 != 0) = true := by rw [bne_iff_ne]; exact he
    clear he
    clear hG hBd hF hF2 hC
    go_wp2_with (first | (go_at_call 70; refine (rerr_any hR8).mono ?_; rintro e_ w9 ⟨rfl, rfl⟩) | (go_at_call 71; refine (left_any hR8).mono ?_; rintro e_ w9 ⟨rfl, m9, rfl⟩))
    exact bodyPost_ret (results_ct rfl _ _ (w.heap.size + 1) 52 _ (0, 0) _ rfl (st8_blk Z8 _ _ _ _ _ _ _ _) Try.underlying52 rfl (by kernel_rfl)) rfl (by rw [HN.out]; exact PMs.no_ _ _ _ _ rfl (kp_far hKg (st8_kp _ _ _ _ _ _ _ _ _ _) (fun k hk => by omega)))
theorem sortOf_lt5 (kd ct : Nat) : sortOf kd ct = 0 ∨ sortOf kd ct = 1 ∨ sortOf kd ct = 2 ∨ sortOf kd ct = 3 ∨ sortOf kd ct = 4 := by
  have := sortOf_le kd ct
  omega
/-- feedback.Parse, for all packets. -/
theorem parse_any {w : World} {A : Option Addr} {n c : Nat} {bs : List Nat} (ct kd pd : Nat) (hs : Sl w (.slice A n c) (bv bs)) (hb : Bts bs) (hl : bs.length ≤ 1000000) :
    Calls Try.prog 25 #[.agg #[.int .u8 (ct : Int), .int .u8 (kd : Int), .slice A n c, .int .u8 (pd : Int)]] w fun e_ w' => PMs w w' e_ (parseP kd ct bs) := by
  unfold parseP
  rcases sortOf_lt5 kd ct with h | h | h | h | h <;> rw [h]
  · exact parse0_any ct kd pd hs hb hl h
  · exact parse1_any ct kd pd hs hb hl h
  · exact parse2_any ct kd pd hs hb hl h
  · exact parse3_any ct kd pd hs hb hl h
  · exact parse4_any ct kd pd hs hb hl h
end Go.Proofs.Ytjcejgolcdgipaa.K7
