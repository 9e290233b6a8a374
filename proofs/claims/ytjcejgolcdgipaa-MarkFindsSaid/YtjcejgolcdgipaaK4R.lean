/- Chapter 04, plain: easelref03.Parse in the printed words comes to what the still reader tells. No walk. -/
import Derived.Test.YtjcejgolcdgipaaK4N
import Derived.Test.YtjcejgolcdgipaaK4x8
namespace Go.Proofs.Ytjcejgolcdgipaa.K4
open Go.RowKit Go.Proofs.YtjcejgolcdgipaaW.PrintWords Go.Proofs.YtjcejgolcdgipaaW.PrintLast Go.Proofs.YtjcejgolcdgipaaW.PrintMore
set_option linter.unusedVariables false
set_option linter.unusedSimpArgs false

theorem rd_ib (bs : List Nat) (i : Nat) : rd (ib bs) (i : Int) = ((bs.getD i 0 : Nat) : Int) := by
  unfold rd ib
  rw [Int.toNat_natCast, List.getD_eq_getElem?_getD, List.getElem?_map, List.getD_eq_getElem?_getD]
  cases bs[i]? <;> rfl
theorem w64 (n : Nat) (h : n ≤ 1000000000000) : wrap64 ((n : Nat) : Int) = (n : Int) := by unfold wrap64; omega
theorem w64a (n m : Nat) (h : n + m ≤ 1000000000000) : wrap64 (((n : Nat) : Int) + ((m : Nat) : Int)) = ((n + m : Nat) : Int) := by unfold wrap64; omega
theorem w64b (n m : Nat) (c : Int) (hc : c = m) (h : n + m ≤ 1000000000000) : wrap64 (((n : Nat) : Int) + c) = ((n + m : Nat) : Int) := by subst hc; exact w64a n m h
theorem tdiv_nat (c d : Nat) : Int.tdiv (c : Int) (d : Int) = ((c / d : Nat) : Int) := by
  rw [Int.tdiv_eq_ediv_of_nonneg (Int.natCast_nonneg c)]
  exact (Int.natCast_ediv c d).symm
theorem tmod_nat (c d : Nat) : Int.tmod (c : Int) (d : Int) = ((c % d : Nat) : Int) := by
  rw [Int.tmod_eq_emod_of_nonneg (Int.natCast_nonneg c)]
  exact (Int.natCast_emod c d).symm
theorem ib_cut (bs : List Nat) (a n : Nat) : ((ib bs).take (a + n)).drop a = ib ((bs.drop a).take n) := by
  unfold ib
  rw [List.drop_take, show a + n - a = n by omega, List.map_take, List.map_drop]
theorem cut_len (bs : List Nat) (a n : Nat) : (ib ((bs.drop a).take n)).length ≤ n := by
  rw [ib_length, List.length_take]
  omega
theorem nums16 (i c : Nat) (hi : i ≤ 1000000) (hc : c < 256) : wrap64 (c : Int) = c ∧ wrap64 ((c / 16 : Nat) : Int) = ((c / 16 : Nat) : Int) ∧ wrap64 (((c % 16 : Nat) : Int) + 1) = ((c % 16 + 1 : Nat) : Int) ∧ wrap64 ((i : Int) + 1) = ((i + 1 : Nat) : Int) ∧ wrap64 (((i + 1 : Nat) : Int) + ((c % 16 + 1 : Nat) : Int)) = ((i + 1 + (c % 16 + 1) : Nat) : Int) :=
  ⟨w64 c (by omega), w64 _ (by omega), w64b _ 1 1 rfl (by omega), w64b i 1 1 rfl (by omega), w64a _ _ (by omega)⟩
theorem nums8 (i c n : Nat) (hi : i ≤ 1000000) (hc : c < 256) (hn : n < 256) : wrap64 (c : Int) = c ∧ wrap64 (n : Int) = n ∧ wrap64 ((i : Int) + 1) = ((i + 1 : Nat) : Int) ∧ wrap64 ((i : Int) + 2) = ((i + 2 : Nat) : Int) ∧ wrap64 (((i + 2 : Nat) : Int) + (n : Int)) = ((i + 2 + n : Nat) : Int) :=
  ⟨w64 c (by omega), w64 n (by omega), w64b i 1 1 rfl (by omega), w64b i 2 2 rfl (by omega), w64a _ _ (by omega)⟩
theorem nums16' (i c : Nat) (hi : i ≤ 1000000) (hc : c < 256) : Hd (wrap64 (c : Int) = c) ∧ Hd (wrap64 ((c / 16 : Nat) : Int) = ((c / 16 : Nat) : Int)) ∧ Hd (wrap64 (((c % 16 : Nat) : Int) + 1) = ((c % 16 + 1 : Nat) : Int)) ∧ Hd (wrap64 ((i : Int) + 1) = ((i + 1 : Nat) : Int)) ∧ Hd (wrap64 (((i + 1 : Nat) : Int) + ((c % 16 + 1 : Nat) : Int)) = ((i + 1 + (c % 16 + 1) : Nat) : Int)) := nums16 i c hi hc
theorem nums8' (i c n : Nat) (hi : i ≤ 1000000) (hc : c < 256) (hn : n < 256) : Hd (wrap64 (c : Int) = c) ∧ Hd (wrap64 (n : Int) = n) ∧ Hd (wrap64 ((i : Int) + 1) = ((i + 1 : Nat) : Int)) ∧ Hd (wrap64 ((i : Int) + 2) = ((i + 2 : Nat) : Int)) ∧ Hd (wrap64 (((i + 2 : Nat) : Int) + (n : Int)) = ((i + 2 + n : Nat) : Int)) := nums8 i c n hi hc hn
section
variable {p : Nat} {bs : List Nat} {i c n : Nat} {acc : List (Nat × List Nat)}
theorem rp_one (ho : isOne p = true) (r0 : rd (ib bs) (i : Int) = (c : Int)) (hi : i < bs.length) (hl : bs.length ≤ 1000000) (hc : c < 256) (hz : c ≠ 0) (h15 : c / 16 = 15) : Ev (fun k => easelref03_Parse.l0 k (p : Int) (ib bs) (acc.map toT) (i : Int)) (acc.map toT, 0) := by
  have hlen : (ib bs).length = bs.length := ib_length bs
  have d16 : Hd (Int.tdiv (c : Int) 16 = ((c / 16 : Nat) : Int)) := tdiv_nat _ 16
  obtain ⟨e1, e2, _, _, _⟩ := nums16' i c (by omega) hc
  refine Ev.step (f := fun _ => some (acc.map toT, 0)) (fun k => ?_) (Ev.now _)
  simp only [easelref03_Parse.l0]
  rw [if_pos (by rw [hlen]; omega), if_pos (by omega), r0, if_neg (by omega), one_f, ho]
  rw [Option.bind_some, if_pos rfl, e1.out, d16.out, e2.out, if_pos (by omega)]
theorem rp_one0 (ho : isOne p = true) (r0 : rd (ib bs) (i : Int) = (c : Int)) (hi : i < bs.length) (hl : bs.length ≤ 1000000) (hc : c < 256) (hz : c ≠ 0) (h15 : c / 16 = 0) : Ev (fun k => easelref03_Parse.l0 k (p : Int) (ib bs) (acc.map toT) (i : Int)) ([], 31) := by
  have hlen : (ib bs).length = bs.length := ib_length bs
  have d16 : Hd (Int.tdiv (c : Int) 16 = ((c / 16 : Nat) : Int)) := tdiv_nat _ 16
  obtain ⟨e1, e2, _, _, _⟩ := nums16' i c (by omega) hc
  refine Ev.step (f := fun _ => some ([], 31)) (fun k => ?_) (Ev.now _)
  simp only [easelref03_Parse.l0]
  rw [if_pos (by rw [hlen]; omega), if_pos (by omega), r0, if_neg (by omega), one_f, ho]
  rw [Option.bind_some, if_pos rfl, e1.out, d16.out, e2.out, if_neg (by omega), if_pos (by omega)]
theorem rp_oneS (ho : isOne p = true) (r0 : rd (ib bs) (i : Int) = (c : Int)) (hi : i < bs.length) (hl : bs.length ≤ 1000000) (hc : c < 256) (hz : c ≠ 0) (h15 : c / 16 ≠ 15) (h0 : c / 16 ≠ 0) (hs : bs.length < i + 1 + (c % 16 + 1)) : Ev (fun k => easelref03_Parse.l0 k (p : Int) (ib bs) (acc.map toT) (i : Int)) ([], 10) := by
  have hlen : (ib bs).length = bs.length := ib_length bs
  have d16 : Hd (Int.tdiv (c : Int) 16 = ((c / 16 : Nat) : Int)) := tdiv_nat _ 16
  have m16 : Hd (Int.tmod (c : Int) 16 = ((c % 16 : Nat) : Int)) := tmod_nat _ 16
  obtain ⟨e1, e2, e3, e4, e5⟩ := nums16' i c (by omega) hc
  refine Ev.step (f := fun _ => some ([], 10)) (fun k => ?_) (Ev.now _)
  simp only [easelref03_Parse.l0]
  rw [if_pos (by rw [hlen]; omega), if_pos (by omega), r0, if_neg (by omega), one_f, ho]
  rw [Option.bind_some, if_pos rfl, e1.out, d16.out, e2.out, if_neg (by omega), if_neg (by omega), m16.out, e3.out, e4.out, e5.out, if_pos (by rw [hlen]; omega)]
theorem rp_oneN (ho : isOne p = true) (r0 : rd (ib bs) (i : Int) = (c : Int)) (hi : i < bs.length) (hl : bs.length ≤ 1000000) (hc : c < 256) (hz : c ≠ 0) (h15 : c / 16 ≠ 15) (h0 : c / 16 ≠ 0) (hs : ¬ bs.length < i + 1 + (c % 16 + 1)) (ha : acc.length ≤ i) {r : List S164 × Int}
    (hn : Ev (fun k => easelref03_Parse.l0 k (p : Int) (ib bs) ((acc ++ [(c / 16, (bs.drop (i + 1)).take (c % 16 + 1))]).map toT) ((i + 1 + (c % 16 + 1) : Nat) : Int)) r) : Ev (fun k => easelref03_Parse.l0 k (p : Int) (ib bs) (acc.map toT) (i : Int)) r := by
  have hlen : (ib bs).length = bs.length := ib_length bs
  have d16 : Hd (Int.tdiv (c : Int) 16 = ((c / 16 : Nat) : Int)) := tdiv_nat _ 16
  have m16 : Hd (Int.tmod (c : Int) 16 = ((c % 16 : Nat) : Int)) := tmod_nat _ 16
  obtain ⟨e1, e2, e3, e4, e5⟩ := nums16' i c (by omega) hc
  have hcl := cut_len bs (i + 1) (c % 16 + 1)
  refine Ev.step (fun k => ?_) hn
  simp only [easelref03_Parse.l0]
  rw [if_pos (by rw [hlen]; omega), if_pos (by omega), r0, if_neg (by omega), one_f, ho]
  rw [Option.bind_some, if_pos rfl, e1.out, d16.out, e2.out, if_neg (by omega), if_neg (by omega), m16.out, e3.out, e4.out, e5.out, if_neg (by rw [hlen]; omega), if_pos (by omega), if_pos (by omega), if_pos (by rw [hlen]; omega), Int.toNat_natCast, Int.toNat_natCast, ib_cut,
    if_pos (by simp only [List.length_nil]; omega), if_pos (by rw [List.length_map]; omega), List.nil_append, List.map_append]
  rw [show ((c / 16 : Nat) : Int) % 256 = ((c / 16 : Nat) : Int) by omega]
  rfl
theorem rp_twoE (ho : isOne p = false) (r0 : rd (ib bs) (i : Int) = (c : Int)) (hi : i < bs.length) (hl : bs.length ≤ 1000000) (hc : c < 256) (hz : c ≠ 0) (h1 : bs.length ≤ i + 1) : Ev (fun k => easelref03_Parse.l0 k (p : Int) (ib bs) (acc.map toT) (i : Int)) ([], 10) := by
  have hlen : (ib bs).length = bs.length := ib_length bs
  obtain ⟨_, _, e4, _, _⟩ := nums8' i c 0 (by omega) hc (by omega)
  refine Ev.step (f := fun _ => some ([], 10)) (fun k => ?_) (Ev.now _)
  simp only [easelref03_Parse.l0]
  rw [if_pos (by rw [hlen]; omega), if_pos (by omega), r0, if_neg (by omega), one_f, ho]
  rw [Option.bind_some, if_neg (by decide), e4.out, if_pos (by rw [hlen]; omega)]
theorem rp_twoS (ho : isOne p = false) (r0 : rd (ib bs) (i : Int) = (c : Int)) (r1 : rd (ib bs) ((i + 1 : Nat) : Int) = (n : Int)) (hi : i + 1 < bs.length) (hl : bs.length ≤ 1000000) (hc : c < 256) (hn : n < 256) (hz : c ≠ 0) (hs : bs.length < i + 2 + n) : Ev (fun k => easelref03_Parse.l0 k (p : Int) (ib bs) (acc.map toT) (i : Int)) ([], 10) := by
  have hlen : (ib bs).length = bs.length := ib_length bs
  obtain ⟨e1, e2, e4, e6, e5⟩ := nums8' i c n (by omega) hc hn
  refine Ev.step (f := fun _ => some ([], 10)) (fun k => ?_) (Ev.now _)
  simp only [easelref03_Parse.l0]
  rw [if_pos (by rw [hlen]; omega), if_pos (by omega), r0, if_neg (by omega), one_f, ho]
  rw [Option.bind_some, if_neg (by decide), e4.out, if_neg (by rw [hlen]; omega), if_pos (by omega), if_pos (by rw [hlen]; omega), r1, e2.out, e6.out, e5.out, if_pos (by rw [hlen]; omega)]
theorem rp_twoN (ho : isOne p = false) (r0 : rd (ib bs) (i : Int) = (c : Int)) (r1 : rd (ib bs) ((i + 1 : Nat) : Int) = (n : Int)) (hi : i + 1 < bs.length) (hl : bs.length ≤ 1000000) (hc : c < 256) (hn : n < 256) (hz : c ≠ 0) (hs : ¬ bs.length < i + 2 + n) (ha : acc.length ≤ i) {r : List S164 × Int}
    (hx : Ev (fun k => easelref03_Parse.l0 k (p : Int) (ib bs) ((acc ++ [(c, (bs.drop (i + 2)).take n)]).map toT) ((i + 2 + n : Nat) : Int)) r) : Ev (fun k => easelref03_Parse.l0 k (p : Int) (ib bs) (acc.map toT) (i : Int)) r := by
  have hlen : (ib bs).length = bs.length := ib_length bs
  obtain ⟨e1, e2, e4, e6, e5⟩ := nums8' i c n (by omega) hc hn
  have hcl := cut_len bs (i + 2) n
  refine Ev.step (fun k => ?_) hx
  simp only [easelref03_Parse.l0]
  rw [if_pos (by rw [hlen]; omega), if_pos (by omega), r0, if_neg (by omega), one_f, ho]
  rw [Option.bind_some, if_neg (by decide), e4.out, if_neg (by rw [hlen]; omega), if_pos (by omega), if_pos (by rw [hlen]; omega), r1, e2.out, e6.out, e5.out, if_neg (by rw [hlen]; omega), if_pos (by omega), if_pos (by omega), if_pos (by rw [hlen]; omega), Int.toNat_natCast, Int.toNat_natCast, ib_cut,
    if_pos (by simp only [List.length_nil]; omega), if_pos (by rw [List.length_map]; omega), List.nil_append, List.map_append, e1.out]
  rw [show (c : Int) % 256 = (c : Int) by omega]
  rfl
end
theorem ev_rParse_l (p : Nat) {bs : List Nat} (hb : Bts bs) (hl : bs.length ≤ 1000000) : ∀ (f i : Nat) (acc : List (Nat × List Nat)), bs.length < i + f → i ≤ bs.length → acc.length ≤ i →
    Ev (fun k => easelref03_Parse.l0 k (p : Int) (ib bs) (acc.map toT) (i : Int)) ((prs (isOne p) bs f i acc).1.map toT, ((prs (isOne p) bs f i acc).2 : Int)) := by
  intro f
  induction f with
  | zero => intro i acc h h' _; omega
  | succ f ih =>
    intro i acc hf hi ha
    have hc := hb.getD i
    have hc1 := hb.getD (i + 1)
    have r0 := rd_ib bs i
    have r1 := rd_ib bs (i + 1)
    have hlen : (ib bs).length = bs.length := ib_length bs
    simp only [prs]
    by_cases hend : bs.length ≤ i
    · rw [if_pos hend]
      refine Ev.step (f := fun _ => some (acc.map toT, 0)) (fun k => ?_) (Ev.now _)
      simp only [easelref03_Parse.l0]
      rw [if_neg (by rw [hlen]; omega)]
    · rw [if_neg hend]
      by_cases hz : bs.getD i 0 = 0
      · rw [if_pos hz]
        refine Ev.step (f := fun k => easelref03_Parse.l0 k (p : Int) (ib bs) (acc.map toT) ((i + 1 : Nat) : Int)) (fun k => ?_) (ih (i + 1) acc (by omega) (by omega) (by omega))
        simp only [easelref03_Parse.l0]
        rw [if_pos (by rw [hlen]; omega), if_pos (by omega), r0, hz, if_pos (by rfl), w64b i 1 1 rfl (by omega)]
      · rw [if_neg hz]
        generalize bs.getD i 0 = c at *
        generalize bs.getD (i + 1) 0 = n at *
        by_cases ho : isOne p = true
        · rw [if_pos ho]
          by_cases h15 : c / 16 = 15
          · rw [if_pos h15]
            exact rp_one ho r0 (by omega) hl hc hz h15
          · rw [if_neg h15]
            by_cases h0 : c / 16 = 0
            · rw [if_pos h0]
              exact rp_one0 ho r0 (by omega) hl hc hz h0
            · rw [if_neg h0]
              by_cases hs : bs.length < i + 1 + (c % 16 + 1)
              · rw [if_pos hs]
                exact rp_oneS ho r0 (by omega) hl hc hz h15 h0 hs
              · rw [if_neg hs]
                exact rp_oneN ho r0 (by omega) hl hc hz h15 h0 hs ha (ih _ _ (by omega) (by omega) (by simp; omega))
        · have hof : isOne p = false := by simpa using ho
          rw [if_neg ho]
          by_cases h1 : bs.length ≤ i + 1
          · rw [if_pos h1]
            exact rp_twoE hof r0 (by omega) hl hc hz h1
          · rw [if_neg h1]
            by_cases hs : bs.length < i + 2 + n
            · rw [if_pos hs]
              exact rp_twoS hof r0 r1 (by omega) hl hc hc1 hz hs
            · rw [if_neg hs]
              exact rp_twoN hof r0 r1 (by omega) hl hc hc1 hz hs ha (ih _ _ (by omega) (by omega) (by simp; omega))
theorem ev_rParse (p : Nat) {bs : List Nat} (hb : Bts bs) (hl : bs.length ≤ 1000000) : Ev (fun k => easelref03_Parse.f k (p : Int) (ib bs)) ((extP p bs).1.map toT, ((extP p bs).2 : Int)) := by
  unfold extP
  by_cases hk : isKnown p = false
  · rw [if_pos hk]
    refine Ev.congr (fun k => ?_) (Ev.now _)
    unfold easelref03_Parse.f
    rw [known_f, hk]
    rfl
  · rw [if_neg hk]
    have hk' : isKnown p = true := by simpa using hk
    by_cases h4 : bs.length % 4 ≠ 0
    · rw [if_pos h4]
      refine Ev.congr (fun k => ?_) (Ev.now _)
      unfold easelref03_Parse.f
      rw [known_f, hk']
      simp only [Option.bind_some]
      rw [if_pos trivial, if_neg (by rw [ib_length]; omega)]
      rfl
    · rw [if_neg h4]
      refine Ev.congr (fun k => ?_) (ev_rParse_l p hb hl (bs.length + 1) 0 [] (by omega) (by omega) (by simp))
      unfold easelref03_Parse.f
      rw [known_f, hk']
      simp only [Option.bind_some]
      rw [if_pos trivial, if_pos (by rw [ib_length]; omega)]
      rfl
end Go.Proofs.Ytjcejgolcdgipaa.K4
