/- Chapter 07, plain: FeedbackNumbers comes to true for all pairs, numbers and rates. No walk. -/
import Derived.Test.YtjcejgolcdgipaaK7H
import Derived.Lib.ItoaNum
import Derived.Test.YtjcejgolcdgipaaK7x10
namespace Go.Proofs.Ytjcejgolcdgipaa.K7
open Go.RowKit Go.Proofs.YtjcejgolcdgipaaW.PrintWords Go.Proofs.YtjcejgolcdgipaaW.PrintLast Go.Proofs.YtjcejgolcdgipaaW.PrintMore
set_option linter.unusedVariables false

theorem wrap_succ (i : Nat) (h : i ≤ 1000000000) : wrap64 ((i : Int) + 1) = ((i + 1 : Nat) : Int) := by
  unfold wrap64; omega
theorem wrap_nat (i : Nat) (h : i ≤ 1000000000) : wrap64 (i : Int) = (i : Int) := by
  unfold wrap64; omega
theorem u16_nat (i : Nat) (h : i < 65536) : IntKind.u16.wrap (i : Int) = (i : Int) := IntWalk.u16_in _ (by omega)
section
variable {N : List (Nat × Nat)} {i : Nat}
theorem rdP (h : i < N.length) : rd_T82 (N.map toP) (i : Int) = toP N[i] := by
  unfold rd_T82
  simp [h]
theorem rdRP (h : i < N.length) : rd_T115 (N.map toRP) (i : Int) = toRP N[i] := by
  unfold rd_T115
  simp [h]
end
/-! pairs -/
theorem ev_pairs_l (N : List (Nat × Nat)) (hl : N.length ≤ 1000000) : ∀ d i, i + d = N.length → Ev (fun k => easellaw07_pairs.l0 k (N.map toP) ((N.take i).map toRP) (i : Int)) (N.map toRP)
  | 0, i, h => Ev.step (f := fun _ => some (N.map toRP)) (fun k => by
      simp only [easellaw07_pairs.l0]
      rw [if_neg (by rw [List.length_map]; omega), List.take_of_length_le (by omega)]) (Ev.now _)
  | d + 1, i, h => Ev.step (f := fun k => easellaw07_pairs.l0 k (N.map toP) ((N.take (i + 1)).map toRP) ((i + 1 : Nat) : Int)) (fun k => by
      have hi : i < N.length := by omega
      simp only [easellaw07_pairs.l0]
      rw [if_pos (by rw [List.length_map]; omega), if_pos (by omega), if_pos (by rw [List.length_map, List.length_take]; omega), wrap_succ i (by omega), rdP hi, List.take_succ_eq_append_getElem hi, List.map_append]
      rfl) (ev_pairs_l N hl d (i + 1) (by omega))
theorem ev_pairs (N : List (Nat × Nat)) (hl : N.length ≤ 1000000) : Ev (fun k => easellaw07_pairs.f k (N.map toP)) (N.map toRP) := ev_pairs_l N hl N.length 0 (by omega)
/-! the same -/
theorem ev_sameN_l (a : List Int) (hl : a.length ≤ 1000000) : ∀ d i, i + d = a.length → Ev (fun k => easellaw07_sameNumbers.l0 k a a (i : Int)) true
  | 0, i, h => Ev.step (f := fun _ => some true) (fun k => by simp only [easellaw07_sameNumbers.l0]; rw [if_neg (by omega)]) (Ev.now _)
  | d + 1, i, h => Ev.step (f := fun k => easellaw07_sameNumbers.l0 k a a ((i + 1 : Nat) : Int)) (fun k => by
      simp only [easellaw07_sameNumbers.l0]
      rw [if_pos (by omega), if_pos (by omega), if_pos (by omega), if_pos trivial, wrap_succ i (by omega)]) (ev_sameN_l a hl d (i + 1) (by omega))
theorem ev_sameN (a : List Int) (hl : a.length ≤ 1000000) : Ev (fun k => easellaw07_sameNumbers.f k a a) true :=
  Ev.congr (fun k => by unfold easellaw07_sameNumbers.f; rw [if_pos rfl]; rfl) (ev_sameN_l a hl a.length 0 (by omega))
theorem ev_rSame_l2 (a b c e f : Int) (l : List S115) (a' b' c' e' f' : Int) (l' : List S115) : Ev (fun k => easelref07_Same.l2 k 0 a b c l [] e f [] a' b' c' l' [] e' f' []) true :=
  Ev.step (f := fun _ => some true) (fun k => by simp only [easelref07_Same.l2]; rfl) (Ev.now _)
theorem ev_rSame_l1 (a b c e f : Int) (l : List S115) (a' b' c' e' f' : Int) (l' : List S115) : Ev (fun k => easelref07_Same.l1 k 0 a b c l [] e f [] a' b' c' l' [] e' f' []) true :=
  Ev.step (f := fun k => easelref07_Same.l2 k 0 a b c l [] e f [] a' b' c' l' [] e' f' []) (fun k => by simp only [easelref07_Same.l1]; rfl) (ev_rSame_l2 _ _ _ _ _ _ _ _ _ _ _ _)
theorem ev_rSame_l0 (a b c e f : Int) (l : List S115) (hl : l.length ≤ 1000000) : ∀ d i, i + d = l.length → Ev (fun k => easelref07_Same.l0 k (i : Int) a b c l [] e f [] a b c l [] e f []) true
  | 0, i, h => Ev.step (f := fun k => easelref07_Same.l1 k 0 a b c l [] e f [] a b c l [] e f []) (fun k => by simp only [easelref07_Same.l0]; rw [if_neg (by omega)]) (ev_rSame_l1 _ _ _ _ _ _ _ _ _ _ _ _)
  | d + 1, i, h => Ev.step (f := fun k => easelref07_Same.l0 k ((i + 1 : Nat) : Int) a b c l [] e f [] a b c l [] e f []) (fun k => by
      simp only [easelref07_Same.l0]
      rw [if_pos (by omega), if_pos (by omega), if_pos (by omega), if_neg (by simp), wrap_succ i (by omega)]) (ev_rSame_l0 a b c e f l hl d (i + 1) (by omega))
theorem ev_rSame (l : List S115) (hl : l.length ≤ 1000000) : Ev (fun k => easelref07_Same.f k 0 0 0 l [] 0 0 [] 0 0 0 l [] 0 0 []) true :=
  Ev.congr (f := fun k => easelref07_Same.j0 k false 0 0 0 l [] 0 0 [] 0 0 0 l [] 0 0 []) (fun k => by unfold easelref07_Same.f; simp)
    (Ev.step (f := fun k => easelref07_Same.l0 k 0 0 0 0 l [] 0 0 [] 0 0 0 l [] 0 0 []) (fun k => by simp only [easelref07_Same.j0]; rfl) (ev_rSame_l0 0 0 0 0 0 l hl l.length 0 (by omega)))
theorem ev_sameP (N : List (Nat × Nat)) (hl : N.length ≤ 1000000) : Ev (fun k => easellaw07_samePairs.f k (N.map toP) (N.map toRP)) true := by
  unfold easellaw07_samePairs.f
  refine Ev.bind (ev_pairs N hl) ?_
  exact Ev.bind (ev_rSame (N.map toRP) (by rw [List.length_map]; exact hl)) (Ev.now _)
/-! the numbers -/
def inner (p b : Nat) : Nat → List Int
  | 0 => []
  | d + 1 => (if b / 2 ^ (15 - d) % 2 = 1 then [(((p + (15 - d) + 1) % 65536 : Nat) : Int)] else []) ++ inner p b d
def numsF (N : List (Nat × Nat)) : List Int := N.flatMap fun x => (x.1 : Int) :: inner x.1 x.2 16
theorem inner_len (p b : Nat) : ∀ d, (inner p b d).length ≤ d
  | 0 => by simp [inner]
  | d + 1 => by
    have := inner_len p b d
    rw [inner, List.length_append]
    split <;> simp <;> omega
theorem bit16 (b j : Nat) (hb : b < 65536) (hj : j < 16) : (Go.bits .and .u16 (shr .u16 (b : Int) (j : Int)) 1) = ((b / 2 ^ j % 2 : Nat) : Int) := by
  have e : shr .u16 (b : Int) (j : Int) = ((b / 2 ^ j : Nat) : Int) := by
    unfold shr
    rw [Int.toNat_natCast, Nat.min_eq_left (by show j ≤ 16; omega)]
    simp
  have hlt : b / 2 ^ j < 65536 := Nat.lt_of_le_of_lt (Nat.div_le_self _ _) hb
  rw [e, show (1 : Int) = ((1 : Nat) : Int) from rfl, u16_and_nat _ 1 hlt (by decide), Nat.and_one_is_mod]
theorem ev_num1 (l : List S82) (p b : Nat) (i len : Int) (hp : p < 65536) (hb : b < 65536) (v : List Int) : ∀ d, d ≤ 16 → ∀ out : List Int, out.length + d ≤ 1000000 → Ev (fun k => feedback_Numbers.l0 k (out ++ inner p b d) l len (wrap64 (i + 1))) v → Ev (fun k => feedback_Numbers.l1 k out l len i ((16 - d : Nat) : Int) (p : Int) (b : Int)) v
  | 0, hd, out, ho, hv => Ev.step (f := fun k => feedback_Numbers.l0 k out l len (wrap64 (i + 1))) (fun k => by simp only [feedback_Numbers.l1]; rw [if_neg (by omega)]) (by simpa [inner] using hv)
  | d + 1, hd, out, ho, hv => by
    have hj : 16 - (d + 1) = 15 - d := by omega
    have hjn : 15 - d < 16 := by omega
    have hnx : (16 - d : Nat) = 15 - d + 1 := by omega
    rw [hj]
    by_cases hbit : b / 2 ^ (15 - d) % 2 = 1
    · refine Ev.step (f := fun k => feedback_Numbers.l1 k (out ++ [(((p + (15 - d) + 1) % 65536 : Nat) : Int)]) l len i ((16 - d : Nat) : Int) (p : Int) (b : Int)) (fun k => ?_) (ev_num1 l p b i len hp hb v d (by omega) _ (by simp; omega) ?_)
      · simp only [feedback_Numbers.l1]
        have e1 : IntKind.u16.wrap ((IntKind.u16.wrap ((p : Int) + ((15 - d : Nat) : Int))) + 1) = (((p + (15 - d) + 1) % 65536 : Nat) : Int) := by
          show (((p : Int) + ((15 - d : Nat) : Int)) % 65536 + 1) % 65536 = _
          omega
        have e2 : IntKind.u16.wrap (((15 - d : Nat) : Int) + 1) = ((16 - d : Nat) : Int) := by
          rw [hnx]
          exact IntWalk.u16_in _ (by omega)
        rw [if_pos (by omega), if_pos (by omega), bit16 b _ hb hjn, hbit, if_pos (by rfl), if_pos (by omega), e1, e2]
      · have hv' := hv
        rw [inner, if_pos hbit, ← List.append_assoc] at hv'
        exact hv'
    · refine Ev.step (f := fun k => feedback_Numbers.l1 k out l len i ((16 - d : Nat) : Int) (p : Int) (b : Int)) (fun k => ?_) (ev_num1 l p b i len hp hb v d (by omega) _ (by omega) ?_)
      · simp only [feedback_Numbers.l1]
        have e2 : IntKind.u16.wrap (((15 - d : Nat) : Int) + 1) = ((16 - d : Nat) : Int) := by
          rw [hnx]
          exact IntWalk.u16_in _ (by omega)
        rw [if_pos (by omega), if_pos (by omega), bit16 b _ hb hjn, if_neg (by omega), e2]
      · have hv' := hv
        rw [inner, if_neg hbit, List.nil_append] at hv'
        exact hv'
theorem numsF_drop {N : List (Nat × Nat)} {i : Nat} (hi : i < N.length) : numsF (N.drop i) = ((N[i].1 : Int) :: inner N[i].1 N[i].2 16) ++ numsF (N.drop (i + 1)) := by
  rw [List.drop_eq_getElem_cons hi]
  rfl
theorem ev_num0 (N : List (Nat × Nat)) (h16 : P16 N) (hl : N.length ≤ 1000) : ∀ d i, i + d = N.length → ∀ out : List Int, out.length ≤ 17 * i → Ev (fun k => feedback_Numbers.l0 k out (N.map toP) (N.length : Int) (i : Int)) (out ++ numsF (N.drop i))
  | 0, i, h, out, ho => Ev.step (f := fun _ => some out) (fun k => by simp only [feedback_Numbers.l0]; rw [if_neg (by omega)]) (by
      rw [List.drop_of_length_le (by omega)]
      simp only [numsF, List.flatMap_nil, List.append_nil]
      exact Ev.now _)
  | d + 1, i, h, out, ho => by
    have hi : i < N.length := by omega
    have hx := h16 _ (List.getElem_mem hi)
    have hil := inner_len N[i].1 N[i].2 16
    have ih := ev_num0 N h16 hl d (i + 1) (by omega) (out ++ [(N[i].1 : Int)] ++ inner N[i].1 N[i].2 16) (by simp; omega)
    refine Ev.step (f := fun k => feedback_Numbers.l1 k (out ++ [(N[i].1 : Int)]) (N.map toP) (N.length : Int) (i : Int) ((16 - 16 : Nat) : Int) (N[i].1 : Int) (N[i].2 : Int)) (fun k => ?_) (ev_num1 _ _ _ _ _ hx.1 hx.2 _ 16 (by omega) (out ++ [(N[i].1 : Int)]) (by simp; omega) ?_)
    · simp only [feedback_Numbers.l0]
      rw [if_pos (by omega), if_pos (by omega), if_pos (by rw [List.length_map]; omega), if_pos (by omega), rdP hi]
      rfl
    · rw [wrap_succ i (by omega), numsF_drop hi]
      simpa [List.append_assoc] using ih
theorem ev_nums (N : List (Nat × Nat)) (h16 : P16 N) (hl : N.length ≤ 1000) : Ev (fun k => feedback_Numbers.f k (N.map toP)) (numsF N) := by
  unfold feedback_Numbers.f
  rw [List.length_map]
  exact ev_num0 N h16 hl N.length 0 (by omega) [] (by simp)
/-! the reference's numbers -/
theorem pow_w (j : Nat) (hj : j ≤ 16) : wrap64 (((2 ^ j : Nat) : Int) * 2) = ((2 ^ (j + 1) : Nat) : Int) := by
  have h : 2 ^ j ≤ 2 ^ 16 := Nat.pow_le_pow_right (by decide) hj
  rw [Nat.pow_succ]
  generalize 2 ^ j = x at *
  rw [IntWalk.wrap64_in _ (by omega)]
  omega
theorem quo_w (b j : Nat) (hb : b < 65536) : Int.tmod (wrap64 (Int.tdiv (wrap64 (b : Int)) ((2 ^ j : Nat) : Int))) 2 = ((b / 2 ^ j % 2 : Nat) : Int) := by
  have hle : b / 2 ^ j ≤ b := Nat.div_le_self _ _
  rw [wrap_nat b (by omega), ← Int.ofNat_tdiv]
  generalize b / 2 ^ j = y at *
  rw [IntWalk.wrap64_in (y : Int) (by omega), show (2 : Int) = ((2 : Nat) : Int) from rfl, ← Int.ofNat_tmod]
theorem rnum_step (N : List (Nat × Nat)) (i : Nat) (hi : i < N.length) (k : Nat) (out : List Int) (x y : Int) (hx : ¬ x = 0) (hy : y ≤ 16) : easelref07_Numbers.l1 (k + 1) (N.map toRP) out (i : Int) x y =
    (if (Int.tmod (wrap64 (Int.tdiv (wrap64 (N[i].2 : Int)) x)) 2) = 1 then (if out.length < 70368744177664 then (easelref07_Numbers.l1 k (N.map toRP) (out ++ [IntKind.u16.wrap (Int.tmod (wrap64 ((wrap64 (N[i].1 : Int)) + y)) 65536)]) (i : Int) (wrap64 (x * 2)) (wrap64 (y + 1))) else (none)) else (easelref07_Numbers.l1 k (N.map toRP) out (i : Int) (wrap64 (x * 2)) (wrap64 (y + 1)))) := by
  simp only [easelref07_Numbers.l1]
  rw [if_pos hy, if_pos (by omega), if_pos (by rw [List.length_map]; omega), if_neg hx, rdRP hi]
  rfl
theorem rnum_add (p j : Nat) (hp : p < 65536) (hj : j ≤ 15) : IntKind.u16.wrap (Int.tmod (wrap64 ((wrap64 (p : Int)) + ((j + 1 : Nat) : Int))) 65536) = (((p + j + 1) % 65536 : Nat) : Int) := by
  rw [wrap_nat _ (by omega), IntWalk.wrap64_in _ (by omega), Int.tmod_eq_emod_of_nonneg (by omega)]
  show _ % 65536 = _
  omega
theorem len_snoc {out : List Int} {x : Int} {d : Nat} (h : out.length + (d + 1) ≤ 1000000) : (out ++ [x]).length + d ≤ 1000000 := by
  have e : (out ++ [x]).length = out.length + 1 := by simp
  omega
theorem ev_rnum1 (N : List (Nat × Nat)) (i : Nat) (hi : i < N.length) (hil : i ≤ 1000) (P B : Nat) (hP : N[i].1 = P) (hB : N[i].2 = B) (hp : P < 65536) (hb : B < 65536) (v : List Int) (d : Nat) : ∀ j, j + d = 16 → ∀ out : List Int, out.length + d ≤ 1000000 → Ev (fun k => easelref07_Numbers.l0 k (N.map toRP) (out ++ inner P B d) ((i + 1 : Nat) : Int)) v → Ev (fun k => easelref07_Numbers.l1 k (N.map toRP) out (i : Int) ((2 ^ j : Nat) : Int) ((j + 1 : Nat) : Int)) v := by
  induction d with
  | zero =>
    intro j hj out ho hv
    refine Ev.step (f := fun k => easelref07_Numbers.l0 k (N.map toRP) out ((i + 1 : Nat) : Int)) (fun k => ?_) (by simpa [inner] using hv)
    simp only [easelref07_Numbers.l1]
    rw [if_neg (by omega), wrap_succ i (by omega)]
  | succ d ih =>
    intro j hj out ho hv
    have hj15 : j ≤ 15 := by omega
    have hy : ((j + 1 : Nat) : Int) ≤ 16 := by omega
    have k1 : j + 1 + d = 16 := by omega
    have k2 : out.length < 70368744177664 := by omega
    have k3 : out.length + d ≤ 1000000 := by omega
    have k4 : j + 1 ≤ 1000000000 := by omega
    have k5 : j ≤ 16 := by omega
    rw [inner, show 15 - d = j from by omega] at hv
    have hpos : ¬ (((2 ^ j : Nat) : Int) = 0) := by
      have := Nat.two_pow_pos j
      omega
    have hst := fun k => rnum_step N i hi k out ((2 ^ j : Nat) : Int) ((j + 1 : Nat) : Int) hpos hy
    rw [hP, hB] at hst
    by_cases hbit : B / 2 ^ j % 2 = 1
    · rw [if_pos hbit, ← List.append_assoc] at hv
      refine Ev.step (fun k => ?_) (ih (j + 1) k1 (out ++ [(((P + j + 1) % 65536 : Nat) : Int)]) (len_snoc ho) hv)
      rw [hst k, quo_w B j hb, hbit, if_pos (by rfl), if_pos k2, rnum_add P j hp hj15, pow_w j k5, wrap_succ _ k4]
    · rw [if_neg hbit, List.nil_append] at hv
      have hb2 : ¬ (((B / 2 ^ j % 2 : Nat) : Int) = 1) := by omega
      refine Ev.step (fun k => ?_) (ih (j + 1) k1 out k3 hv)
      rw [hst k, quo_w B j hb, if_neg hb2, pow_w j k5, wrap_succ _ k4]
theorem ev_rnum0 (N : List (Nat × Nat)) (h16 : P16 N) (hl : N.length ≤ 1000) : ∀ d i, i + d = N.length → ∀ out : List Int, out.length ≤ 17 * i → Ev (fun k => easelref07_Numbers.l0 k (N.map toRP) out (i : Int)) (out ++ numsF (N.drop i))
  | 0, i, h, out, ho => Ev.step (f := fun _ => some out) (fun k => by simp only [easelref07_Numbers.l0]; rw [if_neg (by rw [List.length_map]; omega)]) (by
      rw [List.drop_of_length_le (by omega)]
      simp only [numsF, List.flatMap_nil, List.append_nil]
      exact Ev.now _)
  | d + 1, i, h, out, ho => by
    have hi : i < N.length := by omega
    have hx := h16 _ (List.getElem_mem hi)
    have hil := inner_len N[i].1 N[i].2 16
    have ih := ev_rnum0 N h16 hl d (i + 1) (by omega) (out ++ [(N[i].1 : Int)] ++ inner N[i].1 N[i].2 16) (by simp; omega)
    refine Ev.step (f := fun k => easelref07_Numbers.l1 k (N.map toRP) (out ++ [(N[i].1 : Int)]) (i : Int) ((2 ^ 0 : Nat) : Int) ((0 + 1 : Nat) : Int)) (fun k => ?_) (ev_rnum1 N i hi (by omega) _ _ rfl rfl hx.1 hx.2 _ 16 0 (by omega) (out ++ [(N[i].1 : Int)]) (by simp; omega) ?_)
    · simp only [easelref07_Numbers.l0]
      rw [if_pos (by rw [List.length_map]; omega), if_pos (by omega), if_pos (by omega), rdRP hi]
      rfl
    · rw [numsF_drop hi]
      simpa [List.append_assoc] using ih
theorem ev_rnums (N : List (Nat × Nat)) (h16 : P16 N) (hl : N.length ≤ 1000) : Ev (fun k => easelref07_Numbers.f k (N.map toRP)) (numsF N) := by
  unfold easelref07_Numbers.f
  exact ev_rnum0 N h16 hl N.length 0 (by omega) [] (by simp)
/-! rates -/
theorem bl_ge {r : Nat} (h : 262144 ≤ r) (hr : r < 2 ^ 64) : 19 ≤ Lib.bitLen r := by
  rw [Lib.bitLen_shift 18 r h hr]
  have hq : 1 ≤ r / 2 ^ 18 := by
    rw [Nat.le_div_iff_mul_le (by decide)]
    omega
  have := Lib.bitLen_half (r / 2 ^ 18) (by omega) (Nat.lt_of_le_of_lt (Nat.div_le_self _ _) hr)
  omega
theorem bl_up {r : Nat} (hr : r < 2 ^ 64) : r < 2 ^ Lib.bitLen r := by
  by_cases h : r = 0
  · subst h
    exact Nat.two_pow_pos _
  · exact (Lib.bitLenAux_bounds 64 r hr h).2.2
theorem rate_lt {r : Nat} (hr : r < 2 ^ 64) : r / 2 ^ (Lib.bitLen r - 18) < 4294967296 := by
  have h := bl_up hr
  rw [Nat.div_lt_iff_lt_mul (Nat.two_pow_pos _)]
  have : Lib.bitLen r ≤ 18 + (Lib.bitLen r - 18) := by omega
  have h2 := Nat.pow_le_pow_right (n := 2) (by decide) this
  rw [Nat.pow_add] at h2
  have h3 : 2 ^ 18 * 2 ^ (Lib.bitLen r - 18) ≤ 4294967296 * 2 ^ (Lib.bitLen r - 18) := Nat.mul_le_mul_right _ (by decide)
  omega
theorem ofRate_val (r : Nat) (hr : r < 2 ^ 64) : feedback_OfRate.f (r : Int) = some (((Lib.bitLen r - 18 : Nat) : Int), ((r / 2 ^ (Lib.bitLen r - 18) : Nat) : Int)) := by
  have hb := Lib.bitLen_le r 64 (by omega) hr
  have hlt := rate_lt hr
  have hr' : r < 18446744073709551616 := hr
  unfold feedback_OfRate.f bits_Len64.f
  rw [if_pos ⟨by omega, by omega⟩, Option.bind_some, Int.toNat_natCast]
  generalize Lib.bitLen r = L at *
  have e1 : mx 0 (wrap64 ((L : Int) - 18)) = ((L - 18 : Nat) : Int) := by
    rw [IntWalk.wrap64_in _ (by omega)]
    unfold mx
    split <;> omega
  have e2 : shr .u64 (r : Int) ((L - 18 : Nat) : Int) = ((r / 2 ^ (L - 18) : Nat) : Int) := by
    unfold shr
    rw [Int.toNat_natCast, Nat.min_eq_left (by show L - 18 ≤ 64; omega)]
    simp
  rw [e1, e2]
  generalize r / 2 ^ (L - 18) = q at *
  rw [Option.some.injEq, Prod.mk.injEq]
  omega
theorem ev_rRate : ∀ d r x : Nat, r < 2 ^ 64 → Lib.bitLen r ≤ 18 + d → x + d < 256 → Ev (fun k => easelref07_OfRate.l0 k (r : Int) (x : Int)) (((x + (Lib.bitLen r - 18) : Nat) : Int), ((r / 2 ^ (Lib.bitLen r - 18) : Nat) : Int))
  | d, r, x, hr, hb, hx => by
    have hr' : r < 18446744073709551616 := hr
    by_cases h : 262144 ≤ r
    · have hge := bl_ge h hr
      have hh := Lib.bitLen_half r (by omega) hr
      rcases d with _ | d
      · omega
      · have ih := ev_rRate d (r / 2) (x + 1) (Nat.lt_of_le_of_lt (Nat.div_le_self _ _) hr) (by omega) (by omega)
        have e1 : x + 1 + (Lib.bitLen (r / 2) - 18) = x + (Lib.bitLen r - 18) := by omega
        have e2 : r / 2 / 2 ^ (Lib.bitLen (r / 2) - 18) = r / 2 ^ (Lib.bitLen r - 18) := by
          rw [Nat.div_div_eq_div_mul, show Lib.bitLen r - 18 = (Lib.bitLen (r / 2) - 18) + 1 from by omega, Nat.pow_succ, Nat.mul_comm 2]
        rw [e1, e2] at ih
        refine Ev.step (fun k => ?_) ih
        simp only [easelref07_OfRate.l0]
        have e3 : IntKind.u64.wrap (Int.tdiv (r : Int) 2) = ((r / 2 : Nat) : Int) := by
          rw [show (2 : Int) = ((2 : Nat) : Int) from rfl, ← Int.ofNat_tdiv]
          exact IntWalk.u64_in _ (by omega)
        have e4 : ((x : Int) + 1) % 256 = ((x + 1 : Nat) : Int) := by omega
        rw [if_pos (by omega), e3, e4]
    · have h18 : Lib.bitLen r ≤ 18 := Lib.bitLen_le r 18 (by omega) (by omega)
      have e0 : Lib.bitLen r - 18 = 0 := by omega
      rw [e0]
      refine Ev.step (f := fun _ => some ((x : Int), (r : Int))) (fun k => ?_) (by simpa using Ev.now ((x : Int), (r : Int)))
      simp only [easelref07_OfRate.l0]
      rw [if_neg (by omega), Option.some.injEq, Prod.mk.injEq]
      omega
theorem ev_rOfRate (r : Nat) (hr : r < 2 ^ 64) : Ev (fun k => easelref07_OfRate.f k (r : Int)) (((Lib.bitLen r - 18 : Nat) : Int), ((r / 2 ^ (Lib.bitLen r - 18) : Nat) : Int)) := by
  have hb := Lib.bitLen_le r 64 (by omega) hr
  have := ev_rRate 46 r 0 hr (by omega) (by omega)
  rw [Nat.zero_add] at this
  exact this
theorem numsF_len {N : List (Nat × Nat)} (h : N.length ≤ 100) : (numsF N).length ≤ 1000000 := by
  have key : ∀ M : List (Nat × Nat), (numsF M).length ≤ 17 * M.length := by
    intro M
    induction M with
    | nil => simp [numsF]
    | cons x M ih =>
      have := inner_len x.1 x.2 16
      simp only [numsF, List.flatMap_cons, List.length_append, List.length_cons] at ih ⊢
      omega
  have := key N
  omega
theorem pairsF_16 {ns : List Nat} (h : ∀ x ∈ ns, x < 65536) : P16 (pairsF ns) ∧ (pairsF ns).length ≤ ns.length := by
  have h1 := pairs_16 h ns.length
  have h2 := pairs_len ns ns.length
  rw [List.take_length] at h1 h2
  exact ⟨h1, h2⟩
/-- FeedbackNumbers comes to true. -/
theorem Numbers_ev {l : List S82} {n : List Int} {r : Nat} (hop : Ok2 l) (hn : OkN 65536 n) (hr : r < 2 ^ 64) : Ev (fun k => easellaw07_FeedbackNumbers.f k l n (r : Int)) true := by
  have hw : ∀ k, easellaw07_FeedbackNumbers.j0 (k + 1) l n (r : Int) true = some true := fun k => by
    simp only [easellaw07_FeedbackNumbers.j0]
    rw [if_pos trivial]
    rfl
  unfold easellaw07_FeedbackNumbers.f
  by_cases h0 : l.length ≤ 100
  · by_cases h1 : n.length ≤ 100
    · refine Ev.congr (f := fun k => easellaw07_FeedbackNumbers.j0 k l n (r : Int) false) (fun k => by rw [if_neg (by omega), decide_eq_false (by omega)]) ?_
      obtain ⟨N, rfl⟩ : ∃ N : List (Nat × Nat), l = N.map toP := ⟨l.map ofP, (toP_ofP hop).symm⟩
      have h16 : P16 N := fun q hq => by
        have := hop (toP q) (List.mem_map_of_mem hq)
        simp only [toP] at this
        omega
      rw [List.length_map] at h0
      have hnb := nb_lt (B := 65536) hn
      obtain ⟨p16, plen⟩ := pairsF_16 hnb
      rw [nb_length] at plen
      have hv := ofRate_val r hr
      generalize hx : ((Lib.bitLen r - 18 : Nat) : Int) = xa at hv
      generalize hy : ((r / 2 ^ (Lib.bitLen r - 18) : Nat) : Int) = xb at hv
      have hrv := ev_rOfRate r hr
      rw [hx, hy] at hrv
      refine Ev.step (f := fun k => (easellaw07_pairs.f k (N.map toP)).bind fun t139 => (if ([] : List Int).length + n.length < 70368744177664 then ((some (([] : List Int) ++ n : List Int)).bind fun y142 => ((feedback_OfRate.f (r : Int)).bind fun bt145 => ((easelref07_OfRate.f k (r : Int)).bind fun bt147 => ((feedback_Numbers.f k (N.map toP)).bind fun t149 => ((easelref07_Numbers.f k t139).bind fun t152 => ((easellaw07_sameNumbers.f k t149 t152).bind fun t155 => (if t155 = true then ((fb_Pairs.f n).bind fun t156 => ((r7_Pairs.f y142).bind fun t159 => ((easellaw07_samePairs.f k t156 t159).bind fun t162 => (if t162 = true then ((easellaw07_sameNumbers.f k n y142).bind fun t163 => (if t163 = true then ((easellaw07_samePairs.f k (N.map toP) t139).bind fun t164 => (if t164 = true then (if bt145.1 = bt147.1 then (if bt145.2 = bt147.2 then ((l7_works.f).bind fun t165 => (some t165)) else (some false)) else (some false)) else (some false))) else (some false))) else (some false))))) else (some false)))))))) else (none))) (fun k => by rw [easellaw07_FeedbackNumbers.j0, if_neg (by decide)]) ?_
      refine Ev.bind (ev_pairs N (by omega)) ?_
      have hlen : ([] : List Int).length + n.length < 70368744177664 := by simp; omega
      have hfp : fb_Pairs.f n = some ((pairsF (nb n)).map toP) := by unfold fb_Pairs.f; rw [if_pos ⟨hn, by omega⟩]
      have hrp : r7_Pairs.f n = some ((pairsF (nb n)).map toRP) := by unfold r7_Pairs.f; rw [if_pos ⟨hn, by omega⟩]
      refine Ev.congr (f := fun k => (easelref07_OfRate.f k (r : Int)).bind fun bt147 => ((feedback_Numbers.f k (N.map toP)).bind fun t149 => ((easelref07_Numbers.f k (N.map toRP)).bind fun t152 => ((easellaw07_sameNumbers.f k t149 t152).bind fun t155 => (if t155 = true then ((fb_Pairs.f n).bind fun t156 => ((r7_Pairs.f n).bind fun t159 => ((easellaw07_samePairs.f k t156 t159).bind fun t162 => (if t162 = true then ((easellaw07_sameNumbers.f k n n).bind fun t163 => (if t163 = true then ((easellaw07_samePairs.f k (N.map toP) (N.map toRP)).bind fun t164 => (if t164 = true then (if xa = bt147.1 then (if xb = bt147.2 then ((l7_works.f).bind fun t165 => (some t165)) else (some false)) else (some false)) else (some false))) else (some false))) else (some false))))) else (some false))))))
        (fun k => by rw [if_pos hlen, Option.bind_some, hv, Option.bind_some]; rfl) ?_
      refine Ev.bind hrv ?_
      refine Ev.bind (ev_nums N h16 (by omega)) ?_
      refine Ev.bind (ev_rnums N h16 (by omega)) ?_
      refine Ev.bind (ev_sameN (numsF N) (numsF_len h0)) ?_
      rw [hfp, hrp]
      simp only [if_true, Option.bind_some]
      refine Ev.bind (ev_sameP _ (by omega)) ?_
      simp only [if_true]
      refine Ev.bind (ev_sameN n (by omega)) ?_
      simp only [if_true]
      refine Ev.bind (ev_sameP N (by omega)) ?_
      exact Ev.now _
    · exact Ev.congr (f := fun k => easellaw07_FeedbackNumbers.j0 k l n (r : Int) true) (fun k => by rw [if_neg (by omega), decide_eq_true (by omega)]) (Ev.step (f := fun _ => some true) hw (Ev.now _))
  · exact Ev.congr (f := fun k => easellaw07_FeedbackNumbers.j0 k l n (r : Int) true) (fun k => by rw [if_pos (by omega)]) (Ev.step (f := fun _ => some true) hw (Ev.now _))
end Go.Proofs.Ytjcejgolcdgipaa.K7
