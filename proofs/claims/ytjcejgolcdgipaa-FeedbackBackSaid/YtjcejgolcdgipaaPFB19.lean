/- Texts of this session, one behind the other, what the row does not use left out: walks and laws over plain data. -/
import Derived.Test.YtjcejgolcdgipaaPFB18
import Derived.Lib.ItoaNum
import Derived.Test.YtjcejgolcdgipaaPFB5
import Derived.Test.YtjcejgolcdgipaaPFB14
import Derived.Test.YtjcejgolcdgipaaPFB15
import Derived.Test.YtjcejgolcdgipaaPFB16
import Derived.Test.YtjcejgolcdgipaaPFB7

namespace Go.Proofs.Ytjcejgolcdgipaa.K7
open Go.RowKit Go.Proofs.YtjcejgolcdgipaaW.PrintWords Go.Proofs.YtjcejgolcdgipaaW.PrintLast Go.Proofs.YtjcejgolcdgipaaW.PrintMore
set_option linter.unusedVariables false

theorem wrap_succ (i : Nat) (h : i ≤ 1000000000) : wrap64 ((i : Int) + 1) = ((i + 1 : Nat) : Int) := by
  unfold wrap64; omega
section
variable {N : List (Nat × Nat)} {i : Nat}
theorem rdP (h : i < N.length) : rd_T82 (N.map toP) (i : Int) = toP N[i] := by
  unfold rd_T82
  simp [h]
end
def inner (p b : Nat) : Nat → List Int
  | 0 => []
  | d + 1 => (if b / 2 ^ (15 - d) % 2 = 1 then [(((p + (15 - d) + 1) % 65536 : Nat) : Int)] else []) ++ inner p b d
def numsF (N : List (Nat × Nat)) : List Int := N.flatMap fun x => (x.1 : Int) :: inner x.1 x.2 16
theorem inner_len (p b : Nat) : ∀ d, (inner p b d).length ≤ d
  | 0 => by simp [inner]
  | d + 1 => by
    have := inner_len p b d
    rw [inner, List.length_append]
    split <;> simp <;> omega
theorem bit16 (b j : Nat) (hb : b < 65536) (hj : j < 16) : (Go.bits .and .u16 (shr .u16 (b : Int) (j : Int)) 1) = ((b / 2 ^ j % 2 : Nat) : Int) := by
  have e : shr .u16 (b : Int) (j : Int) = ((b / 2 ^ j : Nat) : Int) := by
    unfold shr
    rw [Int.toNat_natCast, Nat.min_eq_left (by show j ≤ 16; omega)]
    simp
  have hlt : b / 2 ^ j < 65536 := Nat.lt_of_le_of_lt (Nat.div_le_self _ _) hb
  rw [e, show (1 : Int) = ((1 : Nat) : Int) from rfl, u16_and_nat _ 1 hlt (by decide), Nat.and_one_is_mod]
theorem ev_num1 (l : List S82) (p b : Nat) (i len : Int) (hp : p < 65536) (hb : b < 65536) (v : List Int) : ∀ d, d ≤ 16 → ∀ out : List Int, out.length + d ≤ 1000000 → Ev (fun k => feedback_Numbers.l0 k (out ++ inner p b d) l len (wrap64 (i + 1))) v → Ev (fun k => feedback_Numbers.l1 k out l len i ((16 - d : Nat) : Int) (p : Int) (b : Int)) v
  | 0, hd, out, ho, hv => Ev.step (f := fun k => feedback_Numbers.l0 k out l len (wrap64 (i + 1))) (fun k => by simp only [feedback_Numbers.l1]; rw [if_neg (by omega)]) (by simpa [inner] using hv)
  | d + 1, hd, out, ho, hv => by
    have hj : 16 - (d + 1) = 15 - d := by omega
    have hjn : 15 - d < 16 := by omega
    have hnx : (16 - d : Nat) = 15 - d + 1 := by omega
    rw [hj]
    by_cases hbit : b / 2 ^ (15 - d) % 2 = 1
    · refine Ev.step (f := fun k => feedback_Numbers.l1 k (out ++ [(((p + (15 - d) + 1) % 65536 : Nat) : Int)]) l len i ((16 - d : Nat) : Int) (p : Int) (b : Int)) (fun k => ?_) (ev_num1 l p b i len hp hb v d (by omega) _ (by simp; omega) ?_)
      · simp only [feedback_Numbers.l1]
        have e1 : IntKind.u16.wrap ((IntKind.u16.wrap ((p : Int) + ((15 - d : Nat) : Int))) + 1) = (((p + (15 - d) + 1) % 65536 : Nat) : Int) := by
          show (((p : Int) + ((15 - d : Nat) : Int)) % 65536 + 1) % 65536 = _
          omega
        have e2 : IntKind.u16.wrap (((15 - d : Nat) : Int) + 1) = ((16 - d : Nat) : Int) := by
          rw [hnx]
          exact IntWalk.u16_in _ (by omega)
        rw [if_pos (by omega), if_pos (by omega), bit16 b _ hb hjn, hbit, if_pos (by rfl), if_pos (by omega), e1, e2]
      · have hv' := hv
        rw [inner, if_pos hbit, ← List.append_assoc] at hv'
        exact hv'
    · refine Ev.step (f := fun k => feedback_Numbers.l1 k out l len i ((16 - d : Nat) : Int) (p : Int) (b : Int)) (fun k => ?_) (ev_num1 l p b i len hp hb v d (by omega) _ (by omega) ?_)
      · simp only [feedback_Numbers.l1]
        have e2 : IntKind.u16.wrap (((15 - d : Nat) : Int) + 1) = ((16 - d : Nat) : Int) := by
          rw [hnx]
          exact IntWalk.u16_in _ (by omega)
        rw [if_pos (by omega), if_pos (by omega), bit16 b _ hb hjn, if_neg (by omega), e2]
      · have hv' := hv
        rw [inner, if_neg hbit, List.nil_append] at hv'
        exact hv'
theorem numsF_drop {N : List (Nat × Nat)} {i : Nat} (hi : i < N.length) : numsF (N.drop i) = ((N[i].1 : Int) :: inner N[i].1 N[i].2 16) ++ numsF (N.drop (i + 1)) := by
  rw [List.drop_eq_getElem_cons hi]
  rfl
theorem ev_num0 (N : List (Nat × Nat)) (h16 : P16 N) (hl : N.length ≤ 1000) : ∀ d i, i + d = N.length → ∀ out : List Int, out.length ≤ 17 * i → Ev (fun k => feedback_Numbers.l0 k out (N.map toP) (N.length : Int) (i : Int)) (out ++ numsF (N.drop i))
  | 0, i, h, out, ho => Ev.step (f := fun _ => some out) (fun k => by simp only [feedback_Numbers.l0]; rw [if_neg (by omega)]) (by
      rw [List.drop_of_length_le (by omega)]
      simp only [numsF, List.flatMap_nil, List.append_nil]
      exact Ev.now _)
  | d + 1, i, h, out, ho => by
    have hi : i < N.length := by omega
    have hx := h16 _ (List.getElem_mem hi)
    have hil := inner_len N[i].1 N[i].2 16
    have ih := ev_num0 N h16 hl d (i + 1) (by omega) (out ++ [(N[i].1 : Int)] ++ inner N[i].1 N[i].2 16) (by simp; omega)
    refine Ev.step (f := fun k => feedback_Numbers.l1 k (out ++ [(N[i].1 : Int)]) (N.map toP) (N.length : Int) (i : Int) ((16 - 16 : Nat) : Int) (N[i].1 : Int) (N[i].2 : Int)) (fun k => ?_) (ev_num1 _ _ _ _ _ hx.1 hx.2 _ 16 (by omega) (out ++ [(N[i].1 : Int)]) (by simp; omega) ?_)
    · simp only [feedback_Numbers.l0]
      rw [if_pos (by omega), if_pos (by omega), if_pos (by rw [List.length_map]; omega), if_pos (by omega), rdP hi]
      rfl
    · rw [wrap_succ i (by omega), numsF_drop hi]
      simpa [List.append_assoc] using ih
theorem ev_nums (N : List (Nat × Nat)) (h16 : P16 N) (hl : N.length ≤ 1000) : Ev (fun k => feedback_Numbers.f k (N.map toP)) (numsF N) := by
  unfold feedback_Numbers.f
  rw [List.length_map]
  exact ev_num0 N h16 hl N.length 0 (by omega) [] (by simp)
theorem bl_up {r : Nat} (hr : r < 2 ^ 64) : r < 2 ^ Lib.bitLen r := by
  by_cases h : r = 0
  · subst h
    exact Nat.two_pow_pos _
  · exact (Lib.bitLenAux_bounds 64 r hr h).2.2
theorem rate_lt {r : Nat} (hr : r < 2 ^ 64) : r / 2 ^ (Lib.bitLen r - 18) < 4294967296 := by
  have h := bl_up hr
  rw [Nat.div_lt_iff_lt_mul (Nat.two_pow_pos _)]
  have : Lib.bitLen r ≤ 18 + (Lib.bitLen r - 18) := by omega
  have h2 := Nat.pow_le_pow_right (n := 2) (by decide) this
  rw [Nat.pow_add] at h2
  have h3 : 2 ^ 18 * 2 ^ (Lib.bitLen r - 18) ≤ 4294967296 * 2 ^ (Lib.bitLen r - 18) := Nat.mul_le_mul_right _ (by decide)
  omega
theorem ofRate_val (r : Nat) (hr : r < 2 ^ 64) : feedback_OfRate.f (r : Int) = some (((Lib.bitLen r - 18 : Nat) : Int), ((r / 2 ^ (Lib.bitLen r - 18) : Nat) : Int)) := by
  have hb := Lib.bitLen_le r 64 (by omega) hr
  have hlt := rate_lt hr
  have hr' : r < 18446744073709551616 := hr
  unfold feedback_OfRate.f bits_Len64.f
  rw [if_pos ⟨by omega, by omega⟩, Option.bind_some, Int.toNat_natCast]
  generalize Lib.bitLen r = L at *
  have e1 : mx 0 (wrap64 ((L : Int) - 18)) = ((L - 18 : Nat) : Int) := by
    rw [IntWalk.wrap64_in _ (by omega)]
    unfold mx
    split <;> omega
  have e2 : shr .u64 (r : Int) ((L - 18 : Nat) : Int) = ((r / 2 ^ (L - 18) : Nat) : Int) := by
    unfold shr
    rw [Int.toNat_natCast, Nat.min_eq_left (by show L - 18 ≤ 64; omega)]
    simp
  rw [e1, e2]
  generalize r / 2 ^ (L - 18) = q at *
  rw [Option.some.injEq, Prod.mk.injEq]
  omega
theorem numsF_len {N : List (Nat × Nat)} (h : N.length ≤ 100) : (numsF N).length ≤ 1000000 := by
  have key : ∀ M : List (Nat × Nat), (numsF M).length ≤ 17 * M.length := by
    intro M
    induction M with
    | nil => simp [numsF]
    | cons x M ih =>
      have := inner_len x.1 x.2 16
      simp only [numsF, List.flatMap_cons, List.length_append, List.length_cons] at ih ⊢
      omega
  have := key N
  omega
theorem pairsF_16 {ns : List Nat} (h : ∀ x ∈ ns, x < 65536) : P16 (pairsF ns) ∧ (pairsF ns).length ≤ ns.length := by
  have h1 := pairs_16 h ns.length
  have h2 := pairs_len ns ns.length
  rw [List.take_length] at h1 h2
  exact ⟨h1, h2⟩
end Go.Proofs.Ytjcejgolcdgipaa.K7
