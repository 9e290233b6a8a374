/- Texts of this session, one behind the other, what the row does not use left out: walks and laws over plain data. -/
import Derived.Test.YtjcejgolcdgipaaPFB21
import Derived.Test.YtjcejgolcdgipaaPFB5
import Derived.Test.YtjcejgolcdgipaaPFB7
import Derived.Lib.ItoaNum
import Derived.Test.YtjcejgolcdgipaaPFB18
import Derived.Test.YtjcejgolcdgipaaPFB19
import Derived.Test.YtjcejgolcdgipaaPFB20

namespace Go.Proofs.Ytjcejgolcdgipaa.K7
open Go.RowKit Go.Proofs.YtjcejgolcdgipaaW.PrintWords Go.Proofs.YtjcejgolcdgipaaW.PrintLast Go.Proofs.YtjcejgolcdgipaaW.PrintMore
set_option linter.unusedVariables false
set_option linter.unusedSimpArgs false

def rateV (e m : Nat) : Nat := if m * 2 ^ e < 18446744073709551616 then m * 2 ^ e else 18446744073709551615
theorem fb_rate (s sd md : Int) (P : List S82) (O : List S134) (e m : Nat) (S : List Int) (he : e < 256) (hm : m < 4294967296) : feedback_Message_Rate.f s sd md P O (e : Int) (m : Int) S = some ((rateV e m : Nat) : Int) := by
  unfold feedback_Message_Rate.f
  rw [u64_nat m (by omega)]
  by_cases h0 : m = 0
  · subst h0
    rw [if_pos (by simp)]
    unfold rateV
    simp
  · rw [if_neg (by omega)]
    have hb := Lib.bitLenAux_bounds 64 m (by omega) h0
    have hle := Lib.bitLen_le m 64 (by omega) (by omega)
    have hLdef : Lib.bitLen m = Lib.bitLenAux 64 m := rfl
    rw [← hLdef] at hb
    unfold bits_LeadingZeros64.f bits_Len64.f
    rw [if_pos (by omega), Int.toNat_natCast, Option.bind_some, Option.bind_some]
    generalize Lib.bitLen m = L at *
    obtain ⟨b1, b2, b3⟩ := hb
    have w1 : wrap64 (64 - (L : Int)) = 64 - (L : Int) := by unfold wrap64; omega
    have w2 : wrap64 (e : Int) = (e : Int) := by unfold wrap64; omega
    rw [w1, w2]
    by_cases hgt : (e : Int) > 64 - (L : Int)
    · rw [if_pos hgt]
      have h2 : ¬ m * 2 ^ e < 18446744073709551616 := by
        have h3 : 2 ^ (L - 1) * 2 ^ e ≤ m * 2 ^ e := Nat.mul_le_mul_right _ b2
        rw [← Nat.pow_add] at h3
        have h4 : 2 ^ 64 ≤ 2 ^ (L - 1 + e) := Nat.pow_le_pow_right (by decide) (by omega)
        have h5 : 2 ^ 64 = 18446744073709551616 := rfl
        omega
      unfold rateV
      rw [if_neg h2]
      rfl
    · rw [if_neg hgt, if_pos (by omega)]
      have h2 : m * 2 ^ e < 18446744073709551616 := by
        have h3 : m * 2 ^ e < 2 ^ L * 2 ^ e := Nat.mul_lt_mul_of_pos_right b3 (Nat.two_pow_pos _)
        rw [← Nat.pow_add] at h3
        have h4 : 2 ^ (L + e) ≤ 2 ^ 64 := Nat.pow_le_pow_right (by decide) (by omega)
        have h5 : 2 ^ 64 = 18446744073709551616 := rfl
        omega
      unfold rateV
      rw [if_pos h2]
      congr 1
      unfold shl
      have hm2 : min ((e : Int)).toNat IntKind.u64.bits = e := by
        rw [Int.toNat_natCast]
        show min e 64 = e
        omega
      have hc : (m : Int) * 2 ^ e = ((m * 2 ^ e : Nat) : Int) := by rw [Int.natCast_mul, Int.natCast_pow]; rfl
      rw [hm2, hc]
      generalize m * 2 ^ e = X at *
      exact u64_nat X h2
end Go.Proofs.Ytjcejgolcdgipaa.K7

namespace Go.Proofs.Ytjcejgolcdgipaa.K7
open Go.RowKit Go.Proofs.YtjcejgolcdgipaaW.PrintWords Go.Proofs.YtjcejgolcdgipaaW.PrintLast Go.Proofs.YtjcejgolcdgipaaW.PrintMore
set_option linter.unusedVariables false
set_option linter.unusedSimpArgs false

/-- A number that a pair tells of. -/
def InP (q : Nat × Nat) (y : Nat) : Prop := y = q.1 ∨ ∃ j, j < 16 ∧ q.2 / 2 ^ j % 2 = 1 ∧ y = (q.1 + j + 1) % 65536
theorem mem_inner (p b y : Nat) : ∀ d, d ≤ 16 → (((y : Nat) : Int) ∈ inner p b d ↔ ∃ j, 16 - d ≤ j ∧ j < 16 ∧ b / 2 ^ j % 2 = 1 ∧ y = (p + j + 1) % 65536)
  | 0, _ => by
    rw [inner]
    constructor
    · intro h; cases h
    · rintro ⟨j, h1, h2, _⟩; omega
  | d + 1, hd => by
    rw [inner, List.mem_append, mem_inner p b y d (by omega)]
    constructor
    · rintro (h | ⟨j, h1, h2, h3, h4⟩)
      · split at h
        · rename_i hb
          rw [List.mem_singleton] at h
          exact ⟨15 - d, by omega, by omega, hb, by omega⟩
        · cases h
      · exact ⟨j, by omega, h2, h3, h4⟩
    · rintro ⟨j, h1, h2, h3, h4⟩
      by_cases hj : j = 15 - d
      · subst hj
        left
        rw [if_pos h3, List.mem_singleton, h4]
      · exact .inr ⟨j, by omega, h2, h3, h4⟩
theorem mem_nums (N : List (Nat × Nat)) (y : Nat) : ((y : Nat) : Int) ∈ numsF N ↔ ∃ q ∈ N, InP q y := by
  unfold numsF
  rw [List.mem_flatMap]
  constructor
  · rintro ⟨q, hq, h⟩
    refine ⟨q, hq, ?_⟩
    rcases List.mem_cons.1 h with h | h
    · exact .inl (by omega)
    · obtain ⟨j, _, h2, h3, h4⟩ := (mem_inner q.1 q.2 y 16 (by omega)).1 h
      exact .inr ⟨j, h2, h3, h4⟩
  · rintro ⟨q, hq, h⟩
    refine ⟨q, hq, List.mem_cons.2 ?_⟩
    rcases h with h | ⟨j, h2, h3, h4⟩
    · exact .inl (by omega)
    · exact .inr ((mem_inner q.1 q.2 y 16 (by omega)).2 ⟨j, by omega, h2, h3, h4⟩)
theorem nums_nat (N : List (Nat × Nat)) (h : P16 N) (z : Int) (hz : z ∈ numsF N) : ∃ y : Nat, z = y ∧ y < 65536 := by
  unfold numsF at hz
  rw [List.mem_flatMap] at hz
  obtain ⟨q, hq, h2⟩ := hz
  rcases List.mem_cons.1 h2 with h3 | h3
  · exact ⟨q.1, h3, (h q hq).1⟩
  · have : ∀ d, z ∈ inner q.1 q.2 d → ∃ y : Nat, z = y ∧ y < 65536 := by
      intro d
      induction d with
      | zero => intro h; cases h
      | succ d ih =>
        intro h
        rw [inner, List.mem_append] at h
        rcases h with h | h
        · split at h
          · rw [List.mem_singleton] at h
            exact ⟨_, h, Nat.mod_lt _ (by decide)⟩
          · cases h
        · exact ih h
    exact this 16 h3
theorem bit_eq (b j : Nat) : b / 2 ^ j % 2 = 1 ↔ b.testBit j = true := by
  rw [Nat.testBit_eq_decide_div_mod_eq, decide_eq_true_iff]
theorem inP_zero (n y : Nat) : InP (n, 0) y ↔ y = n := by
  constructor
  · rintro (h | ⟨j, _, h, _⟩)
    · exact h
    · simp at h
  · exact fun h => .inl h
theorem step_mem (out : List (Nat × Nat)) (n y : Nat) (h16 : P16 out) (hn : n < 65536) : (∃ q ∈ stepP out n, InP q y) ↔ (∃ q ∈ out, InP q y) ∨ y = n := by
  rcases List.eq_nil_or_concat out with rfl | ⟨init, ⟨p, b⟩, rfl⟩
  · rw [stepP_nil]
    simp [inP_zero]
  · rw [List.concat_eq_append] at *
    have hp : p < 65536 := (h16 (p, b) (by simp)).1
    rw [stepP_snoc]
    unfold stepL
    have hfar : far n p < 65536 := Nat.mod_lt _ (by decide)
    by_cases h1 : 16 < far n p
    · rw [if_pos h1]
      constructor
      · rintro ⟨q, hq, h⟩
        rcases List.mem_append.1 hq with hq | hq
        · exact .inl ⟨q, hq, h⟩
        · rw [List.mem_singleton] at hq; subst hq; exact .inr ((inP_zero n y).1 h)
      · rintro (⟨q, hq, h⟩ | h)
        · exact ⟨q, List.mem_append.2 (.inl hq), h⟩
        · exact ⟨(n, 0), by simp, (inP_zero n y).2 h⟩
    · rw [if_neg h1]
      by_cases h0 : far n p = 0
      · rw [if_pos h0]
        have hnp : n = p := by unfold far at h0; omega
        constructor
        · exact fun h => .inl h
        · rintro (h | h)
          · exact h
          · exact ⟨(p, b), by simp, .inl (by rw [h]; exact hnp)⟩
      · rw [if_neg h0]
        have hk : n = (p + (far n p - 1) + 1) % 65536 := by unfold far at *; omega
        have hk16 : far n p - 1 < 16 := by omega
        generalize far n p - 1 = k at *
        rw [← orw (b := b) (k := k)]
        have hq : ∀ y, InP (p, b ||| 2 ^ k) y ↔ InP (p, b) y ∨ y = n := by
          intro y
          unfold InP
          simp only [bit_eq, Nat.testBit_or, Nat.testBit_two_pow, Bool.or_eq_true, decide_eq_true_iff]
          constructor
          · rintro (h | ⟨j, hj, h | h, hy⟩)
            · exact .inl (.inl h)
            · exact .inl (.inr ⟨j, hj, h, hy⟩)
            · subst h
              exact .inr (hy.trans hk.symm)
          · rintro ((h | ⟨j, hj, h, hy⟩) | h)
            · exact .inl h
            · exact .inr ⟨j, hj, .inl h, hy⟩
            · exact .inr ⟨k, hk16, .inr rfl, h.trans hk⟩
        constructor
        · rintro ⟨q, hqm, h⟩
          rcases List.mem_append.1 hqm with hqm | hqm
          · exact .inl ⟨q, List.mem_append.2 (.inl hqm), h⟩
          · rw [List.mem_singleton] at hqm
            subst hqm
            rcases (hq y).1 h with h | h
            · exact .inl ⟨(p, b), by simp, h⟩
            · exact .inr h
        · rintro (⟨q, hqm, h⟩ | h)
          · rcases List.mem_append.1 hqm with hqm | hqm
            · exact ⟨q, List.mem_append.2 (.inl hqm), h⟩
            · rw [List.mem_singleton] at hqm
              subst hqm
              exact ⟨_, List.mem_append.2 (.inr (List.mem_singleton.2 rfl)), (hq y).2 (.inl h)⟩
          · exact ⟨_, List.mem_append.2 (.inr (List.mem_singleton.2 rfl)), (hq y).2 (.inr h)⟩
theorem pairs_mem (ns : List Nat) (h : ∀ x ∈ ns, x < 65536) (y : Nat) : (∃ q ∈ pairsF ns, InP q y) ↔ y ∈ ns := by
  have key : ∀ k, k ≤ ns.length → ((∃ q ∈ pairsF (ns.take k), InP q y) ↔ y ∈ ns.take k) := by
    intro k
    induction k with
    | zero => intro _; simp [pairsF]
    | succ k ih =>
      intro hk
      have hlt : k < ns.length := hk
      rw [pairs_take ns k hlt, step_mem _ _ _ (pairs_16 h k) (h _ (List.getElem_mem hlt)), ih (by omega), List.take_succ_eq_append_getElem hlt, List.mem_append, List.mem_singleton]
  have := key ns.length (Nat.le_refl _)
  rwa [List.take_length] at this
theorem ev_has (l : List Int) (x : Int) (hl : l.length ≤ 1000000) (hx : x ∈ l) : Ev (fun k => easellaw07_has.f k l x) true := by
  have key : ∀ d i, i + d = l.length → x ∈ l.drop i → Ev (fun k => easellaw07_has.l0 k l x (i : Int)) true := by
    intro d
    induction d with
    | zero => intro i h hm; rw [List.drop_of_length_le (by omega)] at hm; cases hm
    | succ d ih =>
      intro i h hm
      have hi : i < l.length := by omega
      have e1 : rd l (i : Int) = l[i] := by simp [rd, hi]
      by_cases he : l[i] = x
      · refine Ev.step (f := fun _ => some true) (fun k => ?_) (Ev.now _)
        rw [easellaw07_has.l0, if_pos (by omega), if_pos (by omega), e1, if_pos he]
      · rw [List.drop_eq_getElem_cons hi] at hm
        rcases List.mem_cons.1 hm with hm | hm
        · exact absurd hm.symm he
        · refine Ev.step (fun k => ?_) (ih (i + 1) (by omega) hm)
          rw [easellaw07_has.l0, if_pos (by omega), if_pos (by omega), e1, if_neg he, wsucc i (by omega)]
  exact key l.length 0 (by omega) hx
theorem has_all (l m : List Int) (hl : l.length ≤ 1000000) (h : ∀ x ∈ m, x ∈ l) : ∃ K, ∀ k, K ≤ k → ∀ i (hi : i < m.length), easellaw07_has.f k l m[i] = some true := by
  have key : ∀ j, ∃ K, ∀ k, K ≤ k → ∀ i (hi : i < m.length), i < j → easellaw07_has.f k l m[i] = some true := by
    intro j
    induction j with
    | zero => exact ⟨0, fun k _ i _ h => absurd h (Nat.not_lt_zero _)⟩
    | succ j ih =>
      obtain ⟨K, hK⟩ := ih
      by_cases hj : j < m.length
      · obtain ⟨K2, hK2⟩ := ev_has l m[j] hl (h _ (List.getElem_mem hj))
        refine ⟨K + K2, fun k hk i hi hij => ?_⟩
        by_cases he : i = j
        · subst he; exact hK2 k (by omega)
        · exact hK k (by omega) i hi (by omega)
      · exact ⟨K, fun k hk i hi hij => hK k hk i hi (by omega)⟩
  obtain ⟨K, hK⟩ := key m.length
  exact ⟨K, fun k hk i hi => hK k hk i hi hi⟩
theorem ev_kbytes (a : List Int) (hl : a.length ≤ 1000000) : ∃ k, easelkit_SameBytes.f k a a = some true := by
  have key : ∀ d i, i + d = a.length → Ev (fun k => easelkit_SameBytes.l0 k a a (i : Int)) true := by
    intro d
    induction d with
    | zero => intro i h; exact Ev.step (f := fun _ => some true) (fun k => by rw [easelkit_SameBytes.l0, if_neg (by omega)]) (Ev.now _)
    | succ d ih =>
      intro i h
      refine Ev.step (fun k => ?_) (ih (i + 1) (by omega))
      rw [easelkit_SameBytes.l0, if_pos (by omega), if_pos (by omega), if_pos (by omega), if_pos rfl, wsucc i (by omega)]
  obtain ⟨k, hk⟩ := (key a.length 0 (by omega)).rounds
  exact ⟨k, by unfold easelkit_SameBytes.f; rw [if_pos rfl]; exact hk⟩
theorem sortOf_pos {kd ct : Nat} {bs : List Nat} (h : (parseP kd ct bs).err = 0) : (parseP kd ct bs).sort = sortOf kd ct ∧ 1 ≤ sortOf kd ct := by
  unfold parseP at *
  rcases sortOf_lt5 kd ct with e | e | e | e | e <;> rw [e] at h ⊢
  · exact absurd (show (PM.no 62).err = 0 from h) (by decide)
  · simp only at h ⊢
    unfold parse1 at *
    split at h
    · rename_i hc; rw [if_pos hc]; exact ⟨rfl, by decide⟩
    · exact absurd h (by decide)
  · simp only at h ⊢
    unfold parse2 at *
    split at h
    · rename_i hc; rw [if_pos hc]; exact ⟨rfl, by decide⟩
    · exact absurd h (by decide)
  · simp only at h ⊢
    unfold parse3 at *
    split at h
    · rename_i hc; rw [if_pos hc]; exact ⟨rfl, by decide⟩
    · exact absurd h (by decide)
  · simp only at h ⊢
    unfold parse4 at *
    split at h
    · rename_i hc; rw [if_pos hc]; exact ⟨rfl, by decide⟩
    · exact absurd h (by decide)
theorem tPairs_ok (bs : List Nat) (a : Nat) : ∀ k, ∀ x ∈ tPairs bs a k, x.1 < 65536 ∧ x.2 < 65536
  | 0, x, h => by cases h
  | k + 1, x, h => by
    rw [tPairs, List.mem_append] at h
    rcases h with h | h
    · exact tPairs_ok bs a k x h
    · rw [List.mem_singleton] at h; subst h; exact ⟨vl_lt bs _ 16, vl_lt bs _ 16⟩
theorem tOrders_ok (bs : List Nat) (a : Nat) : ∀ k, ∀ x ∈ tOrders bs a k, x.1 < 4294967296 ∧ x.2 < 256
  | 0, x, h => by cases h
  | k + 1, x, h => by
    rw [tOrders, List.mem_append] at h
    rcases h with h | h
    · exact tOrders_ok bs a k x h
    · rw [List.mem_singleton] at h; subst h; exact ⟨vl_lt bs _ 32, vl_lt bs _ 8⟩
theorem tSrc_ok (bs : List Nat) (a : Nat) : ∀ k, ∀ x ∈ tSrc bs a k, x < 4294967296
  | 0, x, h => by cases h
  | k + 1, x, h => by
    rw [tSrc, List.mem_append] at h
    rcases h with h | h
    · exact tSrc_ok bs a k x h
    · rw [List.mem_singleton] at h; subst h; exact vl_lt bs _ 32
/-- What was read: right; its body is as long; and the same, but for orders. -/
theorem read_back {kd ct : Nat} {bs : List Nat} (hb : Bts bs) (hl : bs.length ≤ 1200) (h : (parseP kd ct bs).err = 0) :
    OkPM (parseP kd ct bs) ∧ RightR (parseP kd ct bs) ∧ (bodyN (parseP kd ct bs)).length = bs.length ∧ ((parseP kd ct bs).sort ≠ 3 → bodyN (parseP kd ct bs) = bs) := by
  have hsd := vl_lt bs 0 32
  have hmd := vl_lt bs 32 32
  have hd := pack_dg hb
  have hH : ofn (vl bs 0 32) 32 ++ ofn (vl bs 32 32) 32 = dg bs 0 64 := by rw [ofn_vl, ofn_vl, show (64 : Nat) = 32 + 32 from rfl, dg_add]
  unfold parseP at *
  rcases sortOf_lt5 kd ct with e | e | e | e | e <;> rw [e] at h ⊢
  · exact absurd (show (PM.no 62).err = 0 from h) (by decide)
  · simp only at h ⊢
    by_cases hc : 8 < bs.length ∧ (bs.length - 8) % 4 = 0
    · have hp : parse1 bs = ⟨1, vl bs 0 32, vl bs 32 32, tPairs bs 64 ((bs.length - 8) / 4), [], 0, 0, [], 0⟩ := by unfold parse1; rw [if_pos hc]
      rw [hp]
      have hbody : bodyN ⟨1, vl bs 0 32, vl bs 32 32, tPairs bs 64 ((bs.length - 8) / 4), [], 0, 0, [], 0⟩ = bs := by
        rw [body1 rfl]
        show pack (ofn (vl bs 0 32) 32 ++ ofn (vl bs 32 32) 32 ++ pairsN (tPairs bs 64 ((bs.length - 8) / 4))) = bs
        rw [hH, pairs_dg, show (64 : Nat) = 0 + 64 from rfl, ← dg_add, show 0 + 64 + 32 * ((bs.length - 8) / 4) = 8 * bs.length from by omega]
        exact hd
      exact ⟨⟨hsd, hmd, tPairs_ok _ _ _, fun x hx => (by cases hx), fun x hx => (by cases hx)⟩, .inl ⟨rfl, by show 1 ≤ (tPairs _ _ _).length; rw [tPairs_length]; omega, by show 2 + (tPairs _ _ _).length ≤ _; rw [tPairs_length]; omega, rfl, rfl, rfl, rfl⟩, by rw [hbody], fun _ => hbody⟩
    · have hp : parse1 bs = PM.no 63 := by unfold parse1; rw [if_neg hc]
      rw [hp] at h
      exact absurd h (by decide)
  · simp only at h ⊢
    by_cases hc : bs.length = 8
    · have hp : parse2 bs = ⟨2, vl bs 0 32, vl bs 32 32, [], [], 0, 0, [], 0⟩ := by unfold parse2; rw [if_pos hc]
      rw [hp]
      have hbody : bodyN ⟨2, vl bs 0 32, vl bs 32 32, [], [], 0, 0, [], 0⟩ = bs := by
        rw [body2 rfl]
        show pack (ofn (vl bs 0 32) 32 ++ ofn (vl bs 32 32) 32 ++ []) = bs
        rw [hH, List.append_nil, show (64 : Nat) = 8 * bs.length from by omega]
        exact hd
      exact ⟨⟨hsd, hmd, fun x hx => (by cases hx), fun x hx => (by cases hx), fun x hx => (by cases hx)⟩, .inr (.inl ⟨rfl, rfl, rfl, rfl, rfl, rfl⟩), by rw [hbody], fun _ => hbody⟩
    · have hp : parse2 bs = PM.no 63 := by unfold parse2; rw [if_neg hc]
      rw [hp] at h
      exact absurd h (by decide)
  · simp only at h ⊢
    by_cases hc : 8 < bs.length ∧ (bs.length - 8) % 8 = 0
    · have hp : parse3 bs = ⟨3, vl bs 0 32, vl bs 32 32, [], tOrders bs 64 ((bs.length - 8) / 8), 0, 0, [], 0⟩ := by unfold parse3; rw [if_pos hc]
      rw [hp]
      refine ⟨⟨hsd, hmd, fun x hx => (by cases hx), tOrders_ok _ _ _, fun x hx => (by cases hx)⟩, .inr (.inr (.inl ⟨rfl, by show 1 ≤ (tOrders _ _ _).length; rw [tOrders_length]; omega, by show 2 + 2 * (tOrders _ _ _).length ≤ _; rw [tOrders_length]; omega, rfl, rfl, rfl, rfl⟩)), ?_, fun h => absurd rfl h⟩
      rw [len3 rfl]
      show 8 + 8 * (tOrders _ _ _).length = _
      rw [tOrders_length]
      omega
    · have hp : parse3 bs = PM.no 63 := by unfold parse3; rw [if_neg hc]
      rw [hp] at h
      exact absurd h (by decide)
  · simp only at h ⊢
    by_cases hc : Rem bs
    · have hp : parse4 bs = ⟨4, vl bs 0 32, vl bs 32 32, [], [], vl bs 104 6, vl bs 110 18, tSrc bs 128 (vl bs 96 8), 0⟩ := by unfold parse4; rw [if_pos hc]
      rw [hp]
      obtain ⟨r1, r2, r3⟩ := hc
      have l8 := vl_lt bs 96 8
      have l6 := vl_lt bs 104 6
      have l18 := vl_lt bs 110 18
      have hbody : bodyN ⟨4, vl bs 0 32, vl bs 32 32, [], [], vl bs 104 6, vl bs 110 18, tSrc bs 128 (vl bs 96 8), 0⟩ = bs := by
        rw [body4 rfl]
        show pack (ofn (vl bs 0 32) 32 ++ ofn (vl bs 32 32) 32 ++ rateN (vl bs 104 6) (vl bs 110 18) (tSrc bs 128 (vl bs 96 8))) = bs
        unfold rateN
        rw [tSrc_length, hH, ← r2, ofn_vl, ofn_vl, ofn_vl, ofn_vl, srcs_dg]
        have j1 := dg_add bs (32 * vl bs 96 8) 18 110
        have j2 := dg_add bs (18 + 32 * vl bs 96 8) 6 104
        have j3 := dg_add bs (6 + (18 + 32 * vl bs 96 8)) 8 96
        have j4 := dg_add bs (8 + (6 + (18 + 32 * vl bs 96 8))) 32 64
        have j5 := dg_add bs (32 + (8 + (6 + (18 + 32 * vl bs 96 8)))) 64 0
        rw [show 110 + 18 = 128 from rfl] at j1
        rw [show 104 + 6 = 110 from rfl, j1] at j2
        rw [show 96 + 8 = 104 from rfl, j2] at j3
        rw [show 64 + 32 = 96 from rfl, j3] at j4
        rw [show 0 + 64 = 64 from rfl, j4] at j5
        rw [← j5, show 64 + (32 + (8 + (6 + (18 + 32 * vl bs 96 8)))) = 8 * bs.length from by omega]
        exact hd
      exact ⟨⟨hsd, hmd, fun x hx => (by cases hx), fun x hx => (by cases hx), tSrc_ok _ _ _⟩, .inr (.inr (.inr ⟨rfl, rfl, rfl, by show vl bs 104 6 ≤ 63; omega, l18, by show (tSrc _ _ _).length ≤ 255; rw [tSrc_length]; omega⟩)), by rw [hbody], fun _ => hbody⟩
    · have hp : parse4 bs = PM.no 63 := by unfold parse4; rw [if_neg hc]
      rw [hp] at h
      exact absurd h (by decide)
end Go.Proofs.Ytjcejgolcdgipaa.K7

namespace Go.Proofs.Ytjcejgolcdgipaa.K7
open Go.RowKit Go.Proofs.YtjcejgolcdgipaaW.PrintWords Go.Proofs.YtjcejgolcdgipaaW.PrintLast Go.Proofs.YtjcejgolcdgipaaW.PrintMore
set_option linter.unusedVariables false

section
variable (m0 m1 m2 : Int) {A3 A4 A7 : Option Addr} {c3 c4 c7 : Nat} (l3 : List S82) (l4 : List S134) (m5 m6 : Int) (l7 : List Int) (ct kd pd : Int) {B2 : Option Addr} {d2 : Nat} (b : List Int) {C2 : Option Addr} {f2 : Nat} (n : List Int) (rate : Int) (w : World)
set_option maxHeartbeats 8000000 in
set_option maxRecDepth 100000 in
theorem FeedbackBack_many (hM : Ms w A3 A4 A7 l3 l4 l7 c3 c4 c7) (f1 : Bool) (hF1 : easellaw07_few.f m0 m1 m2 l3 l4 m5 m6 l7 = some f1) (hF2 : f1 = true → ¬ (b.length ≤ 1200 ∧ n.length ≤ 100)) :
    Calls Try.prog 6 #[.agg #[.int .u8 m0, .int .u32 m1, .int .u32 m2, .slice A3 l3.length c3, .slice A4 l4.length c4, .int .u8 m5, .int .u32 m6, .slice A7 l7.length c7], .agg #[.int .u8 ct, .int .u8 kd, .slice B2 b.length d2, .int .u8 pd], .slice C2 n.length f2, .int .u64 rate] w fun e w' => e = .returned (.bool true) ∧ Below w.heap.size w w' := by
  obtain ⟨w0, hw0⟩ : ∃ w0, w0 = (w.alloc (.cells #[.int .u8 m0, .int .u32 m1, .int .u32 m2, .slice A3 l3.length c3, .slice A4 l4.length c4, .int .u8 m5, .int .u32 m6, .slice A7 l7.length c7] 52)).alloc (.cells #[.int .u8 ct, .int .u8 kd, .slice B2 b.length d2, .int .u8 pd] 40) := ⟨_, rfl⟩
  have hB0 : Below w.heap.size w w0 := hw0 ▸ ((Below.refl _ _).alloc (Nat.le_refl _) _).alloc (by simp) _
  have bM : Blk w0 w.heap.size 52 _ := hw0 ▸ (Blk.new w _ #[.int .u8 m0, .int .u32 m1, .int .u32 m2, .slice A3 l3.length c3, .slice A4 l4.length c4, .int .u8 m5, .int .u32 m6, .slice A7 l7.length c7]).alloc _
  have bP : Blk w0 (w.heap.size + 1) 40 _ := hw0 ▸ blk2 w _ _ #[.int .u8 ct, .int .u8 kd, .slice B2 b.length d2, .int .u8 pd]
  have HM := hd (hM.below hB0)
  have HF1 := hd hF1
  have HF2 := hd hF2
  have HW0 := hd hw0
  have HB := hd hB0
  clear hM hF1 hF2 hw0 hB0
  have cM := bM.cell
  go_enter Try.func6, Try.ntmps6
  go_upto_region 1 with (fail)
  rw [← HW0.out]
  clear HW0
  go_wp2_with fail
  refine (easellaw07_few.calls m0 m1 m2 _ _ l3 _ _ l4 m5 m6 _ _ l7 f1 _ HM.out.r3 HM.out.k3 HM.out.r4 HM.out.k4 HM.out.r7 HM.out.k7 HF1.out).mono ?_
  rintro e_ w1 ⟨rfl, hB1⟩
  replace HB := hd (below_next HB.out hB1)
  replace bP := bP.kp (kp_of_below hB1) trivial
  clear cM hB1
  have cP := bP.cell
  cases f1
  · go_wp2_with fail
    refine (l7_works.calls true _ rfl).mono ?_
    rintro e_ w2 ⟨rfl, hB2⟩
    go_wp2
    go_ret
    exact ⟨rfl, below_next HB.out hB2⟩
  · by_cases h12 : b.length ≤ 1200
    · have g12 : decide (1200 < b.length) = false := decide_eq_false (by omega)
      have g12' : decide ((1200 : Int) < (b.length : Int)) = false := decide_eq_false (by omega)
      have hn : ¬ n.length ≤ 100 := fun z => HF2.out (by trivial) ⟨h12, z⟩
      have g10 : decide (100 < n.length) = true := decide_eq_true (by omega)
      have g10' : decide ((100 : Int) < (n.length : Int)) = true := decide_eq_true (by omega)
      go_wp2_with fail
      refine (l7_works.calls true _ rfl).mono ?_
      rintro e_ w2 ⟨rfl, hB2⟩
      go_wp2
      go_ret
      exact ⟨rfl, below_next HB.out hB2⟩
    · have g12 : decide (1200 < b.length) = true := decide_eq_true (by omega)
      have g12' : decide ((1200 : Int) < (b.length : Int)) = true := decide_eq_true (by omega)
      go_wp2_with fail
      refine (l7_works.calls true _ rfl).mono ?_
      rintro e_ w2 ⟨rfl, hB2⟩
      go_wp2
      go_ret
      exact ⟨rfl, below_next HB.out hB2⟩
end
theorem ps_back (N : List (Nat × Nat)) : (N.map toP).map ofP = N := by
  rw [List.map_map]
  conv => rhs; rw [← List.map_id N]
  apply List.map_congr_left
  rintro ⟨a, b⟩ _
  simp [toP, ofP]
theorem os_back (N : List (Nat × Nat)) : (N.map toO).map ofO = N := by
  rw [List.map_map]
  conv => rhs; rw [← List.map_id N]
  apply List.map_congr_left
  rintro ⟨a, b⟩ _
  simp [toO, ofO]
/-- A read message as the program's words have it. -/
theorem inM_PM (P : PM) (h : P.err = 0) : inM P.sort P.sd P.md (P.ps.map toP) (P.os.map toO) P.e P.m (ib P.ss) = P := by
  unfold inM
  rw [ps_back, os_back, nb_ib]
  cases P
  simp only at h
  subst h
  simp
theorem PMt_inM {s sd md e mn : Nat} {lp : List S82} {lo : List S134} {ls : List Int} (hp : Ok2 lp) (ho : OkO lo) (hs : OkS ls) : PMt (inM s sd md lp lo e mn ls) = ((s : Int), (sd : Int), (md : Int), lp, lo, (e : Int), (mn : Int), ls, 0) := by
  unfold PMt inM
  rw [toP_ofP hp, toO_ofO ho, ib_nb hs]
  simp
theorem okM_PM {P : PM} (ok : OkPM P) (h1 : P.sort < 256) (he : P.e < 256) (hm : P.m < 4294967296) (h3 : P.ps.length ≤ 100000) (h4 : P.os.length ≤ 100000) (h7 : P.ss.length ≤ 100000) : OkM P.sort P.sd P.md (P.ps.map toP) (P.os.map toO) P.e P.m (ib P.ss) := by
  have e1 := ok.sd
  have e2 := ok.md
  refine ⟨⟨by omega, by omega⟩, ⟨by omega, by omega⟩, ⟨by omega, by omega⟩, ⟨fun x hx => ?_, by rw [List.length_map]; exact h3⟩, ⟨fun x hx => ?_, by rw [List.length_map]; exact h4⟩, ⟨by omega, by omega⟩, ⟨by omega, by omega⟩, fun x hx => ?_, by rw [ib_length]; exact h7⟩
  · obtain ⟨y, hy, rfl⟩ := List.mem_map.1 hx
    have := ok.ps y hy
    show (0 ≤ ((y.1 : Nat) : Int) ∧ ((y.1 : Nat) : Int) < 65536) ∧ (0 ≤ ((y.2 : Nat) : Int) ∧ ((y.2 : Nat) : Int) < 65536)
    omega
  · obtain ⟨y, hy, rfl⟩ := List.mem_map.1 hx
    have := ok.os y hy
    show (0 ≤ ((y.1 : Nat) : Int) ∧ ((y.1 : Nat) : Int) < 4294967296) ∧ (0 ≤ ((y.2 : Nat) : Int) ∧ ((y.2 : Nat) : Int) < 256)
    omega
  · obtain ⟨y, hy, rfl⟩ := List.mem_map.1 hx
    have := ok.ss y hy
    show (0 : Int) ≤ ((y : Nat) : Int) ∧ ((y : Nat) : Int) < 4294967296
    omega
theorem right_put {M : PM} (h : rightN M = true) : putN M = (cntN M.sort, kndN M.sort, bodyN M, 0) := by unfold putN; rw [if_pos h]
theorem right_parts {M : PM} (h : rightN M = true) : parseP (kndN M.sort) (cntN M.sort) (bodyN M) = M ∧ ((bodyN M).length % 4 = 0 ∧ (bodyN M).length / 4 ≤ 65535) := by
  unfold rightN at h
  rw [Bool.and_eq_true, Bool.and_eq_true, decide_eq_true_iff, decide_eq_true_iff, decide_eq_true_iff] at h
  exact ⟨h.2.1, h.2.2⟩
theorem cnt_lt (s : Nat) : cntN s < 256 ∧ kndN s < 256 := by unfold cntN kndN; constructor <;> (repeat' split) <;> decide
/-- What was put is read as it was, in the printed words. -/
theorem put_read {M : PM} (h : rightN M = true) (hl : (bodyN M).length ≤ 1000000) :
    fb_Parse.f (cntN M.sort : Int) (kndN M.sort : Int) (ib (bodyN M)) 0 = some (PMt M) ∧ rtcp_Right.f (cntN M.sort : Int) (kndN M.sort : Int) (ib (bodyN M)) 0 = some true ∧ fb_Is.f (cntN M.sort : Int) (kndN M.sort : Int) (ib (bodyN M)) 0 = some true := by
  obtain ⟨h1, h4, _⟩ := rightN_fields h
  obtain ⟨hp, hr⟩ := right_parts h
  have hc := cnt_lt M.sort
  have hb := ib_ok (l := bodyN M) (B := 256) (bodyN_bts M)
  refine ⟨?_, ?_, ?_⟩
  · unfold fb_Parse.f
    rw [if_pos ⟨⟨by omega, by omega⟩, ⟨by omega, by omega⟩, ⟨by omega, by omega⟩, hb, by rw [ib_length]; exact hl⟩, Int.toNat_natCast, Int.toNat_natCast, nb_ib, hp]
  · rw [rtcp_in h4 hl, decide_eq_true hr]
  · unfold fb_Is.f
    rw [if_pos ⟨⟨by omega, by omega⟩, ⟨by omega, by omega⟩, ⟨by omega, by omega⟩⟩, Int.toNat_natCast, Int.toNat_natCast, sortOf_of _ h1 h4, decide_eq_true (by omega)]
def easellaw07_FeedbackBack.f (k : Nat) (m0 m1 m2 : Int) (l3 : List S82) (l4 : List S134) (m5 m6 : Int) (l7 : List Int) (ct kd : Int) (b : List Int) (pd : Int) (n : List Int) (rate : Int) : Option Bool :=
  if OkA m0 m1 m2 l3 l4 m5 m6 l7 ∧ OkFR ct kd b pd ∧ OkN 65536 n ∧ 0 ≤ rate ∧ rate < 18446744073709551616 then some true else none
theorem easellaw07_FeedbackBack.calls (k : Nat) (m0 m1 m2 : Int) (A3 : Option Addr) (c3 : Nat) (l3 : List S82) (A4 : Option Addr) (c4 : Nat) (l4 : List S134) (m5 m6 : Int) (A7 : Option Addr) (c7 : Nat) (l7 : List Int) (ct kd : Int) (B2 : Option Addr) (d2 : Nat) (b : List Int) (pd : Int) (C2 : Option Addr) (f2 : Nat) (n : List Int) (rate : Int) (r : Bool) (w : World)
    (hr3 : Kd.C k82 w A3 l3.length l3) (hc3 : l3.length ≤ c3) (hr4 : Kd.C k134 w A4 l4.length l4) (hc4 : l4.length ≤ c4) (hr7 : Kd.C (Kd.int .u32) w A7 l7.length l7) (hc7 : l7.length ≤ c7)
    (hB : Kd.C (Kd.int .u8) w B2 b.length b) (hd2 : b.length ≤ d2) (hN : Kd.C (Kd.int .u16) w C2 n.length n) (hf2 : n.length ≤ f2)
    (h : easellaw07_FeedbackBack.f k m0 m1 m2 l3 l4 m5 m6 l7 ct kd b pd n rate = some r) :
    Calls Try.prog 6 #[.agg #[.int .u8 m0, .int .u32 m1, .int .u32 m2, .slice A3 l3.length c3, .slice A4 l4.length c4, .int .u8 m5, .int .u32 m6, .slice A7 l7.length c7], .agg #[.int .u8 ct, .int .u8 kd, .slice B2 b.length d2, .int .u8 pd], .slice C2 n.length f2, .int .u64 rate] w fun e w' => e = .returned (.bool r) ∧ Below w.heap.size w w' := by
  unfold easellaw07_FeedbackBack.f at h
  split at h
  · rename_i ho
    injection h with h
    subst h
    obtain ⟨hm, ⟨p1, p2, p3, p4⟩, hn16, hra, hrb⟩ := ho
    have hM : Ms w A3 A4 A7 l3 l4 l7 c3 c4 c7 := ⟨hr3, hc3, hr4, hc4, hr7, hc7⟩
    have F1 := few_val m0 m1 m2 l3 l4 m5 m6 l7
    by_cases z1 : l3.length ≤ 300 ∧ l4.length ≤ 300 ∧ l7.length ≤ 300
    · rw [decide_eq_true z1] at F1
      by_cases z2 : b.length ≤ 1200 ∧ n.length ≤ 100
      · obtain ⟨h12, h100⟩ := z2
        obtain ⟨h0, h1, h2, h3, h4, h5, h6, h7⟩ := hm
        have okM : OkM m0 m1 m2 l3 l4 m5 m6 l7 := ⟨h0, h1, h2, ⟨h3, by omega⟩, ⟨h4, by omega⟩, h5, h6, h7, by omega⟩
        have hlb := bodyN_len m0.toNat m1.toNat m2.toNat m5.toNat m6.toNat l3 l4 l7
        obtain ⟨x0, rfl⟩ := Int.eq_ofNat_of_zero_le h0.1
        obtain ⟨x1, rfl⟩ := Int.eq_ofNat_of_zero_le h1.1
        obtain ⟨x2, rfl⟩ := Int.eq_ofNat_of_zero_le h2.1
        obtain ⟨x5, rfl⟩ := Int.eq_ofNat_of_zero_le h5.1
        obtain ⟨x6, rfl⟩ := Int.eq_ofNat_of_zero_le h6.1
        obtain ⟨q1, rfl⟩ := Int.eq_ofNat_of_zero_le p1.1
        obtain ⟨q2, rfl⟩ := Int.eq_ofNat_of_zero_le p2.1
        obtain ⟨rt, rfl⟩ := Int.eq_ofNat_of_zero_le hra
        simp only [Int.toNat_natCast] at hlb
        have hP : fb_Put.f x0 x1 x2 l3 l4 x5 x6 l7 = some ((((putN (inM x0 x1 x2 l3 l4 x5 x6 l7)).1 : Nat) : Int), (((putN (inM x0 x1 x2 l3 l4 x5 x6 l7)).2.1 : Nat) : Int), ib (putN (inM x0 x1 x2 l3 l4 x5 x6 l7)).2.2.1, 0, (((putN (inM x0 x1 x2 l3 l4 x5 x6 l7)).2.2.2 : Nat) : Int)) := by
          unfold fb_Put.f
          rw [if_pos okM]
        obtain ⟨k1, hSS⟩ := (same_ev x0 x1 x2 l3 l4 x5 x6 l7 x0 x1 x2 l3 l4 x5 x6 l7 (by omega) (by omega) (by omega)).rounds
        rw [decide_eq_true ⟨rfl, rfl, rfl, rfl, rfl, rfl, rfl, rfl⟩] at hSS
        have hPM := PMt_inM (s := x0) (sd := x1) (md := x2) (e := x5) (mn := x6) h3 h4 h7
        have hP2 : (((putN (inM x0 x1 x2 l3 l4 x5 x6 l7)).2.2.2 : Nat) : Int) = 0 → fb_Parse.f (((putN (inM x0 x1 x2 l3 l4 x5 x6 l7)).1 : Nat) : Int) (((putN (inM x0 x1 x2 l3 l4 x5 x6 l7)).2.1 : Nat) : Int) (ib (putN (inM x0 x1 x2 l3 l4 x5 x6 l7)).2.2.1) 0 = some ((x0 : Int), (x1 : Int), (x2 : Int), l3, l4, (x5 : Int), (x6 : Int), l7, 0) ∧ feedback_Same.f k1 x0 x1 x2 l3 l4 x5 x6 l7 x0 x1 x2 l3 l4 x5 x6 l7 = some true ∧ rtcp_Right.f (((putN (inM x0 x1 x2 l3 l4 x5 x6 l7)).1 : Nat) : Int) (((putN (inM x0 x1 x2 l3 l4 x5 x6 l7)).2.1 : Nat) : Int) (ib (putN (inM x0 x1 x2 l3 l4 x5 x6 l7)).2.2.1) 0 = some true ∧ fb_Is.f (((putN (inM x0 x1 x2 l3 l4 x5 x6 l7)).1 : Nat) : Int) (((putN (inM x0 x1 x2 l3 l4 x5 x6 l7)).2.1 : Nat) : Int) (ib (putN (inM x0 x1 x2 l3 l4 x5 x6 l7)).2.2.1) 0 = some true := by
          intro he
          have hr : rightN (inM x0 x1 x2 l3 l4 x5 x6 l7) = true := by
            refine Classical.byContradiction fun z => ?_
            have e0 : putN (inM x0 x1 x2 l3 l4 x5 x6 l7) = (0, 0, [], 2) := by unfold putN; rw [if_neg z]
            rw [e0] at he
            exact absurd he (by decide)
          have hlen : (bodyN (inM x0 x1 x2 l3 l4 x5 x6 l7)).length ≤ 1000000 := by
            obtain ⟨_, g4, g255⟩ := rightN_fields hr
            have g255' : (nb l7).length ≤ 255 := g255
            rw [nb_length] at g255'
            exact Nat.le_trans (hlb g4 (by omega) (by omega) g255') (by omega)
          obtain ⟨r1, r2, r3⟩ := put_read hr hlen
          rw [hPM] at r1
          rw [right_put hr]
          exact ⟨r1, hSS, r2, r3⟩
        have hbn : Bts (nb b) := nb_lt (B := 256) p4
        have hbl : (nb b).length ≤ 1200 := by rw [nb_length]; exact h12
        have hbi : ib (nb b) = b := ib_nb p4
        have hY : fb_Parse.f q1 q2 b pd = some (PMt (parseP q2 q1 (nb b))) := by
          unfold fb_Parse.f
          rw [if_pos ⟨p1, p2, p3, p4, by omega⟩, Int.toNat_natCast, Int.toNat_natCast]
        have hRB := fun z => read_back (kd := q2) (ct := q1) hbn hbl z
        have hSo := fun z => sortOf_pos (kd := q2) (ct := q1) (bs := nb b) z
        have hPl := parseP_len q2 q1 (nb b) (by omega)
        generalize parseP q2 q1 (nb b) = Y at *
        obtain ⟨k2, hYY⟩ := (same_ev Y.sort Y.sd Y.md (Y.ps.map toP) (Y.os.map toO) Y.e Y.m (ib Y.ss) Y.sort Y.sd Y.md (Y.ps.map toP) (Y.os.map toO) Y.e Y.m (ib Y.ss) (by rw [List.length_map]; omega) (by rw [List.length_map]; omega) (by rw [ib_length]; omega)).rounds
        rw [decide_eq_true ⟨rfl, rfl, rfl, rfl, rfl, rfl, rfl, rfl⟩] at hYY
        obtain ⟨k3, hKB⟩ := ev_kbytes b (by omega)
        have hY2 : (Y.err : Int) = 0 → fb_Put.f Y.sort Y.sd Y.md (Y.ps.map toP) (Y.os.map toO) Y.e Y.m (ib Y.ss) = some ((cntN Y.sort : Int), (kndN Y.sort : Int), ib (bodyN Y), 0, 0) ∧ fb_Parse.f (cntN Y.sort : Int) (kndN Y.sort : Int) (ib (bodyN Y)) 0 = some ((Y.sort : Int), (Y.sd : Int), (Y.md : Int), Y.ps.map toP, Y.os.map toO, (Y.e : Int), (Y.m : Int), ib Y.ss, 0) ∧ fb_Right.f Y.sort Y.sd Y.md (Y.ps.map toP) (Y.os.map toO) Y.e Y.m (ib Y.ss) = some true ∧ feedback_Same.f k2 Y.sort Y.sd Y.md (Y.ps.map toP) (Y.os.map toO) Y.e Y.m (ib Y.ss) Y.sort Y.sd Y.md (Y.ps.map toP) (Y.os.map toO) Y.e Y.m (ib Y.ss) = some true ∧ (kndN Y.sort : Int) = (q2 : Int) ∧ (cntN Y.sort : Int) = (q1 : Int) ∧ (ib (bodyN Y)).length = b.length ∧ ((Y.sort : Int) ≠ 3 → easelkit_SameBytes.f k3 (ib (bodyN Y)) b = some true) := by
          intro he
          have he' : Y.err = 0 := by omega
          obtain ⟨ok, hR, hlen, hsame⟩ := hRB he'
          obtain ⟨so1, so2⟩ := hSo he'
          obtain ⟨kk1, kk2⟩ := kinds_of so1.symm (by omega)
          have hlens : Y.ps.length ≤ 16000 ∧ Y.os.length ≤ 16000 ∧ Y.sort ≤ 4 ∧ Y.e ≤ 63 ∧ Y.m < 262144 ∧ Y.ss.length ≤ 255 := by
            rw [nb_length] at hlen
            rcases hR with ⟨s1, s2, s3, s4, s5, s6, s7⟩ | ⟨s1, s2, s3, s4, s5, s6⟩ | ⟨s1, s2, s3, s4, s5, s6, s7⟩ | ⟨s1, s2, s3, s4, s5, s6⟩
            · have := len1 s1
              rw [s4, s7]
              exact ⟨by omega, by simp, by omega, by omega, by omega, by simp⟩
            · rw [s2, s3, s6]
              exact ⟨by simp, by simp, by omega, by omega, by omega, by simp⟩
            · have := len3 s1
              rw [s4, s7]
              exact ⟨by simp, by omega, by omega, by omega, by omega, by simp⟩
            · rw [s2, s3]
              exact ⟨by simp, by simp, by omega, by omega, by omega, s6⟩
          have hr := (right_iff ok he' hlens.1 hlens.2.1).2 hR
          have hin := inM_PM Y he'
          have hok := okM_PM ok (by omega) (by omega) (by omega) (by omega) (by omega) (by omega)
          obtain ⟨r1, r2, r3⟩ := put_read hr (by rw [hlen]; omega)
          have r1' : PMt Y = ((Y.sort : Int), (Y.sd : Int), (Y.md : Int), Y.ps.map toP, Y.os.map toO, (Y.e : Int), (Y.m : Int), ib Y.ss, 0) := by unfold PMt; rw [he']; rfl
          rw [r1'] at r1
          refine ⟨?_, r1, ?_, hYY, by rw [kk1], by rw [kk2], by rw [ib_length, hlen, nb_length], fun z => ?_⟩
          · unfold fb_Put.f
            rw [if_pos hok, hin, right_put hr]
            rfl
          · unfold fb_Right.f
            rw [if_pos hok, hin, hr]
          · rw [hsame (by omega), hbi]
            exact hKB
        have hnn : ∀ x ∈ nb n, x < 65536 := nb_lt (B := 65536) hn16
        have hL : fb_Pairs.f n = some ((pairsF (nb n)).map toP) := by
          unfold fb_Pairs.f
          rw [if_pos ⟨hn16, by omega⟩]
        obtain ⟨g16, gle⟩ := pairsF_16 hnn
        rw [nb_length] at gle
        obtain ⟨k4, hA⟩ := (ev_nums (pairsF (nb n)) g16 (by omega)).rounds
        have hal := numsF_len (N := pairsF (nb n)) (by omega)
        have hmem : ∀ x : Int, x ∈ n ↔ x ∈ numsF (pairsF (nb n)) := by
          intro x
          constructor
          · intro hx
            have hxr := hn16 x hx
            obtain ⟨y, rfl⟩ := Int.eq_ofNat_of_zero_le hxr.1
            rw [mem_nums, pairs_mem _ hnn]
            exact List.mem_map.2 ⟨_, hx, by simp⟩
          · intro hx
            obtain ⟨y, rfl, _⟩ := nums_nat _ g16 x hx
            rw [mem_nums, pairs_mem _ hnn] at hx
            obtain ⟨z, hz, e⟩ := List.mem_map.1 hx
            have := hn16 z hz
            have e' : z = (y : Int) := by omega
            rw [← e']
            exact hz
        obtain ⟨K1, hK1⟩ := has_all (numsF (pairsF (nb n))) n hal (fun x hx => (hmem x).1 hx)
        obtain ⟨K2, hK2⟩ := has_all n (numsF (pairsF (nb n))) (by omega) (fun x hx => (hmem x).2 hx)
        have hrt : rt < 2 ^ 64 := by have : (2 : Nat) ^ 64 = 18446744073709551616 := rfl; omega
        have hO := ofRate_val rt hrt
        have hbl2 := Lib.bitLen_le rt 64 (by omega) hrt
        have hup := bl_up hrt
        have hmn : rt / 2 ^ (Lib.bitLen rt - 18) < 262144 := by
          rw [Nat.div_lt_iff_lt_mul (Nat.two_pow_pos _)]
          have h18 : Lib.bitLen rt ≤ 18 + (Lib.bitLen rt - 18) := by omega
          have h19 := Nat.pow_le_pow_right (n := 2) (by decide) h18
          rw [Nat.pow_add] at h19
          exact Nat.lt_of_lt_of_le hup h19
        have hlow : Lib.bitLen rt - 18 = 0 ∨ 2 ^ (17 + (Lib.bitLen rt - 18)) ≤ rt := by
          by_cases hz : Lib.bitLen rt - 18 = 0
          · exact .inl hz
          · right
            have hr0 : rt ≠ 0 := by
              rintro rfl
              exact hz (by rfl)
            have hbb := (Lib.bitLenAux_bounds 64 rt hrt hr0).2.1
            have hLdef : Lib.bitLen rt = Lib.bitLenAux 64 rt := rfl
            rw [← hLdef] at hbb
            rw [show 17 + (Lib.bitLen rt - 18) = Lib.bitLen rt - 1 from by omega]
            exact hbb
        have hE : Lib.bitLen rt - 18 ≤ 46 := by omega
        generalize Lib.bitLen rt - 18 = E at *
        have hdm := Nat.div_add_mod rt (2 ^ E)
        have hml := Nat.mod_lt rt (Nat.two_pow_pos E)
        have hback : rt / 2 ^ E * 2 ^ E ≤ rt := Nat.div_mul_le_self _ _
        have hR := fb_rate 4 0 0 [] [] E (rt / 2 ^ E) [] (by omega) (by omega)
        have hrv : rateV E (rt / 2 ^ E) = rt / 2 ^ E * 2 ^ E := by unfold rateV; rw [if_pos (by omega)]
        rw [hrv] at hR
        have hclose : rt - rt / 2 ^ E * 2 ^ E ≤ rt / 131072 := by
          have e1 : rt - rt / 2 ^ E * 2 ^ E = rt % 2 ^ E := by rw [Nat.mul_comm]; omega
          rw [e1]
          rcases hlow with hz | hz
          · rw [hz, Nat.pow_zero, Nat.mod_one]; exact Nat.zero_le _
          · rw [Nat.le_div_iff_mul_le (by decide)]
            rw [Nat.pow_add, show (2 : Nat) ^ 17 = 131072 from rfl, Nat.mul_comm] at hz
            exact Nat.le_trans (Nat.mul_le_mul_right _ (Nat.le_of_lt hml)) hz
        obtain ⟨BK, hBK⟩ : ∃ BK, BK = rt / 2 ^ E * 2 ^ E := ⟨_, rfl⟩
        rw [← hBK] at hback hR hclose
        clear hBK hrv hdm
        generalize rt / 2 ^ E = Q at *
        have okT : OkM 4 0 0 [] [] (E : Int) ((Q : Nat) : Int) [] := ⟨⟨by omega, by omega⟩, ⟨by omega, by omega⟩, ⟨by omega, by omega⟩, ⟨fun x hx => (by cases hx), by simp⟩, ⟨fun x hx => (by cases hx), by simp⟩, ⟨by omega, by omega⟩, ⟨by omega, by omega⟩, fun x hx => (by cases hx), by simp⟩
        have hT : fb_Right.f 4 0 0 [] [] (E : Int) ((Q : Nat) : Int) [] = some true := by
          unfold fb_Right.f
          rw [if_pos okT]
          have := (right_iff (inM_ok okT) rfl (by show ([] : List S82).length ≤ _; simp) (by show ([] : List S134).length ≤ _; simp)).2 (.inr (.inr (.inr ⟨rfl, rfl, rfl, by show (E : Int).toNat ≤ 63; omega, by show (((Q : Nat) : Int)).toNat < 262144; omega, by show (nb []).length ≤ 255; simp [nb]⟩)))
          rw [this]
        refine FeedbackBack_walk k1 k2 k3 k4 (K1 + K2) x0 x1 x2 l3 l4 x5 x6 l7 q1 q2 pd b n rt w hM hB hd2 hN hf2 F1 h12 h100 _ _ _ _ _ hP hP2 _ _ _ _ _ _ _ _ _ hY _ _ _ _ hY2 _ hL _ hA (by rw [List.length_map]; exact gle) hal (fun i hi => hK1 _ (by omega) i hi) (fun i hi => hK2 _ (by omega) i hi) _ _ hO _ hR hT (decide_eq_true (by omega)) (decide_eq_true ?_)
        have e2 : (rt : Int) - (BK : Int) = ((rt - BK : Nat) : Int) := by omega
        rw [e2, u64_nat _ (by omega)]
        omega
      · exact FeedbackBack_many m0 m1 m2 l3 l4 m5 m6 l7 ct kd pd b n rate w hM true F1 (fun _ => z2)
    · rw [decide_eq_false z1] at F1
      exact FeedbackBack_many m0 m1 m2 l3 l4 m5 m6 l7 ct kd pd b n rate w hM false F1 (fun z => by cases z)
  · cases h
end Go.Proofs.Ytjcejgolcdgipaa.K7
