/- Texts of this session, one behind the other, what the row does not use left out: walks and laws over plain data. -/
import Derived.Test.YtjcejgolcdgipaaPFP2
import Derived.WalkMore
import Derived.Deep.LoopGhost

namespace Go.Proofs.Ytjcejgolcdgipaa
open Go.RowKit

/-- Numbers of 16 digits as values; pairs as cells. -/
def wv (ns : List Nat) : List Value := ns.map fun (n : Nat) => Value.int .u16 (n : Int)
def pcs (ps : List (Nat × Nat)) : List Value := ps.flatMap fun p => [Value.int .u16 (p.1 : Int), Value.int .u16 (p.2 : Int)]
theorem wv_get (ns : List Nat) (j : Nat) (h : j < ns.length) : (wv ns)[j]? = some (.int .u16 (ns[j] : Nat)) := by simp [wv, h]
theorem pcs_append (a b : List (Nat × Nat)) : pcs (a ++ b) = pcs a ++ pcs b := by simp [pcs]
theorem pcs_one (p : Nat × Nat) : pcs [p] = [Value.int .u16 (p.1 : Int), Value.int .u16 (p.2 : Int)] := by simp [pcs]
theorem pcs_length (a : List (Nat × Nat)) : (pcs a).length = a.length * 2 := by
  induction a with
  | nil => rfl
  | cons p l ih => rw [show p :: l = [p] ++ l from rfl, pcs_append, List.length_append, ih, pcs_one]; simp; omega
/-- A number more; the pairs so far. -/
def far (n p : Nat) : Nat := (n + 65536 - p) % 65536
def stepL (p b n : Nat) (init : List (Nat × Nat)) : List (Nat × Nat) :=
  if 16 < far n p then init ++ [(p, b)] ++ [(n, 0)] else if far n p = 0 then init ++ [(p, b)] else init ++ [(p, if b / 2 ^ (far n p - 1) % 2 = 0 then b + 2 ^ (far n p - 1) else b)]
def stepP (out : List (Nat × Nat)) (n : Nat) : List (Nat × Nat) :=
  match out.getLast? with
  | none => [(n, 0)]
  | some (p, b) => stepL p b n out.dropLast
def pairsF (ns : List Nat) : List (Nat × Nat) := ns.foldl stepP []
theorem stepP_nil (n : Nat) : stepP [] n = [(n, 0)] := rfl
theorem stepP_snoc (init : List (Nat × Nat)) (p b n : Nat) : stepP (init ++ [(p, b)]) n = stepL p b n init := by simp [stepP]
theorem pairs_take (ns : List Nat) (k : Nat) (h : k < ns.length) : pairsF (ns.take (k + 1)) = stepP (pairsF (ns.take k)) ns[k] := by
  unfold pairsF
  rw [List.take_succ_eq_append_getElem h, List.foldl_append]
  rfl
/-- Pairs whose numbers have 16 digits. -/
def P16 (ps : List (Nat × Nat)) : Prop := ∀ q ∈ ps, q.1 < 65536 ∧ q.2 < 65536
theorem orw {b k : Nat} : (b ||| 2 ^ k) = (if b / 2 ^ k % 2 = 0 then b + 2 ^ k else b) := by
  have hpos := Nat.two_pow_pos k
  have hr : b % 2 ^ k < 2 ^ k := Nat.mod_lt _ hpos
  have hb : b = 2 ^ k * (b / 2 ^ k) + b % 2 ^ k := (Nat.div_add_mod b (2 ^ k)).symm
  split
  · rename_i h
    have hd : b / 2 ^ k = 2 * (b / 2 ^ k / 2) := by omega
    have hb2 : b = 2 ^ (k + 1) * (b / 2 ^ k / 2) + b % 2 ^ k := by
      rw [Nat.pow_succ, Nat.mul_assoc, ← hd]; exact hb
    have hr2 : b % 2 ^ k < 2 ^ (k + 1) := by rw [Nat.pow_succ]; omega
    generalize b / 2 ^ k / 2 = q at *
    generalize b % 2 ^ k = r at *
    clear hb hd h
    subst hb2
    have e1 := Nat.two_pow_add_eq_or_of_lt hr2 q
    have e2 := Nat.two_pow_add_eq_or_of_lt hr 1
    have hr3 : 2 ^ k * 1 + r < 2 ^ (k + 1) := by rw [Nat.pow_succ]; omega
    have e3 := Nat.two_pow_add_eq_or_of_lt hr3 q
    rw [show 2 ^ (k + 1) * q + r + 2 ^ k = 2 ^ (k + 1) * q + (2 ^ k * 1 + r) from by omega, e3, e1, e2, Nat.mul_one, Nat.or_assoc, Nat.or_comm r]
  · rename_i h
    have h1' : b / 2 ^ k % 2 = 1 := by omega
    apply Nat.eq_of_testBit_eq
    intro i
    rw [Nat.testBit_or, Nat.testBit_two_pow]
    by_cases hik : k = i
    · subst hik
      simp [Nat.testBit, Nat.shiftRight_eq_div_pow, h1']
    · simp [hik]
theorem or16 (b d : Nat) (hb : b < 65536) (hd : d < 16) : bits .or .u16 (b : Int) (IntKind.u16.wrap (2 ^ d)) = ((b ||| 2 ^ d : Nat) : Int) := by
  have h1 : 2 ^ d < 2 ^ 16 := Nat.pow_lt_pow_right (by decide) hd
  have e : IntKind.u16.wrap (2 ^ d) = ((2 ^ d : Nat) : Int) := by
    show ((2 : Int) ^ d) % 65536 = _
    have e2 : ((2 : Int) ^ d) = ((2 ^ d : Nat) : Int) := by simp
    rw [e2]
    generalize 2 ^ d = x at *
    omega
  rw [e, u16_or_nat b (2 ^ d) hb (by omega)]
theorem far_lt (n p : Nat) : far n p < 65536 := Nat.mod_lt _ (by decide)
theorem stepL_16 {p b n : Nat} {init : List (Nat × Nat)} (hi : P16 init) (hp : p < 65536) (hb : b < 65536) (hn : n < 65536) : P16 (stepL p b n init) := by
  unfold stepL
  split
  · intro q hq
    simp only [List.mem_append, List.mem_singleton] at hq
    rcases hq with (hq | rfl) | rfl
    · exact hi q hq
    · exact ⟨hp, hb⟩
    · exact ⟨hn, Nat.zero_lt_succ _⟩
  · split
    · intro q hq
      simp only [List.mem_append, List.mem_singleton] at hq
      rcases hq with hq | rfl
      · exact hi q hq
      · exact ⟨hp, hb⟩
    · rename_i h1 h2
      intro q hq
      simp only [List.mem_append, List.mem_singleton] at hq
      rcases hq with hq | rfl
      · exact hi q hq
      · refine ⟨hp, ?_⟩
        rw [← orw]
        exact Nat.or_lt_two_pow (n := 16) hb (Nat.pow_lt_pow_right (by decide) (by omega))
theorem stepP_16 {out : List (Nat × Nat)} {n : Nat} (ho : P16 out) (hn : n < 65536) : P16 (stepP out n) := by
  rcases List.eq_nil_or_concat out with rfl | ⟨init, q, rfl⟩
  · intro q hq
    simp [stepP] at hq
    subst hq
    exact ⟨hn, Nat.zero_lt_succ _⟩
  · rw [List.concat_eq_append] at *
    rw [stepP_snoc]
    have hq := ho q (by simp)
    exact stepL_16 (fun x hx => ho x (by simp [hx])) hq.1 hq.2 hn
theorem stepP_len (out : List (Nat × Nat)) (n : Nat) : (stepP out n).length ≤ out.length + 1 := by
  rcases List.eq_nil_or_concat out with rfl | ⟨init, q, rfl⟩
  · simp [stepP]
  · rw [List.concat_eq_append, stepP_snoc]
    unfold stepL
    split <;> (try split) <;> simp
theorem pairs_16 {ns : List Nat} (h : ∀ x ∈ ns, x < 65536) (k : Nat) : P16 (pairsF (ns.take k)) := by
  induction k with
  | zero => intro q hq; simp [pairsF] at hq
  | succ k ih =>
    by_cases hk : k < ns.length
    · rw [pairs_take ns k hk]
      exact stepP_16 ih (h _ (List.getElem_mem hk))
    · rw [List.take_of_length_le (by omega)] at ih ⊢
      exact ih
theorem pairs_len (ns : List Nat) (k : Nat) : (pairsF (ns.take k)).length ≤ k := by
  induction k with
  | zero => simp [pairsF]
  | succ k ih =>
    by_cases hk : k < ns.length
    · rw [pairs_take ns k hk]
      have := stepP_len (pairsF (ns.take k)) ns[k]
      omega
    · rw [List.take_of_length_le (by omega)] at ih ⊢
      omega
theorem infoPair : (Try.prog.info? 82).map (fun i => (i.zero, i.size, i.bytes)) = some (some (.agg #[(.int .u16 0), (.int .u16 0)]), 2, 4) := by kernel_rfl
theorem infoRPair : (Try.prog.info? 115).map (fun i => (i.zero, i.size, i.bytes)) = some (some (.agg #[(.int .u16 0), (.int .u16 0)]), 2, 4) := by kernel_rfl
theorem pair_one (a b : Int) : ∀ u ∈ [Value.int .u16 a, Value.int .u16 b], u.oneCell' = true := by
  intro u hu
  simp at hu
  rcases hu with rfl | rfl <;> rfl
theorem u16_sub (n p : Nat) (hn : n < 65536) (hp : p < 65536) : IntKind.u16.wrap ((n : Int) - (p : Int)) = (far n p : Int) := by
  unfold far
  show ((n : Int) - (p : Int)) % 65536 = _
  omega
/-- The pairs so far, in a row of the call's own. -/
structure PO (w0 w : World) (t : TypeId) (v : Value) (ps : List (Nat × Nat)) : Prop where
  own : w.ownsRow w0.heap.size t 2 v ps.length (pcs ps)
  kp : Kp (fun _ => True) w0 w
theorem PO.last {w0 w : World} {t : TypeId} {v : Value} {init : List (Nat × Nat)} {p b : Nat} (h : PO w0 w t v (init ++ [(p, b)])) :
    ∃ g c, v = .slice (some ⟨g, 0, none⟩) (init.length + 1) c ∧ w0.heap.size ≤ g ∧ w.cell? ⟨g, init.length * 2, none⟩ = some (.int .u16 (p : Int)) ∧ w.cell? ⟨g, init.length * 2 + 1, none⟩ = some (.int .u16 (b : Int)) ∧
      w.frozen? ⟨g, init.length * 2 + 1, none⟩ = false ∧ ∀ b' : Nat, PO w0 (w.setCell ⟨g, init.length * 2 + 1, none⟩ (.int .u16 (b' : Int))) t v (init ++ [(p, b')]) := by
  obtain ⟨ho, hk⟩ := h
  have hl : (init ++ [(p, b)]).length = init.length + 1 := by simp
  obtain ⟨g, c, rfl, _, _⟩ := ho.form (by omega)
  have hb := (ho.lt g rfl).1
  have hpc : pcs (init ++ [(p, b)]) = pcs init ++ [Value.int .u16 (p : Int), Value.int .u16 (b : Int)] := by rw [pcs_append, pcs_one]
  have hpl := pcs_length init
  have h0 : (pcs (init ++ [(p, b)]))[init.length * 2]? = some (.int .u16 (p : Int)) := by
    rw [hpc, List.getElem?_append_right (by omega), hpl, Nat.sub_self]; rfl
  have h1 : (pcs (init ++ [(p, b)]))[init.length * 2 + 1]? = some (.int .u16 (b : Int)) := by
    rw [hpc, List.getElem?_append_right (by omega), hpl, Nat.add_sub_cancel_left]; rfl
  refine ⟨g, c, by rw [hl], hb, ?_, ?_, ho.frozenAt _, fun b' => ?_⟩
  · rw [ho.cellAt _ (by omega)]; exact h0
  · rw [ho.cellAt _ (by omega)]; exact h1
  · have hs := (ho.stored (init.length * 2 + 1) (.int .u16 (b' : Int))).1
    have e : (pcs (init ++ [(p, b)])).set (init.length * 2 + 1) (.int .u16 (b' : Int)) = pcs (init ++ [(p, b')]) := by
      rw [hpc, pcs_append, pcs_one, List.set_append_right _ _ (by omega), hpl, Nat.add_sub_cancel_left]
      rfl
    rw [e] at hs
    refine ⟨?_, ((hk.mono (G := (· < w0.heap.size)) (fun _ _ _ => trivial)).set (p := g) (i := init.length * 2 + 1) (u := .int .u16 (b' : Int)) (fun k hk _ => by omega)).all⟩
    have e2 : (init ++ [(p, b')]).length = (init ++ [(p, b)]).length := by simp
    rw [e2]
    exact hs
theorem PO.drewN {w0 w : World} {t : TypeId} {v : Value} {ps : List (Nat × Nat)} (h : PO w0 w t v ps) (n : Nat) : PO w0 (w.drewN n) t v ps := ⟨h.own, h.kp.drewN n⟩
theorem PO.form {w0 w : World} {t : TypeId} {v : Value} {ps : List (Nat × Nat)} (h : PO w0 w t v ps) : ∃ A c, v = .slice A ps.length c := by
  obtain ⟨h1, h2⟩ := h.own
  rcases h2 with ⟨rfl, h3⟩ | ⟨g, cap, cur, rfl, _⟩
  · exact ⟨none, 0, by rw [h3]⟩
  · exact ⟨_, cap, rfl⟩
theorem PO.put {w0 w w' : World} {t : TypeId} {v v' : Value} {ps : List (Nat × Nat)} (h : PO w0 w t v ps) {n : Nat} (ho : w'.ownsRow w0.heap.size t 2 v' (ps.length + 1) (pcs ps ++ [.int .u16 (n : Int), .int .u16 0])) (hg : w.grownBy w' v.ownBlock) : PO w0 w' t v' (ps ++ [(n, 0)]) := by
  refine ⟨?_, ((h.kp.mono (G := (· < w0.heap.size)) (fun _ _ _ => trivial)).next (kp_own h.own hg) (fun _ hk _ => hk)).all⟩
  rw [pcs_append, pcs_one, List.length_append]
  exact ho
set_option maxHeartbeats 2000000 in
set_option maxRecDepth 100000 in
theorem fbPairs_any {w : World} {A : Option Addr} {n c : Nat} {ns : List Nat} (hs : Sl w (.slice A n c) (wv ns)) (hn : n = ns.length) (hb : ∀ x ∈ ns, x < 65536) (hl : n ≤ 1000000) :
    Calls Try.prog 21 #[.slice A n c] w fun e w' => ∃ v, e = .returned v ∧ PO w w' 82 v (pairsF ns) := by
  subst hn
  obtain ⟨i0, hi0, hz0, hz1, hz2⟩ := info_parts infoPair
  go_enter Try.func21, Try.ntmps21
  go_wp2
  go_step3
  go_wp2
  go_step3
  go_wp2
  go_loopw [2, 9] (fun (ov iv : Value) wr => ∃ k : Nat, k ≤ ns.length ∧ iv = .int .i64 k ∧ PO w wr 82 ov (pairsF (ns.take k))) (fun _ iv _ => ns.length - (intOf iv).toNat)
  case atStart => exact ⟨0, Nat.zero_le _, rfl, ⟨World.ownsRow_nil _ _ _ _, Kp.refl _ _⟩⟩
  case round =>
    obtain ⟨k, hk, rfl, hP⟩ := hrel
    by_cases hlt : k < ns.length
    · obtain ⟨g0, off, rfl, hg0, hcx⟩ := hs.at_ (wv_get ns k hlt)
      have hcx := hP.kp.cell_some hcx trivial
      have hn16 := hb _ (List.getElem_mem hlt)
      have HTK := hd (pairs_take ns k hlt)
      have h16 := pairs_16 hb k
      have hlen := pairs_len ns k
      generalize ns[k] = n at *
      generalize pairsF (ns.take k) = out at *
      obtain ⟨A1, c1, rfl⟩ := hP.form
      rcases List.eq_nil_or_concat out with rfl | ⟨init, ⟨p, b⟩, rfl⟩
      · go_wp2_with (at_builtin; (refine wpList_app rfl (.tmp 40) (.tmp 43) 22 rfl w.heap.size 82 i0 _ 2 4 Try.underlying22 hi0 hz0 hz1 hz2 rfl (by decide) _ 0 [] (by exact rfl) hP.own [.int .u16 (n : Int), .int .u16 0] 1 rfl rfl (pair_one _ _) (by omega) (by decide) hP.kp.size ?_); intro g9 c9 w9 ho9 hg9 _)
        go_roundw
        case rel => exact ⟨k + 1, by omega, by go_num, by rw [HTK.out, stepP_nil]; exact hP.put ho9 hg9⟩
        case measure => simp [intOf]; omega
      · rw [List.concat_eq_append] at *
        have hq := h16 (p, b) (by simp)
        obtain ⟨g, c2, he, hgw, hc0, hc1, hfz, hst⟩ := hP.last
        rw [he]
        have hll : (init ++ [(p, b)]).length = init.length + 1 := by simp
        have hu := hd (u16_sub n p hn16 hq.1)
        rw [hll] at hlen
        by_cases hf : 16 < far n p
        · have HS : Hd (stepP (init ++ [(p, b)]) n = init ++ [(p, b)] ++ [(n, 0)]) := hd (by rw [stepP_snoc, stepL, if_pos hf])
          rw [he] at hP
          have hle : decide ((far n p : Int) ≤ 16) = false := decide_eq_false (by omega)
          have hu := hu.out
          go_wp2_with (at_builtin; (refine wpList_app rfl (.tmp 40) (.tmp 43) 22 rfl w.heap.size 82 i0 _ 2 4 Try.underlying22 hi0 hz0 hz1 hz2 rfl (by decide) _ (init.length + 1) (pcs (init ++ [(p, b)])) (by exact rfl) (by have := hP.own; rw [hll] at this; exact this) [.int .u16 (n : Int), .int .u16 0] 1 rfl rfl (pair_one _ _) (by omega) (by decide) hP.kp.size ?_); intro g9 c9 w9 ho9 hg9 _)
          go_roundw
          case rel => exact ⟨k + 1, by omega, by go_num, by rw [HTK.out, HS.out]; exact hP.put (by rw [hll]; exact ho9) hg9⟩
          case measure => simp [intOf]; omega
        · have hle : decide ((far n p : Int) ≤ 16) = true := decide_eq_true (by omega)
          by_cases hz : far n p = 0
          · have HS : Hd (stepP (init ++ [(p, b)]) n = init ++ [(p, b)]) := hd (by rw [stepP_snoc, stepL, if_neg hf, if_pos hz])
            rw [hz] at hle hu
            rw [he] at hP
            have hu := hu.out
            go_wp2
            go_roundw
            case rel => exact ⟨k + 1, by omega, by go_num, by rw [HTK.out, HS.out]; exact hP⟩
            case measure => simp [intOf]; omega
          · obtain ⟨d, hd16, hd0⟩ : ∃ d, d < 16 ∧ far n p = d + 1 := ⟨far n p - 1, by omega, by omega⟩
            have HS : Hd (stepP (init ++ [(p, b)]) n = init ++ [(p, b ||| 2 ^ d)]) := hd (by rw [stepP_snoc, stepL, if_neg hf, if_neg hz, orw, hd0, Nat.add_sub_cancel])
            have hu := hu.out
            rw [hd0] at hle hu
            rw [he] at hP hst
            have hgt : decide (((d + 1 : Nat) : Int) > 0) = true := decide_eq_true (by omega)
            have hd1 : IntKind.u16.wrap (((d + 1 : Nat) : Int) - 1) = (d : Int) := by
              show (((d + 1 : Nat) : Int) - 1) % 65536 = _
              omega
            clear hP
            go_wp2
            go_roundw
            case rel =>
              refine ⟨k + 1, by omega, by go_num, ?_⟩
              rw [HTK.out, HS.out]
              have := hst (b ||| 2 ^ d)
              rw [← or16 b d hq.2 hd16] at this
              exact this
            case measure => simp [intOf]; omega
    · obtain rfl : k = ns.length := by omega
      rw [List.take_of_length_le (Nat.le_refl _)] at hP
      obtain ⟨A1, c1, rfl⟩ := hP.form
      go_wp2
      rw [Exit.noGoto_ret]
      go_ret
      exact ⟨_, rfl, hP⟩
/-- The reference's inner loop, and its round. -/
theorem q16 (b x : Nat) (hb : b < 65536) : (wrap64 ((b : Int) / (x : Int))).tmod 2 = ((b / x % 2 : Nat) : Int) := by
  have hle : b / x ≤ b := Nat.div_le_self _ _
  have e : (b : Int) / (x : Int) = ((b / x : Nat) : Int) := by simp
  rw [e]
  generalize b / x = y at *
  rw [IntWalk.wrap64_in _ (by omega), show (2 : Int) = ((2 : Nat) : Int) from rfl, ← Int.ofNat_tmod]
set_option maxHeartbeats 2000000 in
set_option maxRecDepth 100000 in
theorem r7Pairs_any {w : World} {A : Option Addr} {n c : Nat} {ns : List Nat} (hs : Sl w (.slice A n c) (wv ns)) (hn : n = ns.length) (hb : ∀ x ∈ ns, x < 65536) (hl : n ≤ 1000000) :
    Calls Try.prog 22 #[.slice A n c] w fun e w' => ∃ v, e = .returned v ∧ PO w w' 115 v (pairsF ns) := by
  subst hn
  obtain ⟨i0, hi0, hz0, hz1, hz2⟩ := info_parts infoRPair
  go_enter Try.func22, Try.ntmps22
  go_wp2
  go_loopw [3, 4] (fun (ov iv : Value) wr => ∃ k : Nat, k ≤ ns.length ∧ iv = .int .i64 k ∧ PO w wr 115 ov (pairsF (ns.take k))) (fun _ iv _ => ns.length - (intOf iv).toNat)
  case atStart => exact ⟨0, Nat.zero_le _, rfl, ⟨World.ownsRow_nil _ _ _ _, Kp.refl _ _⟩⟩
  case round =>
    obtain ⟨k, hk, rfl, hP⟩ := hrel
    by_cases hlt : k < ns.length
    · obtain ⟨g0, off, rfl, hg0, hcx⟩ := hs.at_ (wv_get ns k hlt)
      have hcx := hP.kp.cell_some hcx trivial
      have hn16 := hb _ (List.getElem_mem hlt)
      have HTK := hd (pairs_take ns k hlt)
      have h16 := pairs_16 hb k
      have hlen := pairs_len ns k
      generalize ns[k] = n at *
      generalize pairsF (ns.take k) = out at *
      obtain ⟨A1, c1, rfl⟩ := hP.form
      rcases List.eq_nil_or_concat out with rfl | ⟨init, ⟨p, b⟩, rfl⟩
      · go_wp2_with (at_builtin; (refine wpList_app rfl (.tmp 36) (.tmp 42) 26 rfl w.heap.size 115 i0 _ 2 4 Try.underlying26 hi0 hz0 hz1 hz2 rfl (by decide) _ 0 [] (by exact rfl) hP.own [.int .u16 (n : Int), .int .u16 0] 1 rfl rfl (pair_one _ _) (by omega) (by decide) hP.kp.size ?_); intro g9 c9 w9 ho9 hg9 _)
        go_roundw
        case rel => exact ⟨k + 1, by omega, by go_num, by rw [HTK.out, stepP_nil]; exact hP.put ho9 hg9⟩
        case measure => simp [intOf]; omega
      · rw [List.concat_eq_append] at *
        have hq := h16 (p, b) (by simp)
        obtain ⟨g, c2, he, hgw, hc0, hc1, hfz, hst⟩ := hP.last
        rw [he]
        have hll : (init ++ [(p, b)]).length = init.length + 1 := by simp
        rw [hll] at hlen
        have hu : Hd (((n : Int) - (p : Int) + 65536) % 65536 = (far n p : Int)) := hd (by unfold far; omega)
        have hp16 := hq.1
        have hb16 := hq.2
        simp only at hp16 hb16
        by_cases hf : 16 < far n p
        · have HS : Hd (stepP (init ++ [(p, b)]) n = init ++ [(p, b)] ++ [(n, 0)]) := hd (by rw [stepP_snoc, stepL, if_pos hf])
          rw [he] at hP
          have hfl := far_lt n p
          have hle : decide ((16 : Int) < (far n p : Int)) = true := decide_eq_true (by omega)
          go_wp2
          go_quiet (fail)
          rw [hu.out]
          have hPn := hP.drewN nq
          have hcxn : (wr.drewN nq).cell? ⟨g0, off + k, none⟩ = _ := hcx
          generalize wr.drewN nq = w1 at *
          clear hP hc0 hc1 hst hfz
          go_wp2_with (at_builtin; (refine wpList_app rfl (.tmp 36) (.tmp 42) 26 rfl w.heap.size 115 i0 _ 2 4 Try.underlying26 hi0 hz0 hz1 hz2 rfl (by decide) _ (init.length + 1) (pcs (init ++ [(p, b)])) (by exact rfl) (by have := hPn.own; rw [hll] at this; exact this) [.int .u16 (n : Int), .int .u16 0] 1 rfl rfl (pair_one _ _) (by omega) (by decide) hPn.kp.size ?_); intro g9 c9 w9 ho9 hg9 _)
          go_roundw
          case rel => exact ⟨k + 1, by omega, by go_num, by rw [HTK.out, HS.out]; exact hPn.put (by rw [hll]; exact ho9) hg9⟩
          case measure => simp [intOf]; omega
        · have hle : decide ((16 : Int) < (far n p : Int)) = false := decide_eq_false (by omega)
          by_cases hz : far n p = 0
          · have HS : Hd (stepP (init ++ [(p, b)]) n = init ++ [(p, b)]) := hd (by rw [stepP_snoc, stepL, if_neg hf, if_pos hz])
            rw [he] at hP
            have hgt : decide ((0 : Int) < (far n p : Int)) = false := decide_eq_false (by omega)
            go_wp2
            go_quiet (fail)
            rw [hu.out]
            have hPn := hP.drewN nq
            generalize wr.drewN nq = w1 at *
            clear hP hc0 hc1 hst hfz
            go_wp2
            go_roundw
            case rel => exact ⟨k + 1, by omega, by go_num, by rw [HTK.out, HS.out]; exact hPn⟩
            case measure => simp [intOf]; omega
          · obtain ⟨d, hd16, hd0⟩ : ∃ d, d < 16 ∧ far n p = d + 1 := ⟨far n p - 1, by omega, by omega⟩
            have HS : Hd (stepP (init ++ [(p, b)]) n = init ++ [(p, if b / 2 ^ d % 2 = 0 then b + 2 ^ d else b)]) := hd (by rw [stepP_snoc, stepL, if_neg hf, if_neg hz, hd0, Nat.add_sub_cancel])
            rw [hd0] at hle hu
            rw [he] at hP hst
            have hgt : decide ((0 : Int) < ((d + 1 : Nat) : Int)) = true := decide_eq_true (by omega)
            clear hf hz hd0
            go_wp2
            go_quiet (fail)
            rw [hu.out]
            have hPn := hP.drewN nq
            have hstn : ∀ b' : Nat, PO w ((wr.drewN nq).setCell ⟨g, init.length * 2 + 1, none⟩ (.int .u16 (b' : Int))) 115 (.slice (some ⟨g, 0, none⟩) (init.length + 1) c2) (init ++ [(p, b')]) := fun b' => (hst b').drewN nq
            have hc0n : (wr.drewN nq).cell? _ = _ := hc0
            have hc1n : (wr.drewN nq).cell? _ = _ := hc1
            have hfzn : (wr.drewN nq).frozen? _ = _ := hfz
            generalize wr.drewN nq = w1 at *
            clear hP hc0 hc1 hst hfz hcx
            go_wp2
            go_loopw [7, 8] (fun (dv jv : Value) wx => wx = w1 ∧ ∃ j : Nat, j ≤ d ∧ jv = .int .i64 ((j : Int) + 1) ∧ dv = .int .i64 ((2 ^ j : Nat) : Int)) (fun _ jv _ => d + 1 - (intOf jv).toNat)
            case atStart => exact ⟨rfl, 0, Nat.zero_le _, rfl, rfl⟩
            case round =>
              obtain ⟨rfl, j, hj, rfl, rfl⟩ := hrel
              have hpow : 2 ^ j < 2 ^ 16 := Nat.pow_lt_pow_right (by decide) (by omega)
              have hpow1 : 0 < 2 ^ j := Nat.two_pow_pos j
              by_cases hjd : j < d
              · have hjl : decide ((j : Int) + 1 < ((d + 1 : Nat) : Int)) = true := decide_eq_true (by omega)
                have hps : Hd (2 ^ (j + 1) = 2 ^ j * 2) := hd (Nat.pow_succ 2 j)
                generalize 2 ^ j = x at *
                go_wp2
                go_roundw
                case rel => exact ⟨trivial, j + 1, by omega, by go_num, by rw [hps.out]; go_num⟩
                case measure => simp [intOf]; omega
              · obtain rfl : j = d := by omega
                have hjl : decide ((j : Int) + 1 < ((j + 1 : Nat) : Int)) = false := decide_eq_false (by omega)
                have hmx : b / 2 ^ j % 2 = 0 → b + 2 ^ j < 65536 := fun hz => by
                  have := Nat.or_lt_two_pow (n := 16) hb16 hpow
                  rw [orw, if_pos hz] at this
                  exact this
                have hqq := q16 b (2 ^ j) hb16
                generalize 2 ^ j = x at *
                have hxne : ¬ ((x : Int) = 0) := by omega
                by_cases hz : b / x % 2 = 0
                · rw [if_pos hz] at HS
                  have hm := hmx hz
                  have hq2 : ((wrap64 ((b : Int) / (x : Int))).tmod 2 == 0) = true := by rw [hqq, hz]; rfl
                  clear hqq hmx
                  go_wp2
                  go_roundw
                  case rel => exact ⟨k + 1, by omega, by go_num, by rw [HTK.out, HS.out]; exact hstn (b + x)⟩
                  case measure => simp [intOf]; omega
                · rw [if_neg hz] at HS
                  have hq2 : ((wrap64 ((b : Int) / (x : Int))).tmod 2 == 0) = false := by rw [hqq, beq_eq_false_iff_ne]; omega
                  clear hqq hmx
                  go_wp2
                  go_roundw
                  case rel => exact ⟨k + 1, by omega, by go_num, by rw [HTK.out, HS.out]; exact hPn⟩
                  case measure => simp [intOf]; omega
    · obtain rfl : k = ns.length := by omega
      rw [List.take_of_length_le (Nat.le_refl _)] at hP
      obtain ⟨A1, c1, rfl⟩ := hP.form
      go_wp2
      go_ret
      exact ⟨_, rfl, hP⟩
end Go.Proofs.Ytjcejgolcdgipaa
