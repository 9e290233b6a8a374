/- Chapter 03, plain: what the reference's functions come to; ExtPuts and ExtBack come to true for all elements and bytes. No walk. -/
import Derived.Test.YtoonnlphfanmhaaK3E
import Derived.Test.YtoonnlphfanmhaaK3x5
import Derived.Test.YtoonnlphfanmhaaK3x4
namespace Go.Proofs.Ytoonnlphfanmhaa

/-! digits of bytes -/
theorem ofn_getD (x : Nat) : ∀ k j, j < k → (ofn x k).getD j 0 = x / 2 ^ (k - 1 - j) % 2
  | 0, j, h => absurd h (by omega)
  | k + 1, 0, _ => by simp [ofn]
  | k + 1, j + 1, h => by
    have := ofn_getD x k j (by omega)
    simp only [ofn, List.getD_cons_succ]
    rw [this, show k + 1 - 1 - (j + 1) = k - 1 - j by omega]
theorem bd_dgs (bs : List Nat) : Dgs (bd bs) := by
  intro d hd
  obtain ⟨b, _, h⟩ := List.mem_flatMap.1 hd
  exact ofn_lt b 8 d h
theorem bd_getD (bs : List Nat) : ∀ i, (bd bs).getD i 0 = dig bs i := by
  induction bs with
  | nil => intro i; simp [bd, dig]
  | cons b bs ih =>
    intro i
    have hb : bd (b :: bs) = ofn b 8 ++ bd bs := by simp [bd]
    rw [hb]
    by_cases h : i < 8
    · rw [List.getD_eq_getElem?_getD, List.getElem?_append_left (by rw [ofn_length]; exact h), ← List.getD_eq_getElem?_getD, ofn_getD _ _ _ h]
      unfold dig
      rw [show i / 8 = 0 by omega, show i % 8 = i by omega]
      simp
    · rw [List.getD_eq_getElem?_getD, List.getElem?_append_right (by rw [ofn_length]; omega), ofn_length, ← List.getD_eq_getElem?_getD, ih]
      unfold dig
      rw [show i / 8 = (i - 8) / 8 + 1 by omega, show (i - 8) % 8 = i % 8 by omega]
      simp
theorem eq_of_dig {a b : List Nat} (ha : Bts a) (hb : Bts b) (hl : a.length = b.length) (h : ∀ i, dig a i = dig b i) : a = b := by
  apply List.ext_getElem hl
  intro i h1 h2
  have e1 := vl_byte a i (ha.getD i)
  have e2 := vl_byte b i (hb.getD i)
  have : vl a (8 * i) 8 = vl b (8 * i) 8 := vf_congr _ _ _ _ (fun j _ _ => h j)
  rw [e1, e2] at this
  simpa [h1, h2] using this
theorem pack_bd {bs : List Nat} (h : Bts bs) : pack (bd bs) = bs := by
  refine eq_of_dig (pack_bytes (bd_dgs bs)) h (by rw [pack_length, bd_length]; omega) (fun i => ?_)
  rw [dig_pack (bd_dgs bs), bd_getD]

/-! elements put -/
def hdB (one : Bool) (p : Nat × List Nat) : List Nat := if one = true then [p.1 * 16 + p.2.length - 1] else [p.1, p.2.length]
def putB (one : Bool) (E : List (Nat × List Nat)) : List Nat := E.flatMap fun p => hdB one p ++ p.2
def pad4 (bs : List Nat) : List Nat := bs ++ List.replicate ((4 - bs.length % 4) % 4) 0
def OkEl (one : Bool) (x : Nat × List Nat) : Prop := Bts x.2 ∧ (if one = true then 1 ≤ x.1 ∧ x.1 ≤ 14 ∧ 1 ≤ x.2.length ∧ x.2.length ≤ 16 else 1 ≤ x.1 ∧ x.1 ≤ 255 ∧ x.2.length ≤ 255)
theorem putB_cons (one : Bool) (x : Nat × List Nat) (E : List (Nat × List Nat)) : putB one (x :: E) = hdB one x ++ (x.2 ++ putB one E) := by simp [putB]
theorem putB_snoc (one : Bool) (E : List (Nat × List Nat)) (x : Nat × List Nat) : putB one (E ++ [x]) = putB one E ++ (hdB one x ++ x.2) := by simp [putB]
theorem pad4_mod (bs : List Nat) : (pad4 bs).length % 4 = 0 := by unfold pad4; rw [List.length_append, List.length_replicate]; omega
theorem pad4_le (bs : List Nat) (n : Nat) (h : bs.length ≤ n) (hn : n % 4 = 0) : (pad4 bs).length ≤ n := by unfold pad4; rw [List.length_append, List.length_replicate]; omega
theorem hdB_bts {one : Bool} {x : Nat × List Nat} (h : OkEl one x) : Bts (hdB one x) := by
  obtain ⟨_, h⟩ := h
  unfold hdB
  cases one
  · simp at h ⊢
    intro b hb
    simp at hb
    omega
  · simp at h ⊢
    intro b hb
    simp at hb
    omega
theorem putB_bts {one : Bool} {E : List (Nat × List Nat)} (h : ∀ x ∈ E, OkEl one x) : Bts (putB one E) := by
  intro b hb
  obtain ⟨x, hx, hb⟩ := List.mem_flatMap.1 hb
  rcases List.mem_append.1 hb with hb | hb
  · exact hdB_bts (h x hx) b hb
  · exact (h x hx).1 b hb
theorem pad4_bts {bs : List Nat} (h : Bts bs) : Bts (pad4 bs) := h.append (fun b hb => by rw [List.eq_of_mem_replicate hb]; decide)
theorem nib (a b : Nat) (ha : a < 16) (hb : b < 16) : ofn a 4 ++ ofn b 4 = ofn (a * 16 + b) 8 := by
  have : ∀ a, a < 16 → ∀ b, b < 16 → ofn a 4 ++ ofn b 4 = ofn (a * 16 + b) 8 := by decide
  exact this a ha b hb
theorem putD_one {E : List (Nat × List Nat)} (h : ∀ x ∈ E, OkEl true x) : putD 4 1 E = bd (putB true E) := by
  induction E with
  | nil => rfl
  | cons x E ih =>
    have h1 := (h x List.mem_cons_self).2
    simp at h1
    have h2 : putD 4 1 (x :: E) = elD 4 1 x ++ putD 4 1 E := by simp [putD]
    rw [h2, ih (fun y hy => h y (List.mem_cons_of_mem _ hy)), putB_cons, bd_append, bd_append, ← List.append_assoc]
    congr 1
    unfold elD hdB
    rw [if_pos rfl, ← List.append_assoc, nib _ _ (by omega) (by omega), bd_single, show x.1 * 16 + (x.2.length - 1) = x.1 * 16 + x.2.length - 1 by omega]
theorem putD_two {E : List (Nat × List Nat)} : putD 8 0 E = bd (putB false E) := by
  induction E with
  | nil => rfl
  | cons x E ih =>
    have h2 : putD 8 0 (x :: E) = elD 8 0 x ++ putD 8 0 E := by simp [putD]
    rw [h2, ih, putB_cons, bd_append, bd_append, ← List.append_assoc]
    congr 1
theorem bd_zeros (n : Nat) : bd (List.replicate n 0) = List.replicate (8 * n) 0 := by
  induction n with
  | zero => rfl
  | succ n ih =>
    rw [List.replicate_succ, show (0 :: List.replicate n 0) = [0] ++ List.replicate n 0 from rfl, bd_append, ih, bd_single, show 8 * (n + 1) = 8 + 8 * n by omega, ← List.replicate_append_replicate]
    rfl
theorem pack_fill {bs : List Nat} (h : Bts bs) : pack (bd bs ++ List.replicate (fillN (bd bs).length 32) 0) = pad4 bs := by
  have hf : fillN (bd bs).length 32 = 8 * ((4 - bs.length % 4) % 4) := by
    rw [bd_length]
    unfold fillN
    simp only [show Int.toNat 32 = 32 from rfl]
    rw [if_pos (by decide)]
    omega
  rw [hf, ← bd_zeros, ← bd_append]
  exact pack_bd (pad4_bts h)
theorem may_one {x : Nat × List Nat} (h : mayB 14 1 16 x.1 x.2.length = true) (hb : Bts x.2) : OkEl true x := by
  unfold mayB at h
  simp at h
  exact ⟨hb, by simp; omega⟩
theorem may_two {x : Nat × List Nat} (h : mayB 255 0 255 x.1 x.2.length = true) (hb : Bts x.2) : OkEl false x := by
  unfold mayB at h
  simp at h
  exact ⟨hb, by simp; omega⟩
theorem one_may {x : Nat × List Nat} (h : OkEl true x) : mayB 14 1 16 x.1 x.2.length = true := by
  have := h.2
  simp at this
  unfold mayB
  simp; omega
theorem two_may {x : Nat × List Nat} (h : OkEl false x) : mayB 255 0 255 x.1 x.2.length = true := by
  have := h.2
  simp at this
  unfold mayB
  simp; omega

/-! what is put is parsed as it was -/
theorem parse_zeros {one : Bool} {R : List (Nat × List Nat) × Nat} {acc : List (Nat × List Nat)} : ∀ (z : Nat) (pre : List Nat), Still one (pre ++ List.replicate z 0) R pre.length acc → R = (acc, 0)
  | 0, pre, h => h.end_ (by simp)
  | z + 1, pre, h => by
    have h2 := h.pad (by simp) (by simp)
    have := parse_zeros (one := one) (R := R) (acc := acc) z (pre ++ [0]) (by
      simpa [List.replicate_succ, List.append_assoc] using h2)
    exact this
theorem parse_put {one : Bool} {R : List (Nat × List Nat) × Nat} (z : Nat) : ∀ (E : List (Nat × List Nat)) (pre : List Nat) (acc : List (Nat × List Nat)), (∀ x ∈ E, OkEl one x) → Still one (pre ++ (putB one E ++ List.replicate z 0)) R pre.length acc → R = (acc ++ E, 0)
  | [], pre, acc, _, h => by
    rw [List.append_nil]
    exact parse_zeros z pre (by simpa [putB] using h)
  | x :: E, pre, acc, hE, h => by
    have hx := (hE x List.mem_cons_self).2
    rw [putB_cons] at h
    have ih := parse_put (one := one) (R := R) z E (pre ++ (hdB one x ++ x.2)) (acc ++ [x]) (fun y hy => hE y (List.mem_cons_of_mem _ hy))
    rw [List.append_assoc] at ih
    have hq : pre ++ (hdB one x ++ (x.2 ++ putB one E) ++ List.replicate z 0) = pre ++ (hdB one x ++ x.2 ++ (putB one E ++ List.replicate z 0)) := by simp [List.append_assoc]
    rw [hq] at h
    have goal : acc ++ x :: E = acc ++ [x] ++ E := by simp
    rw [goal]
    apply ih
    cases one
    · simp [hdB] at hx h ⊢
      generalize hr : (putB false E ++ List.replicate z 0) = rest at *
      have g0 : (pre ++ x.1 :: x.2.length :: (x.2 ++ rest)).getD pre.length 0 = x.1 := by simp
      have g1 : (pre ++ x.1 :: x.2.length :: (x.2 ++ rest)).getD (pre.length + 1) 0 = x.2.length := by simp [List.getD_eq_getElem?_getD]
      have h2 := h.two_ (by simp) (by rw [g0]; omega) (by simp) (by rw [g1]; simp; omega)
      rw [g0, g1] at h2
      have ht : ((pre ++ x.1 :: x.2.length :: (x.2 ++ rest)).drop (pre.length + 2)).take x.2.length = x.2 := by
        rw [show pre ++ x.1 :: x.2.length :: (x.2 ++ rest) = (pre ++ [x.1, x.2.length]) ++ (x.2 ++ rest) by simp, show pre.length + 2 = (pre ++ [x.1, x.2.length]).length by simp, List.drop_left, List.take_left]
      rw [ht] at h2
      rw [show pre.length + (x.2.length + 1 + 1) = pre.length + 2 + x.2.length by omega]
      exact h2
    · simp [hdB] at hx h ⊢
      generalize hr : (putB true E ++ List.replicate z 0) = rest at *
      have g0 : (pre ++ (x.1 * 16 + x.2.length - 1) :: (x.2 ++ rest)).getD pre.length 0 = x.1 * 16 + x.2.length - 1 := by simp
      have h2 := h.one_ (by simp) (by rw [g0]; omega) (by rw [g0]; omega) (by rw [g0]; omega) (by rw [g0]; simp; omega)
      rw [g0, show (x.1 * 16 + x.2.length - 1) / 16 = x.1 by omega, show (x.1 * 16 + x.2.length - 1) % 16 + 1 = x.2.length by omega] at h2
      have ht : ((pre ++ (x.1 * 16 + x.2.length - 1) :: (x.2 ++ rest)).drop (pre.length + 1)).take x.2.length = x.2 := by
        rw [show pre ++ (x.1 * 16 + x.2.length - 1) :: (x.2 ++ rest) = (pre ++ [x.1 * 16 + x.2.length - 1]) ++ (x.2 ++ rest) by simp, show pre.length + 1 = (pre ++ [x.1 * 16 + x.2.length - 1]).length by simp, List.drop_left, List.take_left]
      rw [ht] at h2
      rw [show pre.length + (x.2.length + 1) = pre.length + 1 + x.2.length by omega]
      exact h2
theorem extP_put {p : Nat} {E : List (Nat × List Nat)} (hk : isKnown p = true) (hE : ∀ x ∈ E, OkEl (isOne p) x) : extP p (pad4 (putB (isOne p) E)) = (E, 0) := by
  unfold extP
  rw [if_neg (by rw [hk]; decide), if_neg (by rw [pad4_mod]; decide)]
  have := parse_put (one := isOne p) (R := prs (isOne p) (pad4 (putB (isOne p) E)) ((pad4 (putB (isOne p) E)).length + 1) 0 []) ((4 - (putB (isOne p) E).length % 4) % 4) E [] [] hE ⟨_, by simp [pad4], rfl⟩
  rw [this, List.nil_append]

/-! what is parsed may be put, in no more bytes -/
theorem prs_ok {one : Bool} {bs : List Nat} (hb : Bts bs) : ∀ f i acc, (∀ x ∈ acc, OkEl one x) → (putB one acc).length ≤ i → i ≤ bs.length → (prs one bs f i acc).2 = 0 →
    (∀ x ∈ (prs one bs f i acc).1, OkEl one x) ∧ (putB one (prs one bs f i acc).1).length ≤ bs.length
  | 0, i, acc, h1, h2, h3, _ => ⟨h1, Nat.le_trans h2 h3⟩
  | f + 1, i, acc, h1, h2, h3, h0 => by
    have hbi := hb.getD i
    have hbj := hb.getD (i + 1)
    simp only [prs] at h0 ⊢
    split at h0
    · rename_i hc
      rw [if_pos hc]
      exact ⟨h1, Nat.le_trans h2 h3⟩
    rename_i hc
    rw [if_neg hc]
    split at h0
    · rename_i hz
      rw [if_pos hz]
      exact prs_ok hb f _ _ h1 (by omega) (by omega) h0
    rename_i hz
    rw [if_neg hz]
    split at h0
    · rename_i ho
      subst ho
      rw [if_pos rfl]
      split at h0
      · rename_i hs
        rw [if_pos hs]
        exact ⟨h1, Nat.le_trans h2 h3⟩
      rename_i hs
      rw [if_neg hs]
      split at h0
      · simp at h0
      rename_i hs2
      rw [if_neg hs2]
      split at h0
      · simp at h0
      rename_i hs3
      rw [if_neg hs3]
      have hl : ((bs.drop (i + 1)).take (bs.getD i 0 % 16 + 1)).length = bs.getD i 0 % 16 + 1 := by rw [List.length_take, List.length_drop]; omega
      refine prs_ok hb f _ _ (fun x hx => ?_) ?_ (by omega) h0
      · rcases List.mem_append.1 hx with hx | hx
        · exact h1 x hx
        · rw [List.mem_singleton.1 hx]
          refine ⟨(hb.drop _).take _, ?_⟩
          simp only [if_true]
          rw [hl]
          omega
      · rw [putB_snoc, List.length_append, List.length_append, hl]
        simp [hdB]
        omega
    · rename_i ho
      rw [if_neg ho]
      have ho' : one = false := by simpa using ho
      subst ho'
      split at h0
      · simp at h0
      rename_i hs2
      rw [if_neg hs2]
      split at h0
      · simp at h0
      rename_i hs3
      rw [if_neg hs3]
      have hl : ((bs.drop (i + 2)).take (bs.getD (i + 1) 0)).length = bs.getD (i + 1) 0 := by rw [List.length_take, List.length_drop]; omega
      refine prs_ok hb f _ _ (fun x hx => ?_) ?_ (by omega) h0
      · rcases List.mem_append.1 hx with hx | hx
        · exact h1 x hx
        · rw [List.mem_singleton.1 hx]
          refine ⟨(hb.drop _).take _, ?_⟩
          simp only [Bool.false_eq_true, if_false]
          rw [hl]
          omega
      · rw [putB_snoc, List.length_append, List.length_append, hl]
        simp [hdB]
        omega
theorem extP_ok {p : Nat} {bs : List Nat} (hb : Bts bs) (h : (extP p bs).2 = 0) : isKnown p = true ∧ (∀ x ∈ (extP p bs).1, OkEl (isOne p) x) ∧ (pad4 (putB (isOne p) (extP p bs).1)).length ≤ bs.length := by
  unfold extP at h ⊢
  split at h
  · simp at h
  rename_i hk
  rw [if_neg hk]
  split at h
  · simp at h
  rename_i h4
  rw [if_neg h4]
  obtain ⟨h1, h2⟩ := prs_ok hb _ _ _ (by simp) (by simp [putB]) (Nat.zero_le _) h
  exact ⟨by simpa using hk, h1, pad4_le _ _ h2 (by omega)⟩
end Go.Proofs.Ytoonnlphfanmhaa

namespace Go.Proofs.Ytoonnlphfanmhaa.K3
open Go.RowKit Go.Proofs.YtoonnlphfanmhaaW.PrintWords Go.Proofs.YtoonnlphfanmhaaW.PrintLast Go.Proofs.YtoonnlphfanmhaaW.PrintMore

theorem wrap_succ (i : Nat) (h : i ≤ 1000000000) : wrap64 ((i : Int) + 1) = ((i + 1 : Nat) : Int) := by
  unfold wrap64; omega
theorem wrap_id (x : Int) (h0 : -1000000000000 ≤ x) (h : x ≤ 1000000000000) : wrap64 x = x := by
  unfold wrap64; omega
def toT (p : Nat × List Nat) : S115 := ⟨(p.1 : Int), ib p.2⟩
section
variable {E : List (Nat × List Nat)} {i : Nat}
theorem rdS (h : i < E.length) : rd_T64 (E.map toS) (i : Int) = toS E[i] := by
  unfold rd_T64
  simp [h]
theorem rdT (h : i < E.length) : rd_T115 (E.map toT) (i : Int) = toT E[i] := by
  unfold rd_T115
  simp [h]
end

theorem ev_sameBytes_l (a : List Int) (hl : a.length ≤ 1000000000) : ∀ d i, i + d = a.length → Ev (fun k => easelkit_SameBytes.l0 k a a (i : Int)) true
  | 0, i, h => Ev.step (f := fun _ => some true) (fun k => by simp only [easelkit_SameBytes.l0]; rw [if_neg (by omega)]) (Ev.now _)
  | d + 1, i, h => Ev.step (f := fun k => easelkit_SameBytes.l0 k a a ((i + 1 : Nat) : Int)) (fun k => by
      simp only [easelkit_SameBytes.l0]
      rw [if_pos (by omega), if_pos (by omega), if_pos (by omega), if_pos trivial, wrap_succ i (by omega)]) (ev_sameBytes_l a hl d (i + 1) (by omega))
theorem ev_sameBytes (a : List Int) (hl : a.length ≤ 1000000000) : Ev (fun k => easelkit_SameBytes.f k a a) true :=
  Ev.congr (fun k => by unfold easelkit_SameBytes.f; rw [if_pos rfl]; rfl) (ev_sameBytes_l a hl a.length 0 (by omega))
theorem ev_spoil_l : ∀ d (a : List Int) i, a.length ≤ 1000000000 → i + d = a.length → ∃ r, Ev (fun k => easelkit_Spoil.l0 k a (i : Int)) r
  | 0, a, i, _, h => ⟨a, Ev.step (f := fun _ => some a) (fun k => by simp only [easelkit_Spoil.l0]; rw [if_neg (by omega)]) (Ev.now _)⟩
  | d + 1, a, i, hl, h => by
    obtain ⟨r, hr⟩ := ev_spoil_l d (a.set i 165) (i + 1) (by simpa using hl) (by simp; omega)
    exact ⟨r, Ev.step (f := fun k => easelkit_Spoil.l0 k (a.set i 165) ((i + 1 : Nat) : Int)) (fun k => by
      simp only [easelkit_Spoil.l0]
      rw [if_pos (by omega), if_pos (by omega), wrap_succ i (by omega), Int.toNat_natCast]) hr⟩
theorem ev_spoil (a : List Int) (hl : a.length ≤ 1000000000) : ∃ r, Ev (fun k => easelkit_Spoil.f k a) r := ev_spoil_l a.length a 0 hl (by omega)

/-- Lengths that are not too great. -/
def Fair (E : List (Nat × List Nat)) : Prop := E.length ≤ 100000 ∧ ∀ x ∈ E, x.1 < 256 ∧ Bts x.2 ∧ x.2.length ≤ 100000
theorem Fair.at_ {E : List (Nat × List Nat)} (h : Fair E) {i : Nat} (hi : i < E.length) : E[i].1 < 256 ∧ Bts E[i].2 ∧ E[i].2.length ≤ 100000 := h.2 _ (List.getElem_mem hi)
theorem Fair.ok {E : List (Nat × List Nat)} (h : Fair E) : OkEs (E.map toS) := by
  refine ⟨by rw [List.length_map]; exact h.1, fun y hy => ?_⟩
  obtain ⟨x, hx, rfl⟩ := List.mem_map.1 hy
  obtain ⟨h1, h2, h3⟩ := h.2 x hx
  exact ⟨by show (0 : Int) ≤ (x.1 : Int); omega, by show (x.1 : Int) < 256; omega, ib_oks h2, by show (ib x.2).length ≤ _; rw [ib_length]; exact h3⟩
theorem ofS_toS (x : Nat × List Nat) : ofS (toS x) = x := by unfold ofS toS; simp [nb_ib]
theorem map_ofS (E : List (Nat × List Nat)) : (E.map toS).map ofS = E := by
  rw [List.map_map]
  conv => rhs; rw [← List.map_id E]
  exact List.map_congr_left (fun x _ => ofS_toS x)

theorem ev_same_l {E : List (Nat × List Nat)} (hE : Fair E) : ∀ d i, i + d = E.length → Ev (fun k => easellaw03_same.l0 k (E.map toS) (E.map toT) (i : Int)) true
  | 0, i, h => Ev.step (f := fun _ => some true) (fun k => by simp only [easellaw03_same.l0]; rw [if_neg (by rw [List.length_map]; omega)]) (Ev.now _)
  | d + 1, i, h => by
    have hlt : i < E.length := by omega
    have hl := hE.1
    refine Ev.step (f := fun k => (easelkit_SameBytes.f k (toS E[i]).f1 (toT E[i]).f1).bind fun t => (if t = true then (easellaw03_same.l0 k (E.map toS) (E.map toT) ((i + 1 : Nat) : Int)) else (some false))) (fun k => ?_) (Ev.bind (ev_sameBytes _ ?_) (Ev.congr (fun k => if_pos rfl) (ev_same_l hE d (i + 1) (by omega))))
    · simp only [easellaw03_same.l0]
      rw [if_pos (by rw [List.length_map]; omega), if_pos (by omega), if_pos (by rw [List.length_map]; omega), rdS hlt, rdT hlt, if_pos (show (toS E[i]).f0 = (toT E[i]).f0 from rfl), wrap_succ i (by omega)]
    · show (ib E[i].2).length ≤ _
      rw [ib_length]
      have := (hE.at_ hlt).2.2
      omega
theorem ev_same {E : List (Nat × List Nat)} (hE : Fair E) : Ev (fun k => easellaw03_same.f k (E.map toS) (E.map toT)) true :=
  Ev.congr (fun k => by unfold easellaw03_same.f; rw [if_pos (by rw [List.length_map, List.length_map])]; rfl) (ev_same_l hE E.length 0 (by omega))

theorem ev_refs_l {E : List (Nat × List Nat)} (hE : Fair E) : ∀ d i, i + d = E.length → Ev (fun k => easellaw03_refs.l0 k (E.map toS) ((E.take i).map toT) (i : Int)) (E.map toT)
  | 0, i, h => Ev.step (f := fun _ => some (E.map toT)) (fun k => by
      simp only [easellaw03_refs.l0]; rw [if_neg (by rw [List.length_map]; omega), List.take_of_length_le (by omega)]) (Ev.now _)
  | d + 1, i, h => by
    have hlt : i < E.length := by omega
    have hl := hE.1
    have hd := (hE.at_ hlt).2.2
    refine Ev.step (f := fun k => easellaw03_refs.l0 k (E.map toS) ((E.take (i + 1)).map toT) ((i + 1 : Nat) : Int)) (fun k => ?_) (ev_refs_l hE d (i + 1) (by omega))
    have ho : easelkit_Own.f (toS E[i]).f1 = some (ib E[i].2) := by
      unfold easelkit_Own.f
      show (if ([] : List Int).length + (ib E[i].2).length < 140737488355328 then some (([] : List Int) ++ ib E[i].2) else none) = _
      rw [ib_length, if_pos (by simp; omega)]
      simp
    simp only [easellaw03_refs.l0]
    rw [if_pos (by rw [List.length_map]; omega), if_pos (by omega), rdS hlt, ho, wrap_succ i (by omega)]
    simp only [Option.bind_some]
    rw [if_pos (by rw [List.length_map, List.length_take]; omega), List.take_succ_eq_append_getElem hlt, List.map_append]
    rfl
theorem ev_refs {E : List (Nat × List Nat)} (hE : Fair E) : Ev (fun k => easellaw03_refs.f k (E.map toS)) (E.map toT) := ev_refs_l hE E.length 0 (by omega)

def fewB (E : List (Nat × List Nat)) : Bool := decide (E.length ≤ 12) && E.all (fun x => decide (x.2.length ≤ 300))
theorem ev_few_l {E : List (Nat × List Nat)} : ∀ d i, i + d = 13 → (∀ x ∈ E.take i, x.2.length ≤ 300) → i ≤ E.length → Ev (fun k => easellaw03_few.l0 k (E.map toS) (i : Int)) (fewB E) := by
  have hend : ∀ i, (13 ≤ i ∨ E.length ≤ i) → (∀ x ∈ E.take i, x.2.length ≤ 300) → i ≤ E.length → fewB E = decide (((E.map toS).length : Int) ≤ 12) := by
    intro i hi hx hie
    rw [List.length_map]
    unfold fewB
    by_cases h12 : E.length ≤ 12
    · have : i = E.length := by omega
      subst this
      rw [List.take_length] at hx
      have : E.all (fun x => decide (x.2.length ≤ 300)) = true := by simpa using hx
      rw [this]
      simp
      omega
    · rw [decide_eq_false h12, decide_eq_false (by omega)]
      rfl
  intro d
  induction d with
  | zero =>
    intro i h hx hi
    refine Ev.step (f := fun k => easellaw03_few.j1 k (E.map toS) (i : Int) false) (fun k => ?_) (Ev.step (f := fun _ => some (fewB E)) (fun k => ?_) (Ev.now _))
    · simp only [easellaw03_few.l0]
      rw [show decide ((i : Int) < 13) = false from decide_eq_false (by omega)]
      split <;> rfl
    · simp only [easellaw03_few.j1]
      rw [if_neg (by decide), hend i (by omega) hx hi]
  | succ d ih =>
    intro i h hx hi
    by_cases hlt : i < E.length
    · refine Ev.step (f := fun k => easellaw03_few.j1 k (E.map toS) (i : Int) true) (fun k => ?_) ?_
      · simp only [easellaw03_few.l0]
        rw [if_pos (by rw [List.length_map]; omega), show decide ((i : Int) < 13) = true from decide_eq_true (by omega)]
      · by_cases hbig : 300 < E[i].2.length
        · refine Ev.step (f := fun _ => some (fewB E)) (fun k => ?_) (Ev.now _)
          simp only [easellaw03_few.j1]
          rw [if_pos trivial, if_pos (by omega), if_pos (by rw [List.length_map]; omega), rdS hlt, if_pos (by show ((ib E[i].2).length : Int) > 300; rw [ib_length]; omega)]
          have : fewB E = false := by
            unfold fewB
            have : E.all (fun x => decide (x.2.length ≤ 300)) = false := by
              rw [List.all_eq_false]
              exact ⟨E[i], List.getElem_mem hlt, by simp; omega⟩
            rw [this, Bool.and_false]
          rw [this]
        · refine Ev.step (f := fun k => easellaw03_few.l0 k (E.map toS) ((i + 1 : Nat) : Int)) (fun k => ?_) (ih (i + 1) (by omega) (fun x hx' => ?_) (by omega))
          · simp only [easellaw03_few.j1]
            rw [if_pos trivial, if_pos (by omega), if_pos (by rw [List.length_map]; omega), rdS hlt, if_neg (by show ¬ ((ib E[i].2).length : Int) > 300; rw [ib_length]; omega), wrap_succ i (by omega)]
          · rw [List.take_succ_eq_append_getElem hlt, List.mem_append] at hx'
            rcases hx' with hx' | hx'
            · exact hx x hx'
            · rw [List.mem_singleton.1 hx']; omega
    · refine Ev.step (f := fun k => easellaw03_few.j1 k (E.map toS) (i : Int) false) (fun k => ?_) (Ev.step (f := fun _ => some (fewB E)) (fun k => ?_) (Ev.now _))
      · simp only [easellaw03_few.l0]
        rw [if_neg (by rw [List.length_map]; omega)]
      · simp only [easellaw03_few.j1]
        rw [if_neg (by decide), hend i (by omega) hx hi]
theorem ev_few {E : List (Nat × List Nat)} : Ev (fun k => easellaw03_few.f k (E.map toS)) (fewB E) := ev_few_l 13 0 (by omega) (by simp) (by omega)
end Go.Proofs.Ytoonnlphfanmhaa.K3

namespace Go.Proofs.Ytoonnlphfanmhaa.K3
open Go.RowKit Go.Proofs.YtoonnlphfanmhaaW.PrintWords Go.Proofs.YtoonnlphfanmhaaW.PrintLast Go.Proofs.YtoonnlphfanmhaaW.PrintMore

theorem one_f (p : Nat) : easelref03_one.f (p : Int) = some (isOne p) := by
  unfold easelref03_one.f isOne
  congr 1
  rw [Bool.eq_iff_iff, beq_iff_eq, decide_eq_true_iff]
  omega
theorem two_f (p : Nat) : easelref03_two.f (p : Int) = some (isTwo p) := by
  unfold easelref03_two.f isTwo
  split
  · congr 1
    rw [Bool.eq_iff_iff, decide_eq_true_iff, decide_eq_true_iff]
    omega
  · congr 1
    rw [Bool.eq_iff_iff, decide_eq_true_iff]
    simp
    omega
theorem known_f (p : Nat) : easelref03_Known.f (p : Int) = some (isKnown p) := by
  unfold easelref03_Known.f isKnown
  rw [one_f, two_f]
  cases isOne p <;> simp
def mayOf (one : Bool) (x : Nat × List Nat) : Bool := if one = true then mayB 14 1 16 x.1 x.2.length else mayB 255 0 255 x.1 x.2.length
theorem may_f (x : Nat × List Nat) (hx : x.1 < 256) (b : Bool) : easelref03_may.f (toT x).f0 (toT x).f1 b = some (mayOf b x) := by
  unfold easelref03_may.f mayOf mayB
  show (if b = true then (if (x.1 : Int) ≥ 1 then (if (x.1 : Int) ≤ 14 then (if ((ib x.2).length : Int) ≥ 1 then (some (decide (((ib x.2).length : Int) ≤ 16))) else (some false)) else (some false)) else (some false)) else (if (x.1 : Int) ≥ 1 then (some (decide (((ib x.2).length : Int) ≤ 255))) else (some false))) = _
  rw [ib_length]
  cases b
  · simp only [Bool.false_eq_true, if_false]
    by_cases h1 : (x.1 : Int) ≥ 1
    · rw [if_pos h1, decide_eq_true (show (0 : Int) < x.1 by omega), decide_eq_true (show (x.1 : Int) ≤ 255 by omega), decide_eq_true (show (0 : Int) ≤ x.2.length by omega)]
      rfl
    · rw [if_neg h1, decide_eq_false (show ¬ (0 : Int) < x.1 by omega)]
      rfl
  · simp only [if_true]
    by_cases h1 : (x.1 : Int) ≥ 1
    · rw [if_pos h1, decide_eq_true (show (0 : Int) < x.1 by omega)]
      by_cases h2 : (x.1 : Int) ≤ 14
      · rw [if_pos h2, decide_eq_true h2]
        by_cases h3 : (x.2.length : Int) ≥ 1
        · rw [if_pos h3, decide_eq_true (show (1 : Int) ≤ x.2.length by omega)]
          rfl
        · rw [if_neg h3, decide_eq_false (show ¬ (1 : Int) ≤ x.2.length by omega)]
          rfl
      · rw [if_neg h2, decide_eq_false h2]
        rfl
    · rw [if_neg h1, decide_eq_false (show ¬ (0 : Int) < x.1 by omega)]
      rfl
theorem mayOf_ok {one : Bool} {x : Nat × List Nat} (h : mayOf one x = true) (hb : Bts x.2) : OkEl one x := by
  unfold mayOf at h
  cases one
  · exact may_two (by simpa using h) hb
  · exact may_one (by simpa using h) hb
theorem ok_mayOf {one : Bool} {x : Nat × List Nat} (h : OkEl one x) : mayOf one x = true := by
  unfold mayOf
  cases one
  · simpa using two_may h
  · simpa using one_may h

/-- What Put tells, in bytes. -/
def putS (p : Nat) (E : List (Nat × List Nat)) : List Nat × Nat := if isKnown p = true then (if E.all (mayOf (isOne p)) = true then (pad4 (putB (isOne p) E), 0) else ([], 31)) else ([], 30)
theorem all_ok {one : Bool} {E : List (Nat × List Nat)} (hE : ∀ x ∈ E, Bts x.2) (h : E.all (mayOf one) = true) : ∀ x ∈ E, OkEl one x := fun x hx => mayOf_ok (List.all_eq_true.1 h x hx) (hE x hx)
theorem ok_all {one : Bool} {E : List (Nat × List Nat)} (h : ∀ x ∈ E, OkEl one x) : E.all (mayOf one) = true := List.all_eq_true.2 (fun x hx => ok_mayOf (h x hx))
theorem putR_eq {p : Nat} {E : List (Nat × List Nat)} (hE : ∀ x ∈ E, Bts x.2) : putR p E = putS p E := by
  unfold putR putS
  by_cases h1 : isOne p = true
  · have hm : E.all (fun x => mayB 14 1 16 x.1 x.2.length) = E.all (mayOf (isOne p)) := by
      congr 1
      funext x
      unfold mayOf
      rw [if_pos h1]
    have hk : isKnown p = true := by unfold isKnown; rw [h1]; rfl
    rw [if_pos h1, if_pos hk, hm]
    by_cases ha : E.all (mayOf (isOne p)) = true
    · rw [if_pos ha, if_pos ha]
      have hok := all_ok hE ha
      rw [h1] at hok ⊢
      rw [putD_one hok, pack_fill (putB_bts hok)]
    · rw [if_neg ha, if_neg ha]
  · have h1' : isOne p = false := by simpa using h1
    rw [if_neg h1]
    by_cases h2 : isTwo p = true
    · have hm : E.all (fun x => mayB 255 0 255 x.1 x.2.length) = E.all (mayOf (isOne p)) := by
        congr 1
        funext x
        unfold mayOf
        rw [if_neg h1]
      have hk : isKnown p = true := by unfold isKnown; rw [h1', h2]; rfl
      rw [if_pos h2, if_pos hk, hm]
      by_cases ha : E.all (mayOf (isOne p)) = true
      · rw [if_pos ha, if_pos ha]
        have hok := all_ok hE ha
        rw [h1'] at hok ⊢
        rw [putD_two, pack_fill (putB_bts hok)]
      · rw [if_neg ha, if_neg ha]
    · have h2' : isTwo p = false := by simpa using h2
      rw [if_neg h2, if_neg (by unfold isKnown; rw [h1', h2']; decide)]

theorem putB_len {one : Bool} (E : List (Nat × List Nat)) (h : ∀ x ∈ E, x.2.length ≤ 100000) : (putB one E).length ≤ E.length * 100002 := by
  induction E with
  | nil => simp [putB]
  | cons x E ih =>
    have h1 := ih (fun y hy => h y (List.mem_cons_of_mem _ hy))
    have h2 := h x List.mem_cons_self
    have h3 : (hdB one x).length ≤ 2 := by unfold hdB; split <;> simp
    rw [putB_cons, List.length_append, List.length_append, List.length_cons, Nat.succ_mul]
    omega
theorem ib_append (a b : List Nat) : ib (a ++ b) = ib a ++ ib b := by simp [ib]
theorem ev_pad : ∀ (d : Nat) (bs : List Nat), (bs.length + d) % 4 = 0 → d < 4 → bs.length ≤ 100000000000 → Ev (fun k => easelref03_Put.l1 k (ib bs)) (ib (bs ++ List.replicate d 0), 0)
  | 0, bs, h, _, hl => Ev.step (f := fun _ => some (ib (bs ++ List.replicate 0 0), 0)) (fun k => by
      simp only [easelref03_Put.l1]
      rw [if_pos (by rw [ib_length]; omega)]
      simp) (Ev.now _)
  | d + 1, bs, h, hd, hl => by
    have ih := ev_pad d (bs ++ [0]) (by simp; omega) (by omega) (by simp; omega)
    rw [List.append_assoc, show [0] ++ List.replicate d 0 = List.replicate (d + 1) 0 from (List.replicate_succ).symm] at ih
    refine Ev.step (f := fun k => easelref03_Put.l1 k (ib (bs ++ [0]))) (fun k => ?_) ih
    simp only [easelref03_Put.l1]
    rw [if_neg (by rw [ib_length]; omega), if_pos (by rw [ib_length]; omega), ib_append]
    rfl
theorem ev_pad4 (bs : List Nat) (hl : bs.length ≤ 20000000000) : Ev (fun k => easelref03_Put.l1 k (ib bs)) (ib (pad4 bs), 0) := ev_pad _ bs (by omega) (by omega) (by omega)

theorem ev_rPut_l (p : Nat) {E : List (Nat × List Nat)} (hE : Fair E) : ∀ d i, i + d = E.length → (∀ x ∈ E.take i, mayOf (isOne p) x = true) →
    Ev (fun k => easelref03_Put.l0 k (p : Int) (E.map toT) (ib (putB (isOne p) (E.take i))) (i : Int)) (if E.all (mayOf (isOne p)) = true then (ib (pad4 (putB (isOne p) E)), 0) else ([], 31)) := by
  have hlen : ∀ i, (putB (isOne p) (E.take i)).length ≤ 10000200000 := fun i => by
    have h1 := putB_len (one := isOne p) (E.take i) (fun x hx => (hE.2 x (List.mem_of_mem_take hx)).2.2)
    have h2 : (E.take i).length ≤ 100000 := by rw [List.length_take]; have := hE.1; omega
    have h3 := Nat.mul_le_mul_right 100002 h2
    omega
  intro d
  induction d with
  | zero =>
    intro i h hx
    obtain rfl : i = E.length := by omega
    rw [List.take_length] at hx ⊢
    rw [if_pos (List.all_eq_true.2 hx)]
    refine Ev.step (f := fun k => easelref03_Put.l1 k (ib (putB (isOne p) E))) (fun k => ?_) (ev_pad4 _ ?_)
    · simp only [easelref03_Put.l0]
      rw [if_neg (by rw [List.length_map]; omega)]
    · have := hlen E.length
      rw [List.take_length] at this
      have h1 := putB_len (one := isOne p) E (fun x hx => (hE.2 x hx).2.2)
      have h2 := hE.1
      have h3 := Nat.mul_le_mul_right 100002 h2
      omega
  | succ d ih =>
    intro i h hx
    have hlt : i < E.length := by omega
    have hl := hE.1
    obtain ⟨hid, hbt, hdl⟩ := hE.at_ hlt
    have hle := hlen i
    have hs : E.take (i + 1) = E.take i ++ [E[i]] := by rw [List.take_succ_eq_append_getElem hlt]
    cases hm : mayOf (isOne p) E[i]
    · have hall : E.all (mayOf (isOne p)) = false := by
        rw [List.all_eq_false]
        exact ⟨E[i], List.getElem_mem hlt, by simp [hm]⟩
      rw [hall, if_neg (by decide)]
      refine Ev.step (f := fun _ => some (([] : List Int), 31)) (fun k => ?_) (Ev.now _)
      simp only [easelref03_Put.l0]
      rw [if_pos (by rw [List.length_map]; omega), if_pos (by omega), one_f, rdT hlt]
      simp only [Option.bind_some]
      rw [may_f _ hid, hm]
      simp only [Option.bind_some]
      rw [if_neg (by decide)]
    · have ih' := ih (i + 1) (by omega) (fun x hx' => by
        rw [hs, List.mem_append] at hx'
        rcases hx' with hx' | hx'
        · exact hx x hx'
        · rw [List.mem_singleton.1 hx']; exact hm)
      refine Ev.step (f := fun k => easelref03_Put.l0 k (p : Int) (E.map toT) (ib (putB (isOne p) (E.take (i + 1)))) ((i + 1 : Nat) : Int)) (fun k => ?_) ih'
      have hok := mayOf_ok hm hbt
      simp only [easelref03_Put.l0]
      rw [if_pos (by rw [List.length_map]; omega), if_pos (by omega), one_f, rdT hlt]
      simp only [Option.bind_some]
      rw [may_f _ hid, hm]
      simp only [Option.bind_some]
      rw [if_pos trivial, wrap_succ i (by omega), hs, putB_snoc, ib_append]
      cases ho : isOne p
      · rw [if_neg (by decide)]
        rw [ho] at hok
        have h2 := hok.2
        simp at h2
        have e1 : ([(toT E[i]).f0, (((toT E[i]).f1).length : Int) % 256] : List Int) = ib (hdB false E[i]) := by
          show [(E[i].1 : Int), ((ib E[i].2).length : Int) % 256] = _
          rw [ib_length, Int.emod_eq_of_lt (by omega) (by omega)]
          simp [hdB, ib]
        rw [e1, if_pos (by rw [ib_length, ib_length]; have h9 : (hdB false E[i]).length = 2 := rfl; rw [ho] at hle; omega)]
        rw [show (toT E[i]).f1 = ib E[i].2 from rfl]
        rw [if_pos (by rw [List.length_append, ib_length, ib_length, ib_length]; have h9 : (hdB false E[i]).length = 2 := rfl; rw [ho] at hle; omega)]
        rw [ib_append, List.append_assoc]
      · rw [if_pos rfl]
        rw [ho] at hok
        have h2 := hok.2
        simp at h2
        have e1 : ([(wrap64 ((wrap64 ((wrap64 ((wrap64 ((toT E[i]).f0)) * 16)) + (((toT E[i]).f1).length : Int))) - 1)) % 256] : List Int) = ib (hdB true E[i]) := by
          show [(wrap64 ((wrap64 ((wrap64 ((wrap64 (E[i].1 : Int)) * 16)) + ((ib E[i].2).length : Int))) - 1)) % 256] = _
          rw [ib_length, wrap_id (E[i].1 : Int) (by omega) (by omega), wrap_id ((E[i].1 : Int) * 16) (by omega) (by omega), wrap_id ((E[i].1 : Int) * 16 + (E[i].2.length : Int)) (by omega) (by omega), wrap_id _ (by omega) (by omega), Int.emod_eq_of_lt (by omega) (by omega)]
          simp [hdB, ib]
          omega
        rw [e1, if_pos (by rw [ib_length]; rw [ho] at hle; omega)]
        rw [show (toT E[i]).f1 = ib E[i].2 from rfl]
        rw [if_pos (by rw [List.length_append, ib_length, ib_length, ib_length]; have h9 : (hdB true E[i]).length = 1 := rfl; rw [ho] at hle; omega)]
        rw [ib_append, List.append_assoc]
theorem ev_rPut (p : Nat) {E : List (Nat × List Nat)} (hE : Fair E) : Ev (fun k => easelref03_Put.f k (p : Int) (E.map toT)) (ib (putS p E).1, ((putS p E).2 : Int)) := by
  unfold putS
  cases hk : isKnown p
  · rw [if_neg (by decide)]
    refine Ev.congr (f := fun _ => some (([] : List Int), 30)) (fun k => ?_) (Ev.now _)
    unfold easelref03_Put.f
    rw [known_f, hk]
    rfl
  · rw [if_pos rfl]
    have h := ev_rPut_l p hE E.length 0 (by omega) (by simp)
    have hr : ((ib (if E.all (mayOf (isOne p)) = true then (pad4 (putB (isOne p) E), 0) else ([], 31) : List Nat × Nat).1, (((if E.all (mayOf (isOne p)) = true then (pad4 (putB (isOne p) E), 0) else ([], 31) : List Nat × Nat).2 : Nat) : Int)) : List Int × Int) = if E.all (mayOf (isOne p)) = true then (ib (pad4 (putB (isOne p) E)), 0) else ([], 31) := by
      split <;> rfl
    rw [hr]
    refine Ev.congr (fun k => ?_) h
    unfold easelref03_Put.f
    rw [known_f, hk]
    rfl

theorem ev_rFind_l (id : Nat) {E : List (Nat × List Nat)} (hE : Fair E) : ∀ d i, i + d = E.length → (E.take i).find? (fun x => x.1 == id) = none →
    Ev (fun k => easelref03_Find.l0 k (id : Int) (E.map toT) (i : Int)) (ib (findR id E).1, (findR id E).2)
  | 0, i, h, hx => by
    obtain rfl : i = E.length := by omega
    rw [List.take_length] at hx
    refine Ev.step (f := fun _ => some (ib (findR id E).1, (findR id E).2)) (fun k => ?_) (Ev.now _)
    simp only [easelref03_Find.l0]
    rw [if_neg (by rw [List.length_map]; omega)]
    unfold findR
    rw [hx]
    rfl
  | d + 1, i, h, hx => by
    have hlt : i < E.length := by omega
    have hl := hE.1
    by_cases hid : E[i].1 = id
    · refine Ev.step (f := fun _ => some (ib (findR id E).1, (findR id E).2)) (fun k => ?_) (Ev.now _)
      simp only [easelref03_Find.l0]
      rw [if_pos (by rw [List.length_map]; omega), if_pos (by omega), rdT hlt, if_pos (by show (E[i].1 : Int) = id; omega)]
      have hf : E.find? (fun x => x.1 == id) = some E[i] := by
        rw [List.find?_eq_some_iff_getElem]
        refine ⟨by simp [hid], i, hlt, rfl, fun j hj => ?_⟩
        have := List.find?_eq_none.1 hx E[j] (by rw [List.mem_take_iff_getElem]; exact ⟨j, by omega, rfl⟩)
        simpa using this
      unfold findR
      rw [hf]
      rfl
    · refine Ev.step (f := fun k => easelref03_Find.l0 k (id : Int) (E.map toT) ((i + 1 : Nat) : Int)) (fun k => ?_) (ev_rFind_l id hE d (i + 1) (by omega) ?_)
      · simp only [easelref03_Find.l0]
        rw [if_pos (by rw [List.length_map]; omega), if_pos (by omega), rdT hlt, if_neg (by show ¬ (E[i].1 : Int) = id; omega), wrap_succ i (by omega)]
      · rw [List.take_succ_eq_append_getElem hlt, List.find?_append, hx]
        simp [hid]
theorem ev_rFind (id : Nat) {E : List (Nat × List Nat)} (hE : Fair E) : Ev (fun k => easelref03_Find.f k (id : Int) (E.map toT)) (ib (findR id E).1, (findR id E).2) := ev_rFind_l id hE E.length 0 (by omega) (by simp)

def formS (a b : Bool) : Int × Bool := if a = true then (48862, true) else if b = true then (4096, true) else (0, false)
theorem ev_rForm_l {E : List (Nat × List Nat)} (hE : Fair E) : ∀ d i, i + d = E.length →
    Ev (fun k => easelref03_Form.l0 k (E.map toT) ((E.take i).all (mayOf true)) ((E.take i).all (mayOf false)) (i : Int)) (formS (E.all (mayOf true)) (E.all (mayOf false)))
  | 0, i, h => by
    obtain rfl : i = E.length := by omega
    rw [List.take_length]
    refine Ev.step (f := fun _ => some (formS (E.all (mayOf true)) (E.all (mayOf false)))) (fun k => ?_) (Ev.now _)
    simp only [easelref03_Form.l0]
    rw [if_neg (by rw [List.length_map]; omega)]
    unfold formS
    cases E.all (mayOf true) <;> cases E.all (mayOf false) <;> rfl
  | d + 1, i, h => by
    have hlt : i < E.length := by omega
    have hl := hE.1
    have hid := (hE.at_ hlt).1
    refine Ev.step (f := fun k => easelref03_Form.l0 k (E.map toT) ((E.take (i + 1)).all (mayOf true)) ((E.take (i + 1)).all (mayOf false)) ((i + 1 : Nat) : Int)) (fun k => ?_) (ev_rForm_l hE d (i + 1) (by omega))
    simp only [easelref03_Form.l0]
    rw [if_pos (by rw [List.length_map]; omega), rdT hlt, may_f _ hid, may_f _ hid, wrap_succ i (by omega), List.take_succ_eq_append_getElem hlt, List.all_append, List.all_append]
    simp only [List.all_cons, List.all_nil, Bool.and_true, Option.bind_some]
    rw [if_pos (show (0 : Int) ≤ (i : Int) by omega), if_pos (show (0 : Int) ≤ (i : Int) by omega)]
    cases (E.take i).all (mayOf true) <;> cases (E.take i).all (mayOf false) <;> simp
theorem ev_rForm {E : List (Nat × List Nat)} (hE : Fair E) : Ev (fun k => easelref03_Form.f k (E.map toT)) (formS (E.all (mayOf true)) (E.all (mayOf false))) := ev_rForm_l hE E.length 0 (by omega)
theorem formOf_eq (E : List (Nat × List Nat)) : (((formOf E).1 : Int), (formOf E).2) = formS (E.all (mayOf true)) (E.all (mayOf false)) := by
  have h1 : E.all (mayOf true) = !notAll 14 1 16 E := by
    unfold notAll
    rw [Bool.not_not]
    rfl
  have h2 : E.all (mayOf false) = !notAll 255 0 255 E := by
    unfold notAll
    rw [Bool.not_not]
    rfl
  rw [h1, h2]
  unfold formOf formS
  cases notAll 14 1 16 E <;> cases notAll 255 0 255 E <;> rfl
end Go.Proofs.Ytoonnlphfanmhaa.K3

namespace Go.Proofs.Ytoonnlphfanmhaa.K3
open Go.RowKit Go.Proofs.YtoonnlphfanmhaaW.PrintWords Go.Proofs.YtoonnlphfanmhaaW.PrintLast Go.Proofs.YtoonnlphfanmhaaW.PrintMore

theorem fair_bts {E : List (Nat × List Nat)} (h : Fair E) : ∀ x ∈ E, Bts x.2 := fun x hx => (h.2 x hx).2.1
theorem put_f (p : Nat) (hp : p < 65536) {E : List (Nat × List Nat)} (hE : Fair E) : ext_Put.f (p : Int) (E.map toS) = some (ib (putS p E).1, ((putS p E).2 : Int)) := by
  unfold ext_Put.f
  rw [if_pos ⟨by omega, by omega, hE.ok⟩, map_ofS, Int.toNat_natCast, putR_eq (fair_bts hE)]
theorem find_f (id : Nat) {E : List (Nat × List Nat)} (hE : Fair E) : ext_Find.f (id : Int) (E.map toS) = some (ib (findR id E).1, (findR id E).2) := by
  unfold ext_Find.f
  rw [if_pos ⟨by omega, hE.ok⟩, map_ofS, Int.toNat_natCast]
theorem form_f {E : List (Nat × List Nat)} (hE : Fair E) : ext_Form.f (E.map toS) = some (formS (E.all (mayOf true)) (E.all (mayOf false))) := by
  unfold ext_Form.f
  rw [if_pos hE.ok, map_ofS, ← formOf_eq]
theorem parse_f (p : Nat) (hp : p < 65536) {bs : List Nat} (hb : Bts bs) (hl : bs.length ≤ 1000000) : ext_Parse.f (p : Int) (ib bs) = some ((extP p bs).1.map toS, ((extP p bs).2 : Int)) := by
  unfold ext_Parse.f
  rw [if_pos ⟨by omega, by omega, ib_oks hb, by rw [ib_length]; exact hl⟩, Int.toNat_natCast, nb_ib]
theorem putS_bts {p : Nat} {E : List (Nat × List Nat)} (hE : Fair E) : Bts (putS p E).1 := by
  unfold putS
  split
  · split
    · rename_i ha
      exact pad4_bts (putB_bts (all_ok (fair_bts hE) ha))
    · exact Bts.nil
  · exact Bts.nil
/-- Few elements, of few bytes: what Put makes is short. -/
theorem putS_len {p : Nat} {E : List (Nat × List Nat)} (n : Nat) (hx : ∀ x ∈ E, x.2.length ≤ n) : (putS p E).1.length ≤ E.length * (n + 2) + 4 := by
  have hB : ∀ (one : Bool) (E : List (Nat × List Nat)), (∀ x ∈ E, x.2.length ≤ n) → (putB one E).length ≤ E.length * (n + 2) := by
    intro one E
    induction E with
    | nil => intro _; simp [putB]
    | cons x E ih =>
      intro h
      have h1 := ih (fun y hy => h y (List.mem_cons_of_mem _ hy))
      have h2 := h x List.mem_cons_self
      have h3 : (hdB one x).length ≤ 2 := by unfold hdB; split <;> simp
      rw [putB_cons, List.length_append, List.length_append, List.length_cons, Nat.succ_mul]
      omega
  unfold putS
  split
  · split
    · have := hB (isOne p) E hx
      unfold pad4
      rw [List.length_append, List.length_replicate]
      omega
    · simp
  · simp
theorem findR_len {id : Nat} {E : List (Nat × List Nat)} (hE : Fair E) : (findR id E).1.length ≤ 100000 := by
  unfold findR
  cases h : E.find? (fun x => x.1 == id) with
  | none => simp
  | some p => exact (hE.2 p (List.mem_of_find?_eq_some h)).2.2

/-- What any elements are: ids and bytes are bytes. -/
def Wf (E : List (Nat × List Nat)) : Prop := ∀ x ∈ E, x.1 < 256 ∧ Bts x.2
theorem few_fair {E : List (Nat × List Nat)} (hW : Wf E) (h : fewB E = true) : Fair E := by
  unfold fewB at h
  simp at h
  exact ⟨by omega, fun x hx => ⟨(hW x hx).1, (hW x hx).2, by have := h.2 x.1 x.2 hx; omega⟩⟩
theorem ExtPuts_ev (p id : Nat) (hp : p < 65536) {E : List (Nat × List Nat)} (hW : Wf E) : Ev (fun k => easellaw03_ExtPuts.f k (p : Int) (E.map toS) (id : Int)) true := by
  have hw : l3_works.f = some true := rfl
  by_cases hfew : fewB E = true
  · have hE := few_fair hW hfew
    have hfew' := hfew
    unfold fewB at hfew'
    simp at hfew'
    obtain ⟨hfl, hfx⟩ := hfew'
    have hpl : (putS p E).1.length ≤ 1000000 := by
      have := putS_len (p := p) (E := E) 300 (fun x hx => hfx x.1 x.2 hx)
      have := Nat.mul_le_mul_right 302 hfl
      omega
    have hB1 : Ev (fun k => easelkit_SameBytes.f k (ib (putS p E).1) (ib (putS p E).1)) true := ev_sameBytes _ (by rw [ib_length]; omega)
    have hB2 : Ev (fun k => easelkit_SameBytes.f k (ib (findR id E).1) (ib (findR id E).1)) true := ev_sameBytes _ (by rw [ib_length]; have := findR_len (id := id) hE; omega)
    obtain ⟨r1, hS1⟩ := ev_spoil (ib (putS p E).1) (by rw [ib_length]; omega)
    obtain ⟨r2, hS2⟩ := ev_spoil (ib (findR id E).1) (by rw [ib_length]; have := findR_len (id := id) hE; omega)
    generalize hF : formS (E.all (mayOf true)) (E.all (mayOf false)) = F at *
    have hff : ext_Form.f (E.map toS) = some F := by rw [form_f hE, hF]
    have hrF : Ev (fun k => easelref03_Form.f k (E.map toT)) F := hF ▸ ev_rForm hE
    -- the loop
    have hL2 : Ev (fun k => easellaw03_ExtPuts.l0 k (p : Int) (E.map toS) (id : Int) (E.map toT) (ib (putS p E).1) ((putS p E).2 : Int) (ib (findR id E).1) (findR id E).2 F.1 F.2 2) true := by
      refine Ev.step (f := fun k => (easellaw03_same.f k (E.map toS) (E.map toT)).bind fun t => (if t = true then ((l3_works.f).bind fun t2 => (some t2)) else (some false))) (fun k => ?_) (Ev.bind (ev_same hE) ⟨0, fun k _ => by rw [if_pos rfl, hw]; rfl⟩)
      simp only [easellaw03_ExtPuts.l0]
      rw [if_neg (by decide)]
    have hround : ∀ i j : Int, i < 2 → wrap64 (i + 1) = j → Ev (fun k => easellaw03_ExtPuts.l0 k (p : Int) (E.map toS) (id : Int) (E.map toT) (ib (putS p E).1) ((putS p E).2 : Int) (ib (findR id E).1) (findR id E).2 F.1 F.2 j) true →
        Ev (fun k => easellaw03_ExtPuts.l0 k (p : Int) (E.map toS) (id : Int) (E.map toT) (ib (putS p E).1) ((putS p E).2 : Int) (ib (findR id E).1) (findR id E).2 F.1 F.2 i) true := by
      intro i j hi hj hnext
      have hj1 : Ev (fun k => easellaw03_ExtPuts.j1 k (p : Int) (E.map toS) (id : Int) (E.map toT) (ib (putS p E).1) ((putS p E).2 : Int) (ib (findR id E).1) (findR id E).2 F.1 F.2 i (ib (putS p E).1) (ib (findR id E).1) false) true := by
        refine Ev.step (f := fun k => (easelkit_Spoil.f k (ib (putS p E).1)).bind fun _ => ((easelkit_Spoil.f k (ib (findR id E).1)).bind fun _ => (easellaw03_ExtPuts.l0 k (p : Int) (E.map toS) (id : Int) (E.map toT) (ib (putS p E).1) ((putS p E).2 : Int) (ib (findR id E).1) (findR id E).2 F.1 F.2 j))) (fun k => ?_) (Ev.bind hS1 (Ev.bind hS2 hnext))
        simp only [easellaw03_ExtPuts.j1]
        rw [if_neg (by decide), hj]
      refine Ev.step (f := fun k => (easelkit_SameBytes.f k (ib (putS p E).1) (ib (putS p E).1)).bind fun t => (if t = true then (easelkit_SameBytes.f k (ib (findR id E).1) (ib (findR id E).1)).bind fun t2 => (if t2 = true then easellaw03_ExtPuts.j1 k (p : Int) (E.map toS) (id : Int) (E.map toT) (ib (putS p E).1) ((putS p E).2 : Int) (ib (findR id E).1) (findR id E).2 F.1 F.2 i (ib (putS p E).1) (ib (findR id E).1) false else easellaw03_ExtPuts.j1 k (p : Int) (E.map toS) (id : Int) (E.map toT) (ib (putS p E).1) ((putS p E).2 : Int) (ib (findR id E).1) (findR id E).2 F.1 F.2 i (ib (putS p E).1) (ib (findR id E).1) true) else easellaw03_ExtPuts.j1 k (p : Int) (E.map toS) (id : Int) (E.map toT) (ib (putS p E).1) ((putS p E).2 : Int) (ib (findR id E).1) (findR id E).2 F.1 F.2 i (ib (putS p E).1) (ib (findR id E).1) true)) (fun k => ?_)
        (Ev.bind hB1 (Ev.congr (fun k => if_pos rfl) (Ev.bind hB2 (Ev.congr (fun k => if_pos rfl) hj1))))
      simp only [easellaw03_ExtPuts.l0]
      rw [if_pos hi, put_f p hp hE, find_f id hE, hff]
      simp only [Option.bind_some]
      rw [if_pos trivial]
      have hb1 : ((findR id E).2 != (findR id E).2) = false := by cases (findR id E).2 <;> rfl
      have hb2 : (F.2 != F.2) = false := by cases F.2 <;> rfl
      rw [hb1, hb2]
      simp
    have hL1 := hround 1 2 (by decide) (by unfold wrap64; omega) hL2
    have hL0 := hround 0 1 (by decide) (by unfold wrap64; omega) hL1
    refine Ev.bind (f := fun k t156 => (if t156 = true then ((easellaw03_refs.f k (E.map toS)).bind fun t158 => ((easelref03_Put.f k (p : Int) t158).bind fun bt161 => ((easelref03_Find.f k (id : Int) t158).bind fun bt165 => ((easelref03_Form.f k t158).bind fun bt169 => (easellaw03_ExtPuts.l0 k (p : Int) (E.map toS) (id : Int) t158 bt161.1 bt161.2 bt165.1 bt165.2 bt169.1 bt169.2 0))))) else ((l3_works.f).bind fun t157 => (some t157)))) ev_few ?_
    rw [hfew]
    exact Ev.congr (fun k => if_pos rfl) (Ev.bind (ev_refs hE) (Ev.bind (ev_rPut p hE) (Ev.bind (ev_rFind id hE) (Ev.bind hrF hL0))))
  · have hfew' : fewB E = false := by simpa using hfew
    refine Ev.bind (f := fun k t156 => (if t156 = true then ((easellaw03_refs.f k (E.map toS)).bind fun t158 => ((easelref03_Put.f k (p : Int) t158).bind fun bt161 => ((easelref03_Find.f k (id : Int) t158).bind fun bt165 => ((easelref03_Form.f k t158).bind fun bt169 => (easellaw03_ExtPuts.l0 k (p : Int) (E.map toS) (id : Int) t158 bt161.1 bt161.2 bt165.1 bt165.2 bt169.1 bt169.2 0))))) else ((l3_works.f).bind fun t157 => (some t157)))) ev_few ?_
    rw [hfew']
    exact ⟨0, fun k _ => by dsimp only; rw [if_neg (by decide), hw]; rfl⟩

theorem putS_back {p : Nat} {E : List (Nat × List Nat)} (hE : Fair E) (h : (putS p E).2 = 0) : extP p (putS p E).1 = (E, 0) ∧ (putS p E).1.length % 4 = 0 := by
  unfold putS at h ⊢
  split at h
  · rename_i hk
    split at h
    · rename_i ha
      rw [if_pos hk, if_pos ha]
      exact ⟨extP_put hk (all_ok (fair_bts hE) ha), pad4_mod _⟩
    · simp at h
  · simp at h
theorem putS_of {p : Nat} {E : List (Nat × List Nat)} (hk : isKnown p = true) (ha : E.all (mayOf (isOne p)) = true) : putS p E = (pad4 (putB (isOne p) E), 0) := by
  unfold putS
  rw [if_pos hk, if_pos ha]
theorem okEl_id {one : Bool} {x : Nat × List Nat} (h : OkEl one x) : x.1 < 256 := by
  have := h.2
  cases one
  · simp at this; omega
  · simp at this; omega
/-- Elements that were parsed. -/
theorem parsed_fair {p : Nat} {bs : List Nat} (hb : Bts bs) (hl : bs.length ≤ 1000) (h : (extP p bs).2 = 0) : Fair (extP p bs).1 := by
  obtain ⟨_, h1, _⟩ := extP_ok hb h
  refine ⟨by have := extP_num p bs; omega, fun x hx => ?_⟩
  obtain ⟨i, hi, rfl⟩ := List.mem_iff_getElem.1 hx
  have := extP_len p bs i hi
  exact ⟨okEl_id (h1 _ hx), (h1 _ hx).1, by omega⟩

theorem known_4096 : isKnown 4096 = true := by unfold isKnown isOne isTwo; simp
theorem known_48862 : isKnown 48862 = true := by unfold isKnown isOne isTwo; simp
theorem ExtBack_j2 {E : List (Nat × List Nat)} (hE : Fair E) (hfl : E.length ≤ 12) (hfx : ∀ x ∈ E, x.2.length ≤ 300) : Ev (fun k => easellaw03_ExtBack.j2 k (E.map toS)) true := by
  have hw : l3_works.f = some true := rfl
  have hlen : ∀ p, (putS p E).1.length ≤ 1000000 := fun p => by
    have := putS_len (p := p) (E := E) 300 hfx
    have := Nat.mul_le_mul_right 302 hfl
    omega
  have hyes : ∀ p : Nat, p < 65536 → isKnown p = true → E.all (mayOf (isOne p)) = true → ext_Form.f (E.map toS) = some ((p : Int), true) → Ev (fun k => easellaw03_ExtBack.j2 k (E.map toS)) true := by
    intro p hp hk ha hf
    have h2 : (putS p E).2 = 0 := by rw [putS_of hk ha]
    obtain ⟨hpar, hmod⟩ := putS_back hE h2
    refine Ev.step (f := fun k => (easellaw03_refs.f k (E.map toS)).bind fun t227 => ((easellaw03_same.f k (E.map toS) t227).bind fun t230 => (if t230 = true then ((l3_works.f).bind fun t231 => (some t231)) else (some false)))) (fun k => ?_) (Ev.bind (ev_refs hE) (Ev.bind (ev_same hE) ⟨0, fun k _ => by dsimp only; rw [if_pos rfl, hw]; rfl⟩))
    have e2 : ext_Put.f (p : Int) (E.map toS) = some (ib (putS p E).1, 0) := by
      rw [put_f p hp hE, h2]
      simp
    have e3 : ext_Parse.f (p : Int) (ib (putS p E).1) = some (E.map toS, 0) := by
      rw [parse_f p hp (putS_bts hE) (hlen p), hpar]
      simp
    rw [easellaw03_ExtBack.j2, hf, Option.bind_some, e2, Option.bind_some, if_pos rfl, e3, Option.bind_some, if_pos rfl, if_pos rfl]
  cases h1 : E.all (mayOf true)
  · cases h2 : E.all (mayOf false)
    · have hf : ext_Form.f (E.map toS) = some (((0 : Nat) : Int), false) := by rw [form_f hE, h1, h2]; rfl
      have hput : ext_Put.f ((0 : Nat) : Int) (E.map toS) = some ([], 30) := by
        rw [put_f 0 (by omega) hE]
        have : putS 0 E = ([], 30) := by unfold putS; rw [if_neg (by decide)]
        rw [this]
        rfl
      refine Ev.step (f := fun _ => some true) (fun k => ?_) (Ev.now _)
      rw [easellaw03_ExtBack.j2, hf, Option.bind_some, hput, Option.bind_some, if_neg (by decide), if_pos rfl, if_pos (show (((0 : Nat) : Int), false).1 = 0 from rfl), hw]
      rfl
    · exact hyes 4096 (by omega) known_4096 h2 (by rw [form_f hE, h1, h2]; unfold formS; simp)
  · exact hyes 48862 (by omega) known_48862 h1 (by rw [form_f hE, h1]; unfold formS; simp)

theorem ExtBack_j1 (p : Nat) (hp : p < 65536) {E : List (Nat × List Nat)} (hE : Fair E) (hfl : E.length ≤ 12) (hfx : ∀ x ∈ E, x.2.length ≤ 300) {bs : List Nat} (hb : Bts bs) (hl : bs.length ≤ 400) : Ev (fun k => easellaw03_ExtBack.j1 k (p : Int) (E.map toS) (ib bs)) true := by
  have hj2 := ExtBack_j2 hE hfl hfx
  by_cases h0 : (extP p bs).2 = 0
  · have hF := parsed_fair hb (by omega) h0
    obtain ⟨hk, hok, hle⟩ := extP_ok hb h0
    generalize hX : (extP p bs).1 = E2 at *
    have hput := putS_of hk (ok_all hok)
    have h2 : (putS p E2).2 = 0 := by rw [hput]
    have hlen : (putS p E2).1.length ≤ bs.length := by rw [hput]; exact hle
    obtain ⟨hpar, hmod⟩ := putS_back hF h2
    refine Ev.step (f := fun k => (easellaw03_refs.f k (E2.map toS)).bind fun t213 => ((easellaw03_same.f k (E2.map toS) t213).bind fun t216 => (if t216 = true then (easellaw03_ExtBack.j2 k (E.map toS)) else (some false)))) (fun k => ?_) (Ev.bind (ev_refs hF) (Ev.bind (ev_same hF) (Ev.congr (fun k => if_pos rfl) hj2)))
    have e1 : ext_Parse.f (p : Int) (ib bs) = some (E2.map toS, 0) := by
      rw [parse_f p hp hb (by omega), hX, h0]
      simp
    have e2 : ext_Put.f (p : Int) (E2.map toS) = some (ib (putS p E2).1, 0) := by
      rw [put_f p hp hF, h2]
      simp
    have e3 : ext_Parse.f (p : Int) (ib (putS p E2).1) = some (E2.map toS, 0) := by
      rw [parse_f p hp (putS_bts hF) (by omega), hpar]
      simp
    have e4 : ¬ ((ib (putS p E2).1).length : Int) > ((ib bs).length : Int) := by rw [ib_length, ib_length]; omega
    rw [easellaw03_ExtBack.j1, e1, Option.bind_some, if_pos rfl, e2, Option.bind_some, e3, Option.bind_some, if_pos rfl, if_pos rfl, if_neg e4]
  · refine Ev.step (f := fun k => easellaw03_ExtBack.j2 k (E.map toS)) (fun k => ?_) hj2
    rw [easellaw03_ExtBack.j1, parse_f p hp hb (by omega), Option.bind_some, if_neg (by omega)]

theorem ExtBack_ev (p : Nat) (hp : p < 65536) {E : List (Nat × List Nat)} (hW : Wf E) {bs : List Nat} (hb : Bts bs) : Ev (fun k => easellaw03_ExtBack.f k (p : Int) (E.map toS) (ib bs)) true := by
  have hw : l3_works.f = some true := rfl
  have hT : Ev (fun k => easellaw03_ExtBack.j0 k (p : Int) (E.map toS) (ib bs) true) true := by
    refine Ev.step (f := fun _ => some true) (fun k => ?_) (Ev.now _)
    simp only [easellaw03_ExtBack.j0]
    rw [if_pos trivial, hw]
    rfl
  by_cases hfew : fewB E = true
  · have hE := few_fair hW hfew
    have hfew' := hfew
    unfold fewB at hfew'
    simp at hfew'
    obtain ⟨hfl, hfx⟩ := hfew'
    replace hfx : ∀ x ∈ E, x.2.length ≤ 300 := fun x hx => hfx x.1 x.2 hx
    refine Ev.bind (f := fun k t187 => (if t187 = true then (easellaw03_ExtBack.j0 k (p : Int) (E.map toS) (ib bs) (decide (((ib bs).length : Int) > 400))) else (easellaw03_ExtBack.j0 k (p : Int) (E.map toS) (ib bs) true))) ev_few ?_
    rw [hfew]
    refine Ev.congr (fun k => if_pos rfl) ?_
    by_cases hbig : 400 < bs.length
    · rw [decide_eq_true (by rw [ib_length]; omega)]
      exact hT
    · rw [decide_eq_false (by rw [ib_length]; omega)]
      have hj1 := ExtBack_j1 p hp hE hfl hfx hb (by omega)
      by_cases h0 : (putS p E).2 = 0
      · obtain ⟨hpar, hmod⟩ := putS_back hE h0
        have hlen : (putS p E).1.length ≤ 1000000 := by
          have := putS_len (p := p) (E := E) 300 hfx
          have := Nat.mul_le_mul_right 302 hfl
          omega
        refine Ev.step (f := fun k => (easellaw03_refs.f k (E.map toS)).bind fun t197 => ((easellaw03_same.f k (E.map toS) t197).bind fun t200 => (if t200 = true then (easellaw03_ExtBack.j1 k (p : Int) (E.map toS) (ib bs)) else (some false)))) (fun k => ?_) (Ev.bind (ev_refs hE) (Ev.bind (ev_same hE) (Ev.congr (fun k => if_pos rfl) hj1)))
        simp only [easellaw03_ExtBack.j0]
        rw [if_neg (by decide), put_f p hp hE]
        simp only [Option.bind_some]
        rw [if_pos (by rw [h0]; rfl), parse_f p hp (putS_bts hE) hlen, hpar]
        simp only [Option.bind_some]
        rw [if_pos (by rfl), if_pos (show (((ib (putS p E).1).length : Int) % 4) = 0 by rw [ib_length]; omega)]
      · refine Ev.step (f := fun k => easellaw03_ExtBack.j1 k (p : Int) (E.map toS) (ib bs)) (fun k => ?_) hj1
        simp only [easellaw03_ExtBack.j0]
        rw [if_neg (by decide), put_f p hp hE]
        simp only [Option.bind_some]
        rw [if_neg (by omega)]
  · have hfew' : fewB E = false := by simpa using hfew
    refine Ev.bind (f := fun k t187 => (if t187 = true then (easellaw03_ExtBack.j0 k (p : Int) (E.map toS) (ib bs) (decide (((ib bs).length : Int) > 400))) else (easellaw03_ExtBack.j0 k (p : Int) (E.map toS) (ib bs) true))) ev_few ?_
    rw [hfew']
    exact Ev.congr (fun k => if_neg (by decide)) hT
/-- Elements that came in. -/
theorem els_wf {l : List S64} (h : ∀ x ∈ l, (Lit.int .u8 x.f0).wf = true ∧ (x.f1.length ≤ maxLen ∧ ∀ y ∈ x.f1, (Lit.int .u8 y).wf = true)) : ∃ E, E.map toS = l ∧ Wf E := by
  refine ⟨l.map ofS, ?_, fun x hx => ?_⟩
  · rw [List.map_map]
    conv => rhs; rw [← List.map_id l]
    apply List.map_congr_left
    intro x hx
    obtain ⟨h1, _, h2⟩ := h x hx
    have h0 := (wf_u8 _ h1).1
    have hb : Oks x.f1 := fun y hy => wf_u8 y (h2 y hy)
    show toS (ofS x) = x
    obtain ⟨a, b⟩ := x
    unfold toS ofS
    dsimp only at h0 hb ⊢
    rw [ib_nb hb, Int.toNat_of_nonneg h0]
  · obtain ⟨y, hy, rfl⟩ := List.mem_map.1 hx
    obtain ⟨h1, _, h2⟩ := h y hy
    have h0 := wf_u8 _ h1
    exact ⟨by show y.f0.toNat < 256; omega, nb_bts (fun z hz => wf_u8 z (h2 z hz))⟩
end Go.Proofs.Ytoonnlphfanmhaa.K3
