/- Chapter 07: Pairs in the printed words. -/
import Derived.Test.YtjcejgolcdgipaaK7P
import Derived.Test.YtjcejgolcdgipaaK7L
import Derived.Test.YtjcejgolcdgipaaK7x0
namespace Go.Proofs.Ytjcejgolcdgipaa.K7
open Go.RowKit Go.Proofs.YtjcejgolcdgipaaW.PrintWords Go.Proofs.YtjcejgolcdgipaaW.PrintLast Go.Proofs.YtjcejgolcdgipaaW.PrintMore

def nb (l : List Int) : List Nat := l.map Int.toNat
def ib (l : List Nat) : List Int := l.map Int.ofNat
theorem nb_length (l : List Int) : (nb l).length = l.length := by simp [nb]
theorem ib_length (l : List Nat) : (ib l).length = l.length := by simp [ib]
theorem nb_ib (l : List Nat) : nb (ib l) = l := by
  unfold ib nb
  rw [List.map_map]
  conv => rhs; rw [← List.map_id l]
  apply List.map_congr_left
  intro x _
  simp
def OkN (B : Int) (l : List Int) : Prop := ∀ x ∈ l, 0 ≤ x ∧ x < B
instance (B : Int) (l : List Int) : Decidable (OkN B l) := by unfold OkN; exact inferInstance
theorem ib_nb {B : Int} {l : List Int} (h : OkN B l) : ib (nb l) = l := by
  unfold ib nb
  rw [List.map_map]
  conv => rhs; rw [← List.map_id l]
  apply List.map_congr_left
  intro x hx
  have := h x hx
  show Int.ofNat x.toNat = x
  simp; omega
theorem nb_lt {l : List Int} {B : Nat} (h : OkN (B : Int) l) : ∀ x ∈ nb l, x < B := by
  intro b hb
  obtain ⟨x, hx, rfl⟩ := List.mem_map.1 hb
  have := h x hx
  omega
theorem ib_ok {l : List Nat} {B : Nat} (h : ∀ x ∈ l, x < B) : OkN (B : Int) (ib l) := by
  intro x hx
  obtain ⟨b, hb, rfl⟩ := List.mem_map.1 hx
  have := h b hb
  simp; omega
theorem wv_nb {l : List Int} (h : OkN 65536 l) : wv (nb l) = l.map (Value.int .u16) := by
  unfold wv nb
  rw [List.map_map]
  apply List.map_congr_left
  intro x hx
  have := h x hx
  show Value.int .u16 ((x.toNat : Nat) : Int) = _
  rw [Int.toNat_of_nonneg this.1]
/-- A slice of scalars that is read, as the hand walks have it. -/
theorem sl_of_scalar {α : Type} {enc : α → Value} {h1 : ∀ x, (enc x).oneCell' = true} {w : World} {A : Option Addr} {l : List α} {c : Nat} (h : Kd.C (Kd.scalar enc h1) w A l.length l) (hc : l.length ≤ c) : Sl w (.slice A l.length c) (l.map enc) := by
  obtain ⟨_, _, hn⟩ := h
  rcases List.eq_nil_or_concat l with rfl | ⟨l', x', rfl⟩
  · exact .inl ⟨rfl, _, _, rfl⟩
  · rw [List.concat_eq_append] at *
    generalize hl : l' ++ [x'] = l at *
    have hpos : 0 < l.length := by rw [← hl]; simp
    obtain ⟨ad, rfl, hcell⟩ := hn hpos
    have hat : ∀ j u, l[j]? = some u → w.cell? (ad.add j) = some (enc u) := by
      intro j u hu
      obtain ⟨cs, _, hK, hcc⟩ := hcell j u hu
      have hK' : cs = [enc u] := hK
      subst hK'
      have := hcc 0 _ rfl
      rwa [show j * (Kd.scalar enc h1).sz + 0 = j from Nat.mul_one j] at this
    have h0 := hat 0 l[0] (List.getElem?_eq_getElem hpos)
    obtain ⟨b, off, spot⟩ := ad
    have hspot : spot = none := by simpa [Addr.add] using World.cell?_spot h0
    subst hspot
    have hb : b < w.heap.size := World.block_lt_of_cell? w _ h0
    refine .inr ⟨fun e => by rw [List.map_eq_nil_iff] at e; rw [e] at hpos; simp at hpos, b, off, c, by rw [List.length_map], by rw [List.length_map]; exact hc, hb, fun j u hu => ?_⟩
    rw [List.getElem?_map] at hu
    obtain ⟨x, hx, rfl⟩ := Option.map_eq_some_iff.1 hu
    have := hat j x hx
    rwa [Addr.add_lit] at this
theorem sl_u16 {w : World} {A : Option Addr} {l : List Int} {c : Nat} (h : Kd.C (Kd.int .u16) w A l.length l) (hc : l.length ≤ c) (ho : OkN 65536 l) : Sl w (.slice A l.length c) (wv (nb l)) := by
  rw [wv_nb ho]
  exact sl_of_scalar h hc
theorem pcs_seg (ps : List (Nat × Nat)) (j : Nat) (p : Nat × Nat) (h : ps[j]? = some p) : ((pcs ps).drop (j * 2)).take 2 = [Value.int .u16 (p.1 : Int), Value.int .u16 (p.2 : Int)] := by
  induction ps generalizing j with
  | nil => simp at h
  | cons q l ih =>
    rw [show q :: l = [q] ++ l from rfl, pcs_append, pcs_one]
    rcases j with _ | j
    · simp at h
      subst h
      simp
    · rw [List.getElem?_cons_succ] at h
      rw [← ih j h, show (j + 1) * 2 = 2 + j * 2 from by omega, ← List.drop_drop]
      rfl
def toP (p : Nat × Nat) : S82 := ⟨(p.1 : Int), (p.2 : Int)⟩
def toRP (p : Nat × Nat) : S115 := ⟨(p.1 : Int), (p.2 : Int)⟩
theorem R_of_pairs {w : World} {base : Nat} {v : Value} {ps : List (Nat × Nat)} (h : w.ownsRow base 82 2 v ps.length (pcs ps)) : Kd.R k82 82 w base (fun _ => True) v (ps.map toP) := by
  refine ⟨fun _ _ => trivial, pcs ps, by rw [List.length_map]; exact h, by rw [List.length_map, pcs_length]; rfl, fun j p hj => ?_⟩
  rw [List.getElem?_map] at hj
  obtain ⟨x, hx, rfl⟩ := Option.map_eq_some_iff.1 hj
  show k82.M w base _ _ (((pcs ps).drop (j * 2)).take 2)
  rw [pcs_seg ps j x hx]
  exact ⟨[_], [_], rfl, rfl, rfl⟩
theorem R_of_rpairs {w : World} {base : Nat} {v : Value} {ps : List (Nat × Nat)} (h : w.ownsRow base 115 2 v ps.length (pcs ps)) : Kd.R k115 115 w base (fun _ => True) v (ps.map toRP) := by
  refine ⟨fun _ _ => trivial, pcs ps, by rw [List.length_map]; exact h, by rw [List.length_map, pcs_length]; rfl, fun j p hj => ?_⟩
  rw [List.getElem?_map] at hj
  obtain ⟨x, hx, rfl⟩ := Option.map_eq_some_iff.1 hj
  show k115.M w base _ _ (((pcs ps).drop (j * 2)).take 2)
  rw [pcs_seg ps j x hx]
  exact ⟨[_], [_], rfl, rfl, rfl⟩
theorem kp_below' {w w' : World} (h : Kp (fun _ => True) w w') : Below w.heap.size w w' := h.to_below (Nat.le_refl _) (fun _ _ => trivial)

def fb_Pairs.f (l0 : List Int) : Option (List S82) := if OkN 65536 l0 ∧ l0.length ≤ 1000000 then some ((pairsF (nb l0)).map toP) else none
theorem fb_Pairs.calls (A0 : Option Addr) (c0 : Nat) (l0 : List Int) (r : List (S82)) (w : World) (hr0 : Kd.C (Kd.int .u16) w A0 l0.length l0) (hc0 : l0.length ≤ c0) (h : fb_Pairs.f l0 = some r) :
    Calls Try.prog 21 #[.slice A0 l0.length c0] w fun e w' => ∃ v0_ : Value, e = .returned (v0_) ∧ Kd.R k82 82 w' w.heap.size (fun _ => True) v0_ r ∧ Below w.heap.size w w' := by
  unfold fb_Pairs.f at h
  split at h
  · rename_i ho
    injection h with h
    subst h
    refine (fbPairs_any (sl_u16 hr0 hc0 ho.1) (nb_length l0).symm (nb_lt (B := 65536) ho.1) ho.2).mono ?_
    rintro e w' ⟨v, rfl, hP⟩
    exact ⟨v, rfl, R_of_pairs hP.own, kp_below' hP.kp⟩
  · cases h
def r7_Pairs.f (l0 : List Int) : Option (List S115) := if OkN 65536 l0 ∧ l0.length ≤ 1000000 then some ((pairsF (nb l0)).map toRP) else none
theorem r7_Pairs.calls (A0 : Option Addr) (c0 : Nat) (l0 : List Int) (r : List (S115)) (w : World) (hr0 : Kd.C (Kd.int .u16) w A0 l0.length l0) (hc0 : l0.length ≤ c0) (h : r7_Pairs.f l0 = some r) :
    Calls Try.prog 22 #[.slice A0 l0.length c0] w fun e w' => ∃ v0_ : Value, e = .returned (v0_) ∧ Kd.R k115 115 w' w.heap.size (fun _ => True) v0_ r ∧ Below w.heap.size w w' := by
  unfold r7_Pairs.f at h
  split at h
  · rename_i ho
    injection h with h
    subst h
    refine (r7Pairs_any (sl_u16 hr0 hc0 ho.1) (nb_length l0).symm (nb_lt (B := 65536) ho.1) ho.2).mono ?_
    rintro e w' ⟨v, rfl, hP⟩
    exact ⟨v, rfl, R_of_rpairs hP.own, kp_below' hP.kp⟩
  · cases h
end Go.Proofs.Ytjcejgolcdgipaa.K7
