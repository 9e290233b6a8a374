/- The writers of package bits: each method by its contract. -/
import Derived.Test.YtoonnlphfanmhaaReadB
import Derived.StillTailTactics
import Derived.Deep.RegionHeld3
namespace Go.Proofs.Ytoonnlphfanmhaa
open Go.RowKit

/-- A writer in block p that has put the digits D; it shares no block with F. -/
def Wr (F : Nat → Prop) (w : World) (p : Nat) (D : List Nat) : Prop :=
  ∃ v, Blk w p 102 #[v, .int .i64 D.length] ∧ w.ownsRow 0 5 1 v (pack D).length (bv (pack D)) ∧ Dgs D ∧ ¬ F p ∧ ∀ g, v.ownBlock = some g → ¬ F g

theorem Wr.mono {F G : Nat → Prop} {w : World} {p : Nat} {D : List Nat} (h : Wr F w p D) (hG : ∀ k, k < w.heap.size → G k → F k) : Wr G w p D := by
  obtain ⟨v, hb, ho, hD, hp, hv⟩ := h
  exact ⟨v, hb, ho, hD, fun h => hp (hG _ hb.lt h), fun g hg h => hv g hg (hG _ (ho.lt _ hg).2 h)⟩
theorem Wr.kp {F G : Nat → Prop} {w w' : World} {p : Nat} {D : List Nat} (h : Wr F w p D) (hk : Kp G w w') (hG : ∀ k, k < w.heap.size → ¬ F k → G k) : Wr F w' p D := by
  obtain ⟨v, hb, ho, hD, hp, hv⟩ := h
  exact ⟨v, hb.kp hk (hG _ hb.lt hp), own_kp ho hk (fun g _ hg => hG _ (ho.lt _ hg).2 (hv g hg)), hD, hp, hv⟩
theorem Wr.drewN {F : Nat → Prop} {w : World} {p : Nat} {D : List Nat} (h : Wr F w p D) (n : Nat) : Wr F (w.drewN n) p D := h
theorem Wr.lt {F : Nat → Prop} {w : World} {p : Nat} {D : List Nat} (h : Wr F w p D) : p < w.heap.size := by
  obtain ⟨v, hb, _⟩ := h
  exact hb.lt
theorem Wr.dgs {F : Nat → Prop} {w : World} {p : Nat} {D : List Nat} (h : Wr F w p D) : Dgs D := by
  obtain ⟨v, _, _, h, _⟩ := h
  exact h

theorem Wr.cell1 {F : Nat → Prop} {w : World} {p : Nat} {D : List Nat} (h : Wr F w p D) : w.cell? ⟨p, 1, none⟩ = some (.int .i64 D.length) := by
  obtain ⟨v, hb, _⟩ := h
  exact hb.cell 1

theorem New_any (w : World) : Calls Try.prog 15 #[] w fun e w' => e = .returned (.pointer (some ⟨w.heap.size, 0, none⟩)) ∧ Wr (· < w.heap.size) w' w.heap.size [] ∧ Kp (fun _ => True) w w' := by
  go_enter Try.func15, Try.ntmps15
  go_wp2
  go_ret
  refine ⟨rfl, ⟨.slice none 0 0, Blk.new _ _ _, World.ownsRow_nil _ _ _ _, Dgs.nil, by simp, fun g hg => by cases hg⟩, (Kp.refl _ _).alloc _⟩

theorem byteAt_low {D : List Nat} : byteAt D (D.length / 8) % 2 ^ (8 - D.length % 8) = 0 := by
  have h0 : ∀ j, D.length ≤ j → D.getD j 0 = 0 := fun j hj => by simp [List.getD, List.getElem?_eq_none hj]
  have hi : D.length = 8 * (D.length / 8) + D.length % 8 := by omega
  have hj : D.length % 8 < 8 := Nat.mod_lt _ (by decide)
  unfold byteAt
  generalize D.length % 8 = j at *
  generalize D.length / 8 = k at *
  have z0 : 1 ≤ 8 - j → D.getD (8 * k + 7) 0 = 0 := fun _ => h0 _ (by omega)
  have z1 : 2 ≤ 8 - j → D.getD (8 * k + 6) 0 = 0 := fun _ => h0 _ (by omega)
  have z2 : 3 ≤ 8 - j → D.getD (8 * k + 5) 0 = 0 := fun _ => h0 _ (by omega)
  have z3 : 4 ≤ 8 - j → D.getD (8 * k + 4) 0 = 0 := fun _ => h0 _ (by omega)
  have z4 : 5 ≤ 8 - j → D.getD (8 * k + 3) 0 = 0 := fun _ => h0 _ (by omega)
  have z5 : 6 ≤ 8 - j → D.getD (8 * k + 2) 0 = 0 := fun _ => h0 _ (by omega)
  have z6 : 7 ≤ 8 - j → D.getD (8 * k + 1) 0 = 0 := fun _ => h0 _ (by omega)
  have z7 : 8 ≤ 8 - j → D.getD (8 * k) 0 = 0 := fun _ => h0 _ (by omega)
  generalize D.getD (8 * k) 0 = a0 at *; generalize D.getD (8 * k + 1) 0 = a1 at *; generalize D.getD (8 * k + 2) 0 = a2 at *; generalize D.getD (8 * k + 3) 0 = a3 at *
  generalize D.getD (8 * k + 4) 0 = a4 at *; generalize D.getD (8 * k + 5) 0 = a5 at *; generalize D.getD (8 * k + 6) 0 = a6 at *; generalize D.getD (8 * k + 7) 0 = a7 at *
  clear h0 hi
  rcases (by omega : j = 0 ∨ j = 1 ∨ j = 2 ∨ j = 3 ∨ j = 4 ∨ j = 5 ∨ j = 6 ∨ j = 7) with rfl | rfl | rfl | rfl | rfl | rfl | rfl | rfl <;> simp at * <;> omega
theorem or_digit (D : List Nat) (x : Nat) (hD : Dgs D) (hx : x < 2) :
    bits .or .u8 (byteAt D (D.length / 8) : Int) ((x : Int) * 2 ^ (7 - D.length % 8) % 256) = ((byteAt D (D.length / 8) + x * 2 ^ (7 - D.length % 8) : Nat) : Int) := by
  have hb := byteAt_lt hD (D.length / 8)
  have hl := byteAt_low (D := D)
  have hj : D.length % 8 < 8 := Nat.mod_lt _ (by decide)
  generalize byteAt D (D.length / 8) = b at *
  obtain ⟨k, hk⟩ : ∃ k, k = 7 - D.length % 8 := ⟨_, rfl⟩
  rw [show 8 - D.length % 8 = k + 1 from by omega] at hl
  rw [← hk]
  have hk7 : k ≤ 7 := by omega
  have hp : x * 2 ^ k < 2 ^ (k + 1) := by
    rw [Nat.pow_succ, Nat.mul_comm]
    exact Nat.mul_lt_mul_of_pos_left hx (Nat.two_pow_pos k)
  have h256 : 2 ^ (k + 1) ≤ 256 := by
    have := Nat.pow_le_pow_right (n := 2) (by decide) (show k + 1 ≤ 8 by omega)
    simpa using this
  have e : ((x : Int) * 2 ^ k % 256) = ((x * 2 ^ k : Nat) : Int) := by
    rw [show ((x : Int) * 2 ^ k) = ((x * 2 ^ k : Nat) : Int) from by simp]
    omega
  rw [e, u8_or_nat b (x * 2 ^ k) hb (by omega)]
  have hm : b = 2 ^ (k + 1) * (b / 2 ^ (k + 1)) := by
    have := Nat.div_add_mod b (2 ^ (k + 1))
    omega
  have := Nat.two_pow_add_eq_or_of_lt hp (b / 2 ^ (k + 1))
  rw [← hm] at this
  rw [this]

theorem wr_put {F : Nat → Prop} {w : World} {p g n cap : Nat} {D bs : List Nat} {x z : Nat} {y : Int} (hb : Blk w p 102 #[.slice (some ⟨g, 0, none⟩) n cap, .int .i64 D.length])
    (ho : w.ownsRow 0 5 1 (.slice (some ⟨g, 0, none⟩) n cap) n (bv bs)) (hgp : g ≠ p) (hD : Dgs D) (hx : x < 2) (hp : ¬ F p) (hg : ¬ F g) (i : Nat) (hy : y = (z : Int)) (hset : bs.set i z = pack (D ++ [x])) :
    Wr F ((w.setCell ⟨g, i, none⟩ (.int .u8 y)).setCell ⟨p, 1, none⟩ (.int .i64 ((D.length : Int) + 1))).drew p (D ++ [x]) := by
  subst hy
  have hs := ho.stored i (.int .u8 (z : Int))
  have hn : n = (pack (D ++ [x])).length := by
    have := ho.1
    rw [bv_length] at this
    rw [← hset, List.length_set]; omega
  have hbv : (bv bs).set i (.int .u8 (z : Int)) = bv (pack (D ++ [x])) := by rw [← hset]; simp [bv]
  rw [hbv] at hs
  refine ⟨.slice (some ⟨g, 0, none⟩) n cap, ?_, ?_, hD.append (fun d hd => by simp at hd; omega), hp, fun k hk => by simp [Value.ownBlock] at hk; subst hk; exact hg⟩
  · have := (hb.far (p := ⟨g, i, none⟩) (Ne.symm hgp) (.int .u8 (z : Int))).set 1 (.int .i64 ((D.length : Int) + 1))
    have e : (((D ++ [x]).length : Nat) : Int) = (D.length : Int) + 1 := by simp
    rw [e]
    exact this
  · rw [← hn]
    exact ownsRow_setCell_other hs.1 (by simp [Value.ownBlock]; exact hgp) _

theorem kp_put {F : Nat → Prop} {a w : World} {p g i : Nat} {y u : Value} (h : Kp F a w) (hp : ¬ F p) (hg : ¬ F g) : Kp F a ((w.setCell ⟨g, i, none⟩ y).setCell ⟨p, 1, none⟩ u).drew :=
  ((h.set (fun k hk _ e => by subst e; exact hg hk)).set (fun k hk _ e => by subst e; exact hp hk)).drew

set_option maxHeartbeats 400000 in
set_option maxRecDepth 100000 in
theorem digit_in {F : Nat → Prop} {w : World} {p : Nat} {D : List Nat} (h : Wr F w p D) (d : Int) (x : Nat) (hd0 : d = x) (hx : x < 2) (hl : D.length ≤ 1000000000000) (h8 : D.length % 8 ≠ 0) :
    Calls Try.prog 64 #[.pointer (some ⟨p, 0, none⟩), .int .u8 d] w fun e w' => e = .returned (.tuple #[]) ∧ Wr F w' p (D ++ [x]) ∧ Kp F w w' := by
  subst hd0
  obtain ⟨v, hb, ho, hD, hp, hv⟩ := h
  have hpl := pack_length D
  obtain ⟨g, cap, rfl, _⟩ := ho.form (by omega)
  have hgp : g ≠ p := fun e => own_blk_ne ho hb (by decide) (by rw [e]; rfl)
  have hvg := hv g rfl
  have c0 := hb.cell 0
  have c1 := hb.cell 1
  have f0 := hb.frozen 0
  have f1 := hb.frozen 1
  simp only [List.getElem?_toArray, List.getElem?_cons_zero, List.getElem?_cons_succ] at c0 c1
  have hq : ((D.length : Int) % 8 == 0) = false := by simp; omega
  have hi : D.length / 8 < (pack D).length := by omega
  have hcell : w.cell? ⟨g, D.length / 8, none⟩ = some (.int .u8 (byteAt D (D.length / 8) : Nat)) := by
    rw [ho.cellAt _ (by omega), bv_getD _ _ hi, pack_getD]
  have hfg := ho.frozenAt (D.length / 8)
  have HO := hd (or_digit D x hD hx)
  have HS := hd (pack_snoc_in D x h8)
  have HG : Hd ((pack D).getD (D.length / 8) 0 = byteAt D (D.length / 8)) := pack_getD _ _
  have hb256 := byteAt_lt hD (D.length / 8)
  generalize byteAt D (D.length / 8) = b at *
  generalize hL : (pack D).length = L at *
  have HL := hd hL
  clear hL hpl
  go_enter Try.func64, Try.ntmps64
  go_wp2
  go_region
  go_wp2
  go_end0
  exact ⟨rfl, wr_put hb ho hgp hD hx hp hvg _ HO.out (by rw [HS.out, HG.out]), kp_put (Kp.refl _ _) hp hvg⟩

set_option maxHeartbeats 400000 in
set_option maxRecDepth 100000 in
theorem digit_new {F : Nat → Prop} {w : World} {p : Nat} {D : List Nat} (h : Wr F w p D) (d : Int) (x : Nat) (hd0 : d = x) (hx : x < 2) (hF : ∀ k, F k → k < w.heap.size) (hl : D.length ≤ 1000000000000) (h8 : D.length % 8 = 0) :
    Calls Try.prog 64 #[.pointer (some ⟨p, 0, none⟩), .int .u8 d] w fun e w' => e = .returned (.tuple #[]) ∧ Wr F w' p (D ++ [x]) ∧ Kp F w w' := by
  subst hd0
  obtain ⟨v, hb, ho, hD, hp, hv⟩ := h
  have hpl := pack_length D
  have hvp := own_blk_ne ho hb (by decide)
  have c0 := hb.cell 0
  have c1 := hb.cell 1
  simp only [List.getElem?_toArray, List.getElem?_cons_zero, List.getElem?_cons_succ] at c0 c1
  have hq : ((D.length : Int) % 8 == 0) = true := by simp; omega
  have hlt' : (pack D).length ≤ 1000000000000 := by omega
  have HPL := hd hpl
  clear hpl
  obtain ⟨i0, hi, hz0, hz1, hz2⟩ := info_parts Try.info_u8
  go_enter Try.func64, Try.ntmps64
  go_wp2_with (at_builtin; refine wpList_app rfl _ _ 32 rfl 0 5 i0 (.int .u8 0) 1 1 Try.underlying32 hi hz0 hz1 hz2 rfl (by decide) _ _ _ rfl ho [.int .u8 0] _ rfl rfl (bv_oneCell [0]) (by omega) (by decide) (Nat.zero_le _) ?_)
  intro g cap w2 ho2 hg2 hgv
  have hb2 : Blk w2 p 102 #[v, .int .i64 D.length] := hb.grown hg2 (Ne.symm hvp)
  have hk2 : Kp F w w2 := Kp.of_grown hg2 fun k hk _ e => hv k e.symm hk
  have hvg : ¬ F g := fun hk => by
    rcases hgv with hgv | hgv
    · exact hv g hgv hk
    · have := hF g hk; omega
  have hgp : g ≠ p := fun e => own_blk_ne ho2 hb2 (by decide) (by rw [e]; rfl)
  have d0 := hb2.cell 0
  have d1 := hb2.cell 1
  have f0 := hb2.frozen 0
  have f1 := hb2.frozen 1
  simp only [List.getElem?_toArray, List.getElem?_cons_zero, List.getElem?_cons_succ] at d0 d1
  have hpl := HPL.out
  have hi : D.length / 8 = (pack D).length := by omega
  have hcell : w2.cell? ⟨g, D.length / 8, none⟩ = some (.int .u8 0) := by
    rw [ho2.cellAt _ (by omega), List.getElem?_append_right (by rw [bv_length]; omega), bv_length, hi, Nat.sub_self]; rfl
  have hbz : byteAt D (D.length / 8) = 0 := by
    rw [← pack_getD, List.getD_eq_getElem?_getD, List.getElem?_eq_none (by omega)]; rfl
  have HO := hd (or_digit D x hD hx)
  rw [hbz] at HO
  have HS : Hd ((pack D ++ [0]).set (D.length / 8) (0 + x * 2 ^ (7 - D.length % 8)) = pack (D ++ [x])) := by
    show _ = _
    rw [pack_snoc_new D x h8, hi, h8, List.set_append_right _ _ (Nat.le_refl _), Nat.sub_self]
    simp
  have ho3 : (w2.setCell ⟨p, 0, none⟩ (.slice (some ⟨g, 0, none⟩) ((pack D).length + 1) cap)).ownsRow 0 5 1 (.slice (some ⟨g, 0, none⟩) ((pack D).length + 1) cap) ((pack D).length + 1) (bv (pack D ++ [0])) := by
    rw [bv_append]
    exact ownsRow_setCell_other ho2 (a := ⟨p, 0, none⟩) (by simp [Value.ownBlock]; exact hgp) _
  have hb3 : Blk (w2.setCell ⟨p, 0, none⟩ (.slice (some ⟨g, 0, none⟩) ((pack D).length + 1) cap)) p 102 #[.slice (some ⟨g, 0, none⟩) ((pack D).length + 1) cap, .int .i64 D.length] := hb2.set 0 _
  have hk3 : Kp F w (w2.setCell ⟨p, 0, none⟩ (.slice (some ⟨g, 0, none⟩) ((pack D).length + 1) cap)) := hk2.set (fun k hk _ e => by subst e; exact hp hk)
  have hcell3 : (w2.setCell ⟨p, 0, none⟩ (.slice (some ⟨g, 0, none⟩) ((pack D).length + 1) cap)).cell? ⟨g, D.length / 8, none⟩ = some (.int .u8 0) :=
    (World.cell?_setCell_other w2 ⟨p, 0, none⟩ ⟨g, D.length / 8, none⟩ _ (fun e => hgp (by injection e with e; exact e.symm))).trans hcell
  clear c0 c1 hb hg2 hgv hvp hbz hcell hv ho hpl
  have hlt : D.length / 8 < (pack D).length + 1 := by omega
  have HI := hd hi
  clear hi
  go_wp2
  clear d0 d1 f0 f1 hb2 ho2 hk2
  generalize (w2.setCell ⟨p, 0, none⟩ (.slice (some ⟨g, 0, none⟩) ((pack D).length + 1) cap)) = w3 at *
  have d0 := hb3.cell 0
  have d1 := hb3.cell 1
  have f0 := hb3.frozen 0
  have f1 := hb3.frozen 1
  have fg := ho3.frozenAt (D.length / 8)
  simp only [List.getElem?_toArray, List.getElem?_cons_zero, List.getElem?_cons_succ] at d0 d1
  go_region
  go_wp2
  go_end0
  exact ⟨rfl, wr_put (z := 0 + x * 2 ^ (7 - D.length % 8)) hb3 ho3 hgp hD hx hp hvg _ (by have h := HO.out; rw [h8] at h ⊢; simpa using h) HS.out, kp_put hk3 hp hvg⟩

/-- A digit more. -/
theorem digit_any {F : Nat → Prop} {w : World} {p : Nat} {D : List Nat} (h : Wr F w p D) (d : Int) (x : Nat) (hd0 : d = x) (hx : x < 2) (hF : ∀ k, F k → k < w.heap.size) (hl : D.length ≤ 1000000000000) :
    Calls Try.prog 64 #[.pointer (some ⟨p, 0, none⟩), .int .u8 d] w fun e w' => e = .returned (.tuple #[]) ∧ Wr F w' p (D ++ [x]) ∧ Kp F w w' := by
  by_cases h8 : D.length % 8 = 0
  · exact digit_new h d x hd0 hx hF hl h8
  · exact digit_in h d x hd0 hx hl h8

theorem u8_and1 (x : Nat) (hx : x < 2 ^ 64) (i : Nat) : bits .and .u64 ((x : Int) / 2 ^ i) 1 % 256 = ((x / 2 ^ i % 2 : Nat) : Int) := by
  have e : (x : Int) / 2 ^ i = ((x / 2 ^ i : Nat) : Int) := by simp
  have hlt : x / 2 ^ i < 2 ^ 64 := Nat.lt_of_le_of_lt (Nat.div_le_self _ _) hx
  rw [e, show (1 : Int) = ((1 : Nat) : Int) from rfl, u64_and_nat _ 1 (by simpa using hlt) (by decide), Nat.and_one_is_mod]
  omega

/-- How many digits Put puts. -/
def pk (c : Int) : Nat := (max 0 (min c 64)).toNat
theorem pk_nat (k : Nat) (h : k ≤ 64) : pk k = k := by unfold pk; omega
theorem pk_le (c : Int) : pk c ≤ 64 := by unfold pk; omega

set_option maxHeartbeats 400000 in
set_option maxRecDepth 100000 in
theorem Put_any {F : Nat → Prop} {w : World} {p : Nat} {D : List Nat} (h : Wr F w p D) (a : Int) (x : Nat) (ha : a = x) (hx : x < 2 ^ 64) (c : Int) (k : Nat) (hk : pk c = k) (hF : ∀ k, F k → k < w.heap.size) (hl : D.length ≤ 999999999900) :
    Calls Try.prog 16 #[.pointer (some ⟨p, 0, none⟩), .int .u64 a, .int .i64 c] w fun e w' => e = .returned (.pointer (some ⟨p, 0, none⟩)) ∧ Wr F w' p (D ++ ofn x k) ∧ Kp F w w' := by
  subst ha
  have hp64 : k ≤ 64 := hk ▸ pk_le c
  have hc : c < 0 ∧ (k : Int) = 0 ∨ 0 < c ∧ c < 64 ∧ (k : Int) = c ∨ 64 < c ∧ (k : Int) = 64 ∨ c = 0 ∧ (k : Int) = 0 ∨ c = 64 ∧ (k : Int) = 64 := by unfold pk at hk; omega
  have hx' := hx
  clear hk
  rcases hc with ⟨hc, hk⟩ | ⟨hc, hc2, hk⟩ | ⟨hc, hk⟩ | ⟨rfl, hk⟩ | ⟨rfl, hk⟩
  all_goals
    have HK := hd hk
    clear hk
    go_enter Try.func16, Try.ntmps16
    go_wp2
    go_loopw [7] (fun i wr => ∃ (j : Nat) (E : List Nat), j ≤ k ∧ E.length + j = k ∧ i = .int .i64 ((j : Int) - 1) ∧ E ++ ofn x j = ofn x k ∧ Wr F wr p (D ++ E) ∧ Kp F w wr) (fun i _ => (intOf i + 1).toNat)
    case atStart =>
      exact ⟨k, [], Nat.le_refl _, by simp, by rw [HK.out]; try rfl, rfl, by simpa using h, Kp.refl _ _⟩
    case round =>
      obtain ⟨j, E, hj, hEl, rfl, hE, hW, hK⟩ := hrel
      have HE := hd hE
      have hEb : E.length ≤ 64 := by omega
      have HL := hd hEl
      clear hE hEl
      cases j with
      | zero =>
        go_wp2
        go_ret
        refine ⟨rfl, ?_, hK⟩
        rw [← HE.out]; simpa [ofn] using hW
      | succ j =>
        go_wp2_with (go_at_call 64; refine (digit_any hW _ (x / 2 ^ j % 2) (u8_and1 x hx j) (Nat.mod_lt _ (by decide)) (fun k hk => Nat.lt_of_lt_of_le (hF k hk) hK.size) (by simp; omega)).mono ?_; rintro e w' ⟨rfl, hW', hK'⟩)
        go_roundw
        case rel =>
          have hE := HE.out
          have hL := HL.out
          exact ⟨j, E ++ [x / 2 ^ j % 2], by omega, by simp; omega, by go_num, by rw [← hE, ofn]; simp, by rw [← List.append_assoc]; exact hW', hK.trans hK'⟩
        case measure => simp [intOf] <;> omega
end Go.Proofs.Ytoonnlphfanmhaa
