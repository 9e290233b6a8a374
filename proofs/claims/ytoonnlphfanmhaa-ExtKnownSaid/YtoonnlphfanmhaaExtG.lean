/- The law ExtReads. -/
import Derived.Test.YtoonnlphfanmhaaExtF
namespace Go.Proofs.Ytoonnlphfanmhaa
open Go.RowKit

theorem rows_ne {w : World} {base e1 e2 s1 s2 n1 n2 : Nat} {v1 v2 : Value} {xs1 xs2 : List Value} (h1 : w.ownsRow base e1 s1 v1 n1 xs1) (h2 : w.ownsRow base e2 s2 v2 n2 xs2) (hne : e1 ≠ e2) :
    ∀ g, v1.ownBlock = some g → some g ≠ v2.ownBlock := by
  intro g hg heq
  rcases h1.2 with ⟨rfl, _⟩ | ⟨g', cap, cur, rfl, _, hh, _⟩
  · cases hg
  · have hgg : g' = g := by simpa [Value.ownBlock] using hg
    subst hgg
    exact own_blk_ne h2 (show Blk w g' e1 cur from hh) (Ne.symm hne) heq.symm

theorem prs_len (one : Bool) (bs : List Nat) : ∀ f i acc, (∀ x ∈ acc, x.2.length ≤ bs.length) → ∀ x ∈ (prs one bs f i acc).1, x.2.length ≤ bs.length := by
  intro f
  induction f with
  | zero => intro i acc h; exact h
  | succ f ih =>
    intro i acc h
    have app : ∀ c (k m : Nat), ∀ x ∈ acc ++ [(c, (bs.drop k).take m)], x.2.length ≤ bs.length := by
      intro c k m x hx
      rcases List.mem_append.1 hx with hx | hx
      · exact h x hx
      · simp at hx
        subst hx
        simp only [List.length_take, List.length_drop]
        omega
    simp only [prs]
    split
    · exact h
    split
    · exact ih _ _ h
    split
    · split
      · exact h
      split
      · simp
      split
      · simp
      · exact ih _ _ (app _ _ _)
    · split
      · simp
      split
      · simp
      · exact ih _ _ (app _ _ _)
theorem extP_len (p : Nat) (bs : List Nat) : ∀ i (h : i < (extP p bs).1.length), ((extP p bs).1)[i].2.length ≤ bs.length := by
  intro i h
  have hx : ((extP p bs).1)[i] ∈ (extP p bs).1 := List.getElem_mem h
  generalize ((extP p bs).1)[i] = x at *
  unfold extP at hx
  split at hx
  · simp at hx
  split at hx
  · simp at hx
  · exact prs_len _ _ _ _ _ (by simp) x hx
theorem prs_num (one : Bool) (bs : List Nat) : ∀ f i acc, acc.length ≤ i → i ≤ bs.length → (prs one bs f i acc).1.length ≤ bs.length := by
  intro f
  induction f with
  | zero => intro i acc h h'; exact Nat.le_trans h h'
  | succ f ih =>
    intro i acc h h'
    simp only [prs]
    split
    · exact Nat.le_trans h h'
    split
    · exact ih _ _ (by omega) (by omega)
    split
    · split
      · exact Nat.le_trans h h'
      split
      · simp
      split
      · simp
      · exact ih _ _ (by simp; omega) (by omega)
    · split
      · simp
      split
      · simp
      · exact ih _ _ (by simp; omega) (by omega)
theorem extP_num (p : Nat) (bs : List Nat) : (extP p bs).1.length ≤ bs.length := by
  unfold extP
  split
  · simp
  split
  · simp
  · exact prs_num _ _ _ _ _ (by simp) (by omega)

theorem l3same_eq {w : World} {v1 v2 : Value} {E : List (Nat × List Nat)} (h1 : Els w v1 E) (h2 : Els w v2 E) (hl : ∀ i (h : i < E.length), E[i].2.length ≤ 1000000) (hn : E.length ≤ 1000000) :
    Calls Try.prog 37 #[v1, v2] w fun e w' => e = .returned (.bool true) ∧ ∃ n, w' = w.drewN n := by
  have := l3same_any h1 h2 hl hn
  rwa [decide_eq_true rfl] at this

set_option maxHeartbeats 4000000 in
set_option maxRecDepth 100000 in
theorem ExtReads_any {w : World} {v : Value} {bs : List Nat} (p : Nat) (hp : p < 65536) (h : Sl w v (bv bs)) (hb : Bts bs) :
    Calls Try.prog 6 #[.int .u16 p, v] w fun e w' => e = .returned (.bool true) ∧ Kp (fun _ => True) w w' := by
  obtain ⟨A, cap, rfl⟩ := h.form8
  by_cases hbig : 400 < bs.length
  · go_enter Try.func6, Try.ntmps6
    go_wp2_with (go_at_call 33; refine (works03_any _).mono ?_; rintro e w1 ⟨rfl, hK⟩)
    go_ret
    exact ⟨rfl, hK⟩
  go_enter Try.func6, Try.ntmps6
  go_wp2_with fail
  refine (Own_any h (by omega)).mono ?_
  rintro e w1 ⟨vo, rfl, hO, hK1⟩
  have hso := Sl.of_own hO
  obtain ⟨Ao, co, rfl⟩ := hso.form8
  replace h := h.all hK1
  have hmo := hd (own_capmax hO)
  clear hO
  go_wp2_with fail
  refine (r3Parse_any p hp hso hmo.out hb (by omega)).mono ?_
  have hlen := hd (extP_len p bs)
  have hnum := extP_num p bs
  obtain ⟨E, err, hX⟩ : ∃ E err, extP p bs = (E, err) := ⟨_, _, rfl⟩
  have HE2 : Hd (∀ (w' : World) (v' : Value), Sl w' v' (bv bs) → Calls Try.prog 36 #[.int .u16 p, v'] w' fun e w2 => ∃ lv, e = .returned (.tuple #[lv, .int .i64 err]) ∧ ElsW w'.heap.size 64 w2 lv E ∧ Kp (fun _ => True) w' w2) := by
    intro w' v' hs
    have := extParse_any p hp hs hb (by omega)
    rw [hX] at this
    exact this
  rw [hX] at hlen hnum ⊢
  clear hX
  dsimp only at hlen hnum ⊢
  rintro e w2 ⟨lw, rfl, hEW, hK2⟩
  have hW := hEW.els
  clear hEW
  replace h := h.all hK2
  replace hso := hso.all hK2
  replace hK2 := hK1.trans hK2
  clear hK1
  obtain ⟨Aw, cw, rfl⟩ := hW.form
  go_wp2_with fail
  go_loopw [8] (fun tv wo => ∃ t : Nat, t ≤ 2 ∧ tv = .int .i64 t ∧ Kp (fun _ => True) w2 wo) (fun tv _ => 2 - (intOf tv).toNat)
  case atStart => exact ⟨0, by omega, rfl, Kp.refl _ _⟩
  case round =>
    obtain ⟨t, ht, rfl, hK⟩ := hrel
    obtain ⟨wo, hwo⟩ : ∃ wo, wo = wr := ⟨_, rfl⟩
    subst hwo
    by_cases ht2 : t < 2
    · go_wp2_with fail
      refine (HE2.out _ _ (h.all hK)).mono ?_
      rintro e w3 ⟨lv, rfl, hE3, hK3⟩
      obtain ⟨Al, cl, rfl⟩ := hE3.els.form
      go_wp2_with fail
      refine (l3same_eq hE3.els (hW.all (hK.trans hK3)) (fun j hj => Nat.le_trans (hlen.out j hj) (by omega)) (by omega)).mono ?_
      rintro e w4 ⟨rfl, n4, rfl⟩
      replace hE3 := hE3.drewN n4
      replace hK3 := hK3.drewN n4
      obtain ⟨L, hLo, hLl, hLi⟩ := hE3
      go_wp2_with fail
      go_loopw [11] (fun iv wr => ∃ i : Nat, i ≤ E.length ∧ iv = .int .i64 i ∧ Kp (fun _ => True) wo wr ∧ wr.ownsRow wo.heap.size 64 2 (.slice Al E.length cl) E.length (els L) ∧ Hd (∀ j (hj : j < E.length) (hj' : j < L.length), Rw wo.heap.size wr L[j].2 E[j].2.length)) (fun iv _ => E.length - (intOf iv).toNat)
      case atStart => exact ⟨0, Nat.zero_le _, rfl, hK3, hLo, fun j hj hj' => ⟨_, (hLi j hj hj').2.2.2⟩⟩
      case round =>
        obtain ⟨i, hi, rfl, hKi, ho, hR⟩ := hrel
        by_cases hlt : i < E.length
        · obtain ⟨g, off, rfl, _, hc⟩ := (SlN.of_own ho).at_ (els_data L i (by omega))
          have hRw := hR.out i hlt (by omega)
          have hbn := hlen.out i hlt
          rw [← Nat.add_assoc] at hc
          generalize L[i].2 = u at hc hRw
          generalize E[i].2.length = n at hbn hRw
          obtain ⟨C, k, rfl⟩ : ∃ C k, u = .slice C n k := by
            obtain ⟨xs, hx⟩ := hRw
            rcases hx.2 with ⟨rfl, rfl⟩ | ⟨g, cap, cur, rfl, _⟩
            · exact ⟨_, _, rfl⟩
            · exact ⟨_, _, rfl⟩
          go_wp2_with fail
          refine (Spoil_rw hRw (by omega)).mono ?_
          rintro e w5 ⟨rfl, hK5, hW5⟩
          obtain ⟨xs, hx⟩ := hRw
          have hne := rows_ne ho hx (by decide)
          have hk := hKi.next hK5 (fun q _ hq e => by have := (hx.lt q e.symm).1; omega)
          replace ho := own_kp ho hK5 (fun q _ hq => hne q hq)
          go_wp2
          go_roundw
          case rel => exact ⟨i + 1, by omega, by go_num, hk, ho, fun j hj hj' => hW5.out _ _ (hR.out j hj hj')⟩
          case measure => simp [intOf]; omega
        · go_wp2
          go_roundw
          case rel => exact ⟨t + 1, by omega, by go_num, hK.trans hKi⟩
          case measure => simp [intOf]; omega
    · obtain rfl : t = 2 := by omega
      go_wp2_with fail
      refine (SameBytes_is (h.all hK) (hso.all hK) (by omega) true (by simp)).mono ?_
      rintro e w3 ⟨rfl, n3, rfl⟩
      replace hK := hK.drewN n3
      go_wp2_with fail
      refine (extKnown_any p _ hp).mono ?_
      rintro e w4 ⟨rfl, hK4⟩
      replace hK := hK.trans hK4
      clear hK4
      go_wp2_with fail
      refine (r3Known_any p _).mono ?_
      rintro e w5 ⟨rfl, rfl⟩
      go_wp2_with fail
      refine (works03_any _).mono ?_
      rintro e w6 ⟨rfl, hK6⟩
      go_wp2
      go_ret
      exact ⟨rfl, (hK2.trans hK).trans hK6⟩
end Go.Proofs.Ytoonnlphfanmhaa
