/- Texts of this session, one behind the other, what the row does not use left out: walks and laws over plain data. -/
import Derived.Test.YthgjhdcifdfhoaaPU5
import Derived.Test.YthgjhdcifdfhoaaPU6
import Derived.Laws.BitsLemmas
import Derived.StillTailTactics
import Derived.Deep.DeepCutAuto
import Derived.Deep.CutBlock

namespace Go.Proofs.Ythgjhdcifdfhoaa.V5
open Go.RowKit Go.Proofs.Ythgjhdcifdfhoaa Go.Proofs.YthgjhdcifdfhoaaW.PrintWords
set_option linter.unusedVariables false
set_option linter.unusedSimpArgs false

/-- What Put answers. -/
def wR (d : VD) (rs : List Nat) : List Nat := if rightV d = true then putB d ++ rs else []
def wE (d : VD) : Int := if rightV d = true then 0 else 50
set_option maxHeartbeats 2000000 in
set_option maxRecDepth 100000 in
theorem vPut_any {w : World} {v : Value} {d : VD} {rs : List Nat} (hok : d.Ok) (hs : Sl w v (bv rs)) (hl : rs.length ≤ 1000000) :
    Calls Try.prog 22 #[.agg (dv d), v] w fun e w' => ∃ v', e = .returned (.tuple #[v', .int .i64 (wE d)]) ∧ w'.ownsRow w.heap.size 5 1 v' (wR d rs).length (bv (wR d rs)) ∧ Kp (fun _ => True) w w' := by
  obtain ⟨A0, p0, rfl⟩ := hs.form8
  have hps := put_short d
  have HPQ := hd (putV_eq d)
  obtain ⟨n, st, part, hp, lg, pic, ht, tl, hi, ti, sy, hk, ky⟩ := d
  unfold dv
  go_enter Try.func22, Try.ntmps22
  go_wp2_with fail
  refine (vRight_any _ ⟨n, st, part, hp, lg, pic, ht, tl, hi, ti, sy, hk, ky⟩ hok).mono ?_
  rintro e w1 ⟨rfl, hK1⟩
  have hB1 := (Blk.new w 31 (dv ⟨n, st, part, hp, lg, pic, ht, tl, hi, ti, sy, hk, ky⟩)).kp hK1 trivial
  have hK : Kp (fun _ => True) w w1 := ((Kp.refl _ _).alloc _).trans hK1
  have hs1 := hs.all hK
  have cB := hB1.cell
  unfold dv at cB
  clear hK1 hs
  cases hr : rightV ⟨n, st, part, hp, lg, pic, ht, tl, hi, ti, sy, hk, ky⟩
  · have e1 : wR ⟨n, st, part, hp, lg, pic, ht, tl, hi, ti, sy, hk, ky⟩ rs = [] := by unfold wR; rw [hr]; rfl
    have e2 : wE ⟨n, st, part, hp, lg, pic, ht, tl, hi, ti, sy, hk, ky⟩ = 50 := by unfold wE; rw [hr]; rfl
    have E1 := hd e1
    have E2 := hd e2
    clear e1 e2
    go_wp2
    go_ret2
    exact ⟨_, by rw [E2.out]; rfl, by rw [E1.out]; exact World.ownsRow_nil _ _ _ _, hK⟩
  · have e1 : wR ⟨n, st, part, hp, lg, pic, ht, tl, hi, ti, sy, hk, ky⟩ rs = putV ⟨n, st, part, hp, lg, pic, ht, tl, hi, ti, sy, hk, ky⟩ ++ rs := by unfold wR; rw [hr, if_pos rfl, HPQ.out]
    have e2 : wE ⟨n, st, part, hp, lg, pic, ht, tl, hi, ti, sy, hk, ky⟩ = 0 := by unfold wE; rw [hr]; rfl
    have E1 := hd e1
    have E2 := hd e2
    clear e1 e2
    go_wp2_with fail
    refine (vput_any _ ⟨n, st, part, hp, lg, pic, ht, tl, hi, ti, sy, hk, ky⟩ hok).mono ?_
    rintro e w2 ⟨v2, rfl, hO2, hK2⟩
    obtain ⟨A2, p2, rfl⟩ := (Sl.of_own hO2).form8
    have hs2 := hs1.all hK2
    have hKb := hK.trans hK2
    clear hK hK2 hs1 cB hB1
    go_wp2_with fail
    refine (Concat2 (a := putV ⟨n, st, part, hp, lg, pic, ht, tl, hi, ti, sy, hk, ky⟩) (b := rs) ((Blk.new w2 _ _).cell 0) ((Blk.new w2 _ _).cell 1) (by simp) ((Sl.of_own hO2).alloc _) (hs2.alloc _) (by omega)).mono ?_
    rintro e w3 ⟨v3, rfl, hO3, hK3⟩
    go_wp2
    go_ret2
    have hKc := (hKb.alloc _).trans hK3
    exact ⟨_, by rw [E2.out]; rfl, by rw [E1.out]; exact own_weaken hO3 (by have := hKb.size; simp; omega), hKc⟩
set_option maxHeartbeats 2000000 in
set_option maxRecDepth 100000 in
theorem vLen_any (w : World) (d : VD) (hok : d.Ok) :
    Calls Try.prog 26 #[.agg (dv d)] w fun e w' => e = .returned (.int .i64 ((wR d []).length : Int)) ∧ Kp (fun _ => True) w w' := by
  obtain ⟨n, st, part, hp, lg, pic, ht, tl, hi, ti, sy, hk, ky⟩ := d
  unfold dv
  go_enter Try.func26, Try.ntmps26
  go_wp2_with fail
  refine (vPut_any (rs := []) (d := ⟨n, st, part, hp, lg, pic, ht, tl, hi, ti, sy, hk, ky⟩) hok (Sl.nil _) (by decide)).mono ?_
  rintro e w1 ⟨v1, rfl, hO, hK1⟩
  obtain ⟨A, cap, rfl⟩ := (Sl.of_own hO).form8
  go_wp2
  go_ret
  exact ⟨rfl, ((Kp.refl _ _).alloc _).trans hK1⟩
/-- Does a key frame begin? -/
def keyV (d : VD) (rs : List Nat) : Bool := d.st && (decide (d.part = 0) && (decide (0 < rs.length) && decide (rs.getD 0 0 % 2 = 0)))
theorem and_one (b : Nat) (h : b < 256) : bits .and .u8 (b : Int) 1 = ((b % 2 : Nat) : Int) := by
  have := bits_mask .u8 8 (by decide) wraps_u8 1 (by decide) (b : Int) (by omega) (by omega)
  rw [show (bits BinOp.and IntKind.u8 (b : Int) 1) = (b : Int) % 2 from this]
  omega
set_option maxHeartbeats 2000000 in
set_option maxRecDepth 100000 in
theorem vKey_any {w : World} {v : Value} {d : VD} {rs : List Nat} (hs : Sl w v (bv rs)) (hb : Bts rs) (hl : rs.length ≤ 1000000) :
    Calls Try.prog 18 #[.agg (dv d), v] w fun e w' => e = .returned (.bool (keyV d rs)) ∧ Kp (fun _ => True) w w' := by
  obtain ⟨A0, p0, rfl⟩ := hs.form8
  have HK : Hd (keyV d rs = (d.st && (decide (d.part = 0) && (decide (0 < rs.length) && decide (rs.getD 0 0 % 2 = 0))))) := hd rfl
  obtain ⟨n, st, part, hp, lg, pic, ht, tl, hi, ti, sy, hk, ky⟩ := d
  dsimp only at HK
  unfold dv
  by_cases g1 : st = true
  · subst g1
    by_cases g2 : part = 0
    · subst g2
      by_cases g3 : 0 < rs.length
      · have h3 : decide ((rs.length : Int) > 0) = true := decide_eq_true (by omega)
        obtain ⟨g, off, rfl, hg, hc⟩ := hs.at_ (k := 0) (bv_getD rs 0 g3)
        have hc2 : ∀ o, (w.alloc o).cell? ⟨g, off, none⟩ = some (.int .u8 (rs.getD 0 0 : Nat)) := fun o => (World.cell?_alloc_lt w o _ hg).trans hc
        have hb0 := hb.getD 0
        have ha := and_one (rs.getD 0 0) hb0
        generalize rs.getD 0 0 = b at *
        by_cases g4 : b % 2 = 0
        · have h4 : (((b % 2 : Nat) : Int) == 0) = true := by rw [g4]; rfl
          go_enter Try.func18, Try.ntmps18
          go_wp2
          go_ret
          exact ⟨ret_bool (by rw [HK.out]; simp [g3, g4]), (Kp.refl _ _).alloc _⟩
        · have h4 : (((b % 2 : Nat) : Int) == 0) = false := by rw [beq_eq_false_iff_ne]; omega
          go_enter Try.func18, Try.ntmps18
          go_wp2
          go_ret
          exact ⟨ret_bool (by rw [HK.out]; simp [g3, g4]; omega), (Kp.refl _ _).alloc _⟩
      · have h3 : decide ((rs.length : Int) > 0) = false := decide_eq_false (by omega)
        go_enter Try.func18, Try.ntmps18
        go_wp2
        go_ret
        exact ⟨ret_bool (by rw [HK.out]; simp [g3]), (Kp.refl _ _).alloc _⟩
    · have h2 : ((part : Int) == 0) = false := by rw [beq_eq_false_iff_ne]; omega
      go_enter Try.func18, Try.ntmps18
      go_wp2
      go_ret
      exact ⟨ret_bool (by rw [HK.out]; simp [g2]), (Kp.refl _ _).alloc _⟩
  · have g1' : st = false := by simpa using g1
    subst g1'
    go_enter Try.func18, Try.ntmps18
    go_wp2
    go_ret
    exact ⟨ret_bool (by rw [HK.out]; rfl), (Kp.refl _ _).alloc _⟩
set_option maxHeartbeats 2000000 in
set_option maxRecDepth 100000 in
theorem vAnew_any (w : World) (d : VD) (pic' tl' ti' : Nat) (sy' : Bool) (h1 : pic' < 65536) (h3 : ti' < 256) :
    Calls Try.prog 23 #[.agg (dv d), .int .u16 (pic' : Int), .int .u8 (tl' : Int), .int .u8 (ti' : Int), .bool sy'] w fun e w' => e = .returned (.agg (dv (d.anew pic' tl' ti' sy'))) ∧ Kp (fun _ => True) w w' := by
  have b1 : bits .and .u16 (pic' : Int) 32767 = ((pic' % 32768 : Nat) : Int) := by
    have := bits_mask .u16 16 (by decide) (fun n h0 h1 => by simp [IntKind.wrap, IntKind.bits, IntKind.signed] at *; omega) 15 (by decide) (pic' : Int) (by omega) (by omega)
    rw [show (bits BinOp.and IntKind.u16 (pic' : Int) 32767) = (pic' : Int) % 32768 from this]
    omega
  have b2 : bits .and .u8 (ti' : Int) 3 = ((ti' % 4 : Nat) : Int) := by
    have := bits_mask .u8 8 (by decide) wraps_u8 2 (by decide) (ti' : Int) (by omega) (by omega)
    rw [show (bits BinOp.and IntKind.u8 (ti' : Int) 3) = (ti' : Int) % 4 from this]
    omega
  obtain ⟨n, st, part, hp, lg, pic, ht, tl, hi, ti, sy, hk, ky⟩ := d
  unfold dv
  go_enter Try.func23, Try.ntmps23
  go_wp2
  refine bodyPost_ret (results_single rfl (.cell (w.heap.size + 1) 31 _ (0, 0) _ rfl (by rw [← show (w.alloc _).heap.size = w.heap.size + 1 from by simp]; exact Blk.new _ _ _) Try.underlying31 rfl (by kernel_rfl) .nil)) rfl ⟨rfl, ((Kp.refl _ _).alloc _).alloc _⟩
end Go.Proofs.Ythgjhdcifdfhoaa.V5

namespace Go.Proofs.Ythgjhdcifdfhoaa.V5
open Go.RowKit Go.Proofs.Ythgjhdcifdfhoaa Go.Proofs.YthgjhdcifdfhoaaW.PrintWords
set_option linter.unusedVariables false
set_option linter.unusedSimpArgs false

/-- Much, or nothing. -/
def dg5 (x : Bool) (n : Nat) : Nat := bt x * n
set_option maxHeartbeats 2000000 in
set_option maxRecDepth 100000 in
theorem l5ref_any (w : World) (d : VD) : Calls Try.prog 16 #[.agg (dv d)] w fun e w' => e = .returned (.agg (dv d)) ∧ Kp (fun _ => True) w w' := by
  obtain ⟨n, st, part, hp, lg, pic, ht, tl, hi, ti, sy, hk, ky⟩ := d
  unfold dv
  go_enter Try.func16, Try.ntmps16
  go_wp2
  refine bodyPost_ret (results_single rfl (.cell (w.heap.size + 1) 27 _ (0, 0) _ rfl (by rw [← show (w.alloc _).heap.size = w.heap.size + 1 from by simp]; exact Blk.new _ _ _) Try.underlying27 rfl (by kernel_rfl) .nil)) rfl ⟨rfl, ((Kp.refl _ _).alloc _).alloc _⟩
set_option maxHeartbeats 2000000 in
set_option maxRecDepth 100000 in
theorem r5Anew_any (w : World) (d : VD) (pic' tl' ti' : Nat) (sy' : Bool) (h1 : pic' < 65536) (h3 : ti' < 256) :
    Calls Try.prog 27 #[.agg (dv d), .int .u16 (pic' : Int), .int .u8 (tl' : Int), .int .u8 (ti' : Int), .bool sy'] w fun e w' => e = .returned (.agg (dv (d.anew pic' tl' ti' sy'))) ∧ Kp (fun _ => True) w w' := by
  obtain ⟨q1, hq1⟩ : ∃ q, q = pic' % 32768 := ⟨_, rfl⟩
  obtain ⟨q2, hq2⟩ : ∃ q, q = ti' % 4 := ⟨_, rfl⟩
  have b1 : Int.tmod (pic' : Int) 32768 = (q1 : Int) := by rw [Int.tmod_eq_emod_of_nonneg (by omega)]; omega
  have b2 : Int.tmod (ti' : Int) 4 = (q2 : Int) := by rw [Int.tmod_eq_emod_of_nonneg (by omega)]; omega
  have b3 : (pic' : Int) % 32768 = (q1 : Int) := by omega
  have b4 : (ti' : Int) % 4 = (q2 : Int) := by omega
  have HA : Hd (d.anew pic' tl' ti' sy' = { d with hp := true, lg := true, pic := q1, ht := true, tl := tl', hi := true, ti := q2, sy := sy' }) := hd (by unfold VD.anew; rw [hq1, hq2])
  rw [HA.out]
  clear hq1 hq2 HA
  obtain ⟨n, st, part, hp, lg, pic, ht, tl, hi, ti, sy, hk, ky⟩ := d
  unfold dv
  go_enter Try.func27, Try.ntmps27
  go_wp2
  refine bodyPost_ret (results_single rfl (.cell (w.heap.size + 1) 27 _ (0, 0) _ rfl (by rw [← show (w.alloc _).heap.size = w.heap.size + 1 from by simp]; exact Blk.new _ _ _) Try.underlying27 rfl (by kernel_rfl) .nil)) rfl ⟨rfl, ((Kp.refl _ _).alloc _).alloc _⟩
set_option maxHeartbeats 2000000 in
set_option maxRecDepth 100000 in
theorem r5Key_any {w : World} {v : Value} {d : VD} {rs : List Nat} (hs : Sl w v (bv rs)) (hb : Bts rs) (hl : rs.length ≤ 1000000) :
    Calls Try.prog 19 #[.agg (dv d), v] w fun e w' => e = .returned (.bool (keyV d rs)) ∧ Kp (fun _ => True) w w' := by
  obtain ⟨A0, p0, rfl⟩ := hs.form8
  have HK : Hd (keyV d rs = (d.st && (decide (d.part = 0) && (decide (0 < rs.length) && decide (rs.getD 0 0 % 2 = 0))))) := hd rfl
  obtain ⟨n, st, part, hp, lg, pic, ht, tl, hi, ti, sy, hk, ky⟩ := d
  dsimp only at HK
  unfold dv
  by_cases g1 : st = true
  · subst g1
    by_cases g2 : part = 0
    · subst g2
      by_cases g3 : 0 < rs.length
      · have h3 : decide ((rs.length : Int) ≥ 1) = true := decide_eq_true (by omega)
        have h3' : decide (1 ≤ (rs.length : Int)) = true := decide_eq_true (by omega)
        obtain ⟨g, off, rfl, hg, hc⟩ := hs.at_ (k := 0) (bv_getD rs 0 g3)
        have hc2 : ∀ o, (w.alloc o).cell? ⟨g, off, none⟩ = some (.int .u8 (rs.getD 0 0 : Nat)) := fun o => (World.cell?_alloc_lt w o _ hg).trans hc
        have hb0 := hb.getD 0
        obtain ⟨q, hq⟩ : ∃ q, q = rs.getD 0 0 % 2 := ⟨_, rfl⟩
        have ha : Int.tmod ((rs.getD 0 0 : Nat) : Int) 2 = (q : Int) := by rw [Int.tmod_eq_emod_of_nonneg (by omega)]; omega
        have ha' : ((rs.getD 0 0 : Nat) : Int) % 2 = (q : Int) := by omega
        rw [← hq] at HK
        clear hq
        generalize rs.getD 0 0 = b at *
        by_cases g4 : q = 0
        · have h4 : ((q : Int) == 0) = true := by rw [g4]; rfl
          go_enter Try.func19, Try.ntmps19
          go_wp2
          go_ret
          exact ⟨ret_bool (by rw [HK.out]; simp [g3, g4]), (Kp.refl _ _).alloc _⟩
        · have h4 : ((q : Int) == 0) = false := by rw [beq_eq_false_iff_ne]; omega
          go_enter Try.func19, Try.ntmps19
          go_wp2
          go_ret
          exact ⟨ret_bool (by rw [HK.out]; simp [g3, g4]), (Kp.refl _ _).alloc _⟩
      · have h3 : decide ((rs.length : Int) ≥ 1) = false := decide_eq_false (by omega)
        have h3' : decide (1 ≤ (rs.length : Int)) = false := decide_eq_false (by omega)
        go_enter Try.func19, Try.ntmps19
        go_wp2
        go_ret
        exact ⟨ret_bool (by rw [HK.out]; simp [g3]), (Kp.refl _ _).alloc _⟩
    · have h2 : ((part : Int) == 0) = false := by rw [beq_eq_false_iff_ne]; omega
      go_enter Try.func19, Try.ntmps19
      go_wp2
      go_ret
      exact ⟨ret_bool (by rw [HK.out]; simp [g2]), (Kp.refl _ _).alloc _⟩
  · have g1' : st = false := by simpa using g1
    subst g1'
    go_enter Try.func19, Try.ntmps19
    go_wp2
    go_ret
    exact ⟨ret_bool (by rw [HK.out]; rfl), (Kp.refl _ _).alloc _⟩
end Go.Proofs.Ythgjhdcifdfhoaa.V5
