/- Texts of this session, one behind the other, what the row does not use left out: walks and laws over plain data. -/
import Derived.Test.YthgjhdcifdfhoaaPU8
import Derived.Test.YthgjhdcifdfhoaaPU9
import Derived.Test.YthgjhdcifdfhoaaPU14
import Derived.Deep.RegionHeld3
import Derived.LoopN

namespace Go.Proofs.Ythgjhdcifdfhoaa.V5
open Go.RowKit Go.Proofs.Ythgjhdcifdfhoaa Go.Proofs.YthgjhdcifdfhoaaW.PrintWords
set_option linter.unusedVariables false
set_option linter.unusedSimpArgs false

theorem Kp.drn {w : World} (n : Nat) : Kp (fun _ => True) w (w.drewN n) := (Kp.refl _ _).drewN n
theorem same_any {w : World} {v1 v2 : Value} {a : List Nat} (h1 : Sl w v1 (bv a)) (h2 : Sl w v2 (bv a)) (hl : a.length ≤ 1000000) :
    Calls Try.prog 17 #[v1, v2] w fun e w' => e = .returned (.bool true) ∧ Kp (fun _ => True) w w' := by
  refine (SameBytes_any h1 h2 (by omega)).mono ?_
  rintro e w' ⟨rfl, n, rfl⟩
  exact ⟨by rw [decide_eq_true rfl], Kp.drn n⟩
theorem l5ref_lit (w : World) (n st hp lg ht hi sy hk : Bool) (part pic tl ti ky : Nat) : Calls Try.prog 16 #[.agg #[.bool n, .bool st, .int .u8 (part : Int), .bool hp, .bool lg, .int .u16 (pic : Int), .bool ht, .int .u8 (tl : Int), .bool hi, .int .u8 (ti : Int), .bool sy, .bool hk, .int .u8 (ky : Int)]] w fun e w' => e = .returned (.agg #[.bool n, .bool st, .int .u8 (part : Int), .bool hp, .bool lg, .int .u16 (pic : Int), .bool ht, .int .u8 (tl : Int), .bool hi, .int .u8 (ti : Int), .bool sy, .bool hk, .int .u8 (ky : Int)]) ∧ Kp (fun _ => True) w w' :=
  l5ref_any w ⟨n, st, part, hp, lg, pic, ht, tl, hi, ti, sy, hk, ky⟩
theorem vAnew_lit (w : World) (n st hp lg ht hi sy hk : Bool) (part pic tl ti ky pic' tl' ti' q1 q2 : Nat) (sy' : Bool) (h1 : pic' < 65536) (h3 : ti' < 256) (e1 : pic' % 32768 = q1) (e2 : ti' % 4 = q2) :
    Calls Try.prog 23 #[.agg #[.bool n, .bool st, .int .u8 (part : Int), .bool hp, .bool lg, .int .u16 (pic : Int), .bool ht, .int .u8 (tl : Int), .bool hi, .int .u8 (ti : Int), .bool sy, .bool hk, .int .u8 (ky : Int)], .int .u16 (pic' : Int), .int .u8 (tl' : Int), .int .u8 (ti' : Int), .bool sy'] w fun e w' => e = .returned (.agg #[.bool n, .bool st, .int .u8 (part : Int), .bool true, .bool true, .int .u16 (q1 : Int), .bool true, .int .u8 (tl' : Int), .bool true, .int .u8 (q2 : Int), .bool sy', .bool hk, .int .u8 (ky : Int)]) ∧ Kp (fun _ => True) w w' := by
  subst e1 e2
  exact vAnew_any w ⟨n, st, part, hp, lg, pic, ht, tl, hi, ti, sy, hk, ky⟩ pic' tl' ti' sy' h1 h3
theorem r5Anew_lit (w : World) (n st hp lg ht hi sy hk : Bool) (part pic tl ti ky pic' tl' ti' q1 q2 : Nat) (sy' : Bool) (h1 : pic' < 65536) (h3 : ti' < 256) (e1 : pic' % 32768 = q1) (e2 : ti' % 4 = q2) :
    Calls Try.prog 27 #[.agg #[.bool n, .bool st, .int .u8 (part : Int), .bool hp, .bool lg, .int .u16 (pic : Int), .bool ht, .int .u8 (tl : Int), .bool hi, .int .u8 (ti : Int), .bool sy, .bool hk, .int .u8 (ky : Int)], .int .u16 (pic' : Int), .int .u8 (tl' : Int), .int .u8 (ti' : Int), .bool sy'] w fun e w' => e = .returned (.agg #[.bool n, .bool st, .int .u8 (part : Int), .bool true, .bool true, .int .u16 (q1 : Int), .bool true, .int .u8 (tl' : Int), .bool true, .int .u8 (q2 : Int), .bool sy', .bool hk, .int .u8 (ky : Int)]) ∧ Kp (fun _ => True) w w' := by
  subst e1 e2
  exact r5Anew_any w ⟨n, st, part, hp, lg, pic, ht, tl, hi, ti, sy, hk, ky⟩ pic' tl' ti' sy' h1 h3
theorem eqRDesc (d : Nat) (w : World) (a0 b0 a1 b1 : Bool) (a2 b2 : Int) (a3 b3 a4 b4 : Bool) (a5 b5 : Int) (a6 b6 : Bool) (a7 b7 : Int) (a8 b8 : Bool) (a9 b9 : Int) (a10 b10 a11 b11 : Bool) (a12 b12 : Int) :
    (Op.equalIn (d + 2) 27 (.agg #[.bool a0, .bool a1, .int .u8 a2, .bool a3, .bool a4, .int .u16 a5, .bool a6, .int .u8 a7, .bool a8, .int .u8 a9, .bool a10, .bool a11, .int .u8 a12]) (.agg #[.bool b0, .bool b1, .int .u8 b2, .bool b3, .bool b4, .int .u16 b5, .bool b6, .int .u8 b7, .bool b8, .int .u8 b9, .bool b10, .bool b11, .int .u8 b12])).run Try.prog w = .ok (a0 == b0 && (a1 == b1 && (a2 == b2 && (a3 == b3 && (a4 == b4 && (a5 == b5 && (a6 == b6 && (a7 == b7 && (a8 == b8 && (a9 == b9 && (a10 == b10 && (a11 == b11 && (a12 == b12))))))))))))) w := by
  refine eqA_of Try.underlying27 (by kernel_rfl) ?_
  iterate 12 refine eqf_cons (by rfl) (by go_simp; rfl) (by go_simp; rfl) (by go_simp) ?_
  exact eqf_last (by rfl) (by go_simp; rfl) (by go_simp; rfl) (by go_simp)
end Go.Proofs.Ythgjhdcifdfhoaa.V5

namespace Go.Proofs.Ythgjhdcifdfhoaa.V5
open Go.RowKit Go.Proofs.Ythgjhdcifdfhoaa Go.Proofs.YthgjhdcifdfhoaaW.PrintWords
set_option linter.unusedVariables false
set_option linter.unusedSimpArgs false
attribute [local go_sem high] eqVDesc eqRDesc
theorem wR_len (d : VD) (rs : List Nat) : (wR d rs).length ≤ rs.length + 6 := by
  unfold wR
  split
  · have := put_short d
    rw [putV_eq] at this
    rw [List.length_append]
    omega
  · simp
set_option maxHeartbeats 8000000 in
set_option maxRecDepth 100000 in
theorem Puts_any {w : World} {v : Value} {rs : List Nat} (n st hp lg ht hi sy hk : Bool) (part pic tl ti ky : Nat) (hok : VD.Ok ⟨n, st, part, hp, lg, pic, ht, tl, hi, ti, sy, hk, ky⟩) (hs : Sl w v (bv rs)) (hb : Bts rs) (hm : rs.length ≤ maxLen) (pic' tl' ti' : Nat) (sy' : Bool) (h1 : pic' < 65536) (h3 : ti' < 256) :
    Calls Try.prog 4 #[.agg #[.bool n, .bool st, .int .u8 (part : Int), .bool hp, .bool lg, .int .u16 (pic : Int), .bool ht, .int .u8 (tl : Int), .bool hi, .int .u8 (ti : Int), .bool sy, .bool hk, .int .u8 (ky : Int)], v, .int .u16 (pic' : Int), .int .u8 (tl' : Int), .int .u8 (ti' : Int), .bool sy'] w fun e w' => e = .returned (.bool true) ∧ Kp (fun _ => True) w w' := by
  obtain ⟨A, c, rfl⟩ := hs.form8
  obtain ⟨x0, hx0⟩ : ∃ x0, x0 = w.alloc (.cells #[.bool n, .bool st, .int .u8 (part : Int), .bool hp, .bool lg, .int .u16 (pic : Int), .bool ht, .int .u8 (tl : Int), .bool hi, .int .u8 (ti : Int), .bool sy, .bool hk, .int .u8 (ky : Int)] 31) := ⟨_, rfl⟩
  have HX0 := hd hx0
  have bD : Blk x0 w.heap.size 31 #[.bool n, .bool st, .int .u8 (part : Int), .bool hp, .bool lg, .int .u16 (pic : Int), .bool ht, .int .u8 (tl : Int), .bool hi, .int .u8 (ti : Int), .bool sy, .bool hk, .int .u8 (ky : Int)] := by rw [hx0]; exact Blk.new _ _ _
  have k0 : Kp (fun _ => True) w x0 := by rw [hx0]; exact (Kp.refl _ _).alloc _
  have SB := hd (hs.all k0)
  clear hx0
  by_cases h200 : rs.length > 200
  · have g0 : decide ((rs.length : Int) > 200) = true := decide_eq_true (by omega)
    have K0 := hd k0
    clear k0
    go_enter Try.func4, Try.ntmps4
    go_upto_region 1 with (fail)
    rw [← HX0.out]
    go_wp2_with fail
    refine (works5 _).mono ?_
    rintro e w1 ⟨rfl, hK1⟩
    go_wp2
    go_ret
    exact ⟨rfl, K0.out.trans hK1⟩
  have g0 : decide ((rs.length : Int) > 200) = false := decide_eq_false (by omega)
  obtain ⟨r1, e1⟩ : ∃ q, pic' % 32768 = q := ⟨_, rfl⟩
  obtain ⟨r2, e2⟩ : ∃ q, ti' % 4 = q := ⟨_, rfl⟩
  obtain ⟨E, hE⟩ : ∃ E, wE ⟨n, st, part, hp, lg, pic, ht, tl, hi, ti, sy, hk, ky⟩ = E := ⟨_, rfl⟩
  obtain ⟨ws, hW⟩ : ∃ ws, wR ⟨n, st, part, hp, lg, pic, ht, tl, hi, ti, sy, hk, ky⟩ rs = ws := ⟨_, rfl⟩
  obtain ⟨wn, hN⟩ : ∃ wn, wR ⟨n, st, part, hp, lg, pic, ht, tl, hi, ti, sy, hk, ky⟩ [] = wn := ⟨_, rfl⟩
  obtain ⟨r, hr⟩ : ∃ r, rightV ⟨n, st, part, hp, lg, pic, ht, tl, hi, ti, sy, hk, ky⟩ = r := ⟨_, rfl⟩
  obtain ⟨x, hx⟩ : ∃ x, keyV ⟨n, st, part, hp, lg, pic, ht, tl, hi, ti, sy, hk, ky⟩ rs = x := ⟨_, rfl⟩
  have lw : ws.length ≤ 206 := by rw [← hW]; have := wR_len ⟨n, st, part, hp, lg, pic, ht, tl, hi, ti, sy, hk, ky⟩ rs; omega
  have P1 := fun (W : World) (v : Value) (hs : Sl W v (bv rs)) => vPut_any hok hs (by omega)
  have P2 := fun (W : World) (v : Value) (hs : Sl W v (bv rs)) => r5Put_any hok hs (by omega)
  have P3 := fun (W : World) => r5Put_any (w := W) (rs := []) hok (Sl.nil _) (by decide)
  have P4 := fun (W : World) => vRight_any W ⟨n, st, part, hp, lg, pic, ht, tl, hi, ti, sy, hk, ky⟩ hok
  have P5 := fun (W : World) => r5Right_any W ⟨n, st, part, hp, lg, pic, ht, tl, hi, ti, sy, hk, ky⟩
  have P6 := fun (W : World) => vLen_any W ⟨n, st, part, hp, lg, pic, ht, tl, hi, ti, sy, hk, ky⟩ hok
  have P7 := fun (W : World) (v : Value) (hs : Sl W v (bv rs)) => vKey_any (d := ⟨n, st, part, hp, lg, pic, ht, tl, hi, ti, sy, hk, ky⟩) hs hb (by omega)
  have P8 := fun (W : World) (v : Value) (hs : Sl W v (bv rs)) => r5Key_any (d := ⟨n, st, part, hp, lg, pic, ht, tl, hi, ti, sy, hk, ky⟩) hs hb (by omega)
  have P9 := fun (W : World) => vAnew_lit W n st hp lg ht hi sy hk part pic tl ti ky pic' tl' ti' r1 r2 sy' h1 h3 e1 e2
  have P10 := fun (W : World) => r5Anew_lit W n st hp lg ht hi sy hk part pic tl ti ky pic' tl' ti' r1 r2 sy' h1 h3 e1 e2
  rw [hE, hW] at P1 P2
  rw [hE, hN] at P3
  rw [hr] at P4 P5
  rw [hN] at P6
  rw [hx] at P7 P8
  have H1 := hd P1
  have H2 := hd P2
  have H3 := hd P3
  have H4 := hd P4
  have H5 := hd P5
  have H6 := hd P6
  have H7 := hd P7
  have H8 := hd P8
  have H9 := hd P9
  have H10 := hd P10
  have HKX := hd k0
  have HS := hd hs
  clear P1 P2 P3 P4 P5 P6 P7 P8 P9 P10 hE hW hN hr hx e1 e2 h1 h3 k0 hs hok hb
  go_enter Try.func4, Try.ntmps4
  go_upto_region 1 with (fail)
  rw [← HX0.out]
  go_wp2_with fail
  refine (Own_any SB.out (by omega)).mono ?_
  rintro e x1 ⟨vO, rfl, hO, hK1⟩
  obtain ⟨AO, cO, rfl⟩ := (Sl.of_own hO).form8
  have SO := hd (Sl.of_own hO)
  replace bD := bD.kp hK1 trivial
  replace SB := hd (SB.out.all hK1)
  replace HKX := hd (HKX.out.trans hK1)
  have cD := bD.cell
  clear hO hK1
  go_wp2_with fail
  refine (l5ref_lit _ n st hp lg ht hi sy hk part pic tl ti ky).mono ?_
  rintro e x2 ⟨rfl, hK1⟩
  replace bD := bD.kp hK1 trivial
  replace SB := hd (SB.out.all hK1)
  replace SO := hd (SO.out.all hK1)
  replace HKX := hd (HKX.out.trans hK1)
  clear hK1 cD
  go_wp2_with fail
  refine (H2.out _ _ SO.out).mono ?_
  rintro e y0 ⟨vW, rfl, hW, hK1⟩
  obtain ⟨AW, cW, rfl⟩ := (Sl.of_own hW).form8
  have SW := hd (Sl.of_own hW)
  replace bD := bD.kp hK1 trivial
  replace SB := hd (SB.out.all hK1)
  replace SO := hd (SO.out.all hK1)
  replace HKX := hd (HKX.out.trans hK1)
  clear hK1 hW
  go_wp2_with fail
  refine wp_loop_rounds 3 ?_
  rw [rounds_succ]
  have cD := bD.cell
  go_wp2_with fail
  refine (H1.out _ _ SB.out).mono ?_
  rintro e z1 ⟨vR, rfl, hR1, hK1⟩
  obtain ⟨AR, cR, rfl⟩ := (Sl.of_own hR1).form8
  clear cD
  go_wp2_with fail
  refine (same_any (a := ws) (Sl.of_own hR1) (SW.out.all hK1) (by omega)).mono ?_
  rintro e z2 ⟨rfl, hK2⟩
  have hR3 := own_kp hR1 hK2 (fun _ _ _ => trivial)
  go_wp2_with fail
  refine (Spoil_any hR3 (by omega)).mono ?_
  rintro e y1 ⟨rfl, hKs⟩
  have kl : Kp (fun _ => True) y0 y1 := (((hK1.trans hK2).mono (G := (· < y0.heap.size)) (fun _ _ _ => trivial)).next hKs (fun k hk _ e => by have := (hR3.lt _ e.symm).1; omega)).all
  replace SB := hd (SB.out.all kl)
  replace SW := hd (SW.out.all kl)
  replace SO := hd (SO.out.all kl)
  replace bD := bD.kp kl trivial
  replace HKX := hd (HKX.out.trans kl)
  clear hR1 hK1 hK2 hR3 hKs kl
  go_wp2
  rw [rounds_succ]
  have cD := bD.cell
  go_wp2_with fail
  refine (H1.out _ _ SB.out).mono ?_
  rintro e z1 ⟨vR, rfl, hR1, hK1⟩
  obtain ⟨AR, cR, rfl⟩ := (Sl.of_own hR1).form8
  clear cD
  go_wp2_with fail
  refine (same_any (a := ws) (Sl.of_own hR1) (SW.out.all hK1) (by omega)).mono ?_
  rintro e z2 ⟨rfl, hK2⟩
  have hR3 := own_kp hR1 hK2 (fun _ _ _ => trivial)
  go_wp2_with fail
  refine (Spoil_any hR3 (by omega)).mono ?_
  rintro e y2 ⟨rfl, hKs⟩
  have kl : Kp (fun _ => True) y1 y2 := (((hK1.trans hK2).mono (G := (· < y1.heap.size)) (fun _ _ _ => trivial)).next hKs (fun k hk _ e => by have := (hR3.lt _ e.symm).1; omega)).all
  replace SB := hd (SB.out.all kl)
  replace SW := hd (SW.out.all kl)
  replace SO := hd (SO.out.all kl)
  replace bD := bD.kp kl trivial
  replace HKX := hd (HKX.out.trans kl)
  clear hR1 hK1 hK2 hR3 hKs kl
  go_wp2
  clear SW
  rw [rounds_succ]
  have cD := bD.cell
  go_wp2_with fail
  refine (l5ref_lit _ n st hp lg ht hi sy hk part pic tl ti ky).mono ?_
  rintro e x3 ⟨rfl, hK1⟩
  clear cD
  replace SB := hd (SB.out.all hK1)
  replace SO := hd (SO.out.all hK1)
  replace bD := bD.kp hK1 trivial
  replace HKX := hd (HKX.out.trans hK1)
  clear hK1
  go_wp2_with fail
  refine (H3.out _).mono ?_
  rintro e x4 ⟨vN, rfl, hN, hK1⟩
  obtain ⟨AN, cN, rfl⟩ := (Sl.of_own hN).form8
  replace SB := hd (SB.out.all hK1)
  replace SO := hd (SO.out.all hK1)
  replace bD := bD.kp hK1 trivial
  replace HKX := hd (HKX.out.trans hK1)
  clear hK1 hN
  have cD := bD.cell
  go_wp2_with fail
  refine (H9.out _).mono ?_
  rintro e x5 ⟨rfl, hK1⟩
  clear cD
  replace SB := hd (SB.out.all hK1)
  replace SO := hd (SO.out.all hK1)
  replace bD := bD.kp hK1 trivial
  replace HKX := hd (HKX.out.trans hK1)
  clear hK1
  obtain ⟨x6, hx6⟩ : ∃ x6, x6 = x5.alloc (.cells #[.bool n, .bool st, .int .u8 (part : Int), .bool true, .bool true, .int .u16 (r1 : Int), .bool true, .int .u8 (tl' : Int), .bool true, .int .u8 (r2 : Int), .bool sy', .bool hk, .int .u8 (ky : Int)] 31) := ⟨_, rfl⟩
  have HX6 := hd hx6
  have hK1 : Kp (fun _ => True) x5 x6 := by rw [hx6]; exact (Kp.refl _ _).alloc _
  have bA : Blk x6 x5.heap.size 31 #[.bool n, .bool st, .int .u8 (part : Int), .bool true, .bool true, .int .u16 (r1 : Int), .bool true, .int .u8 (tl' : Int), .bool true, .int .u8 (r2 : Int), .bool sy', .bool hk, .int .u8 (ky : Int)] := by rw [hx6]; exact Blk.new _ _ _
  replace SB := hd (SB.out.all hK1)
  replace SO := hd (SO.out.all hK1)
  replace bD := bD.kp hK1 trivial
  replace HKX := hd (HKX.out.trans hK1)
  clear hK1 hx6
  go_upto_region 14 with (fail)
  rw [← HX6.out]
  go_cut [12] (fun v12 wc => v12 = .bool true ∧ Kp (fun _ => True) x6 wc)
  case first =>
    have s0 : (∀ j, x6.drew.cell? ⟨w.heap.size, j, none⟩ = #[.bool n, .bool st, .int .u8 (part : Int), .bool hp, .bool lg, .int .u16 (pic : Int), .bool ht, .int .u8 (tl : Int), .bool hi, .int .u8 (ti : Int), .bool sy, .bool hk, .int .u8 (ky : Int)][j]?) ∧ (∀ j, x6.drew.cell? ⟨x5.heap.size, j, none⟩ = #[.bool n, .bool st, .int .u8 (part : Int), .bool true, .bool true, .int .u16 (r1 : Int), .bool true, .int .u8 (tl' : Int), .bool true, .int .u8 (r2 : Int), .bool sy', .bool hk, .int .u8 (ky : Int)][j]?) := ⟨bD.drew.cell, bA.drew.cell⟩
    go_region_held3 (fun W => (∀ j, W.cell? ⟨w.heap.size, j, none⟩ = #[.bool n, .bool st, .int .u8 (part : Int), .bool hp, .bool lg, .int .u16 (pic : Int), .bool ht, .int .u8 (tl : Int), .bool hi, .int .u8 (ti : Int), .bool sy, .bool hk, .int .u8 (ky : Int)][j]?) ∧ (∀ j, W.cell? ⟨x5.heap.size, j, none⟩ = #[.bool n, .bool st, .int .u8 (part : Int), .bool true, .bool true, .int .u16 (r1 : Int), .bool true, .int .u8 (tl' : Int), .bool true, .int .u8 (r2 : Int), .bool sy', .bool hk, .int .u8 (ky : Int)][j]?))
      (first | with_reducible exact s0 | with_reducible exact s1 | with_reducible exact s2 | with_reducible exact s3 | with_reducible exact s4 | with_reducible exact s5 | with_reducible exact s6 | with_reducible exact s7 | with_reducible exact s8 | with_reducible exact s9 | with_reducible exact s10 | with_reducible exact s11 | with_reducible exact s12)
      (first
        | (go_at_call 24; refine (H4.out _).mono ?_; (rintro e z1 ⟨rfl, t1⟩); have q1 := kpd t1; have s1 : (∀ j, z1.cell? ⟨w.heap.size, j, none⟩ = #[.bool n, .bool st, .int .u8 (part : Int), .bool hp, .bool lg, .int .u16 (pic : Int), .bool ht, .int .u8 (tl : Int), .bool hi, .int .u8 (ti : Int), .bool sy, .bool hk, .int .u8 (ky : Int)][j]?) ∧ (∀ j, z1.cell? ⟨x5.heap.size, j, none⟩ = #[.bool n, .bool st, .int .u8 (part : Int), .bool true, .bool true, .int .u16 (r1 : Int), .bool true, .int .u8 (tl' : Int), .bool true, .int .u8 (r2 : Int), .bool sy', .bool hk, .int .u8 (ky : Int)][j]?) := ⟨(bD.kp q1 trivial).cell, (bA.kp q1 trivial).cell⟩)
        | (go_at_call_of 16 (Value.int IntKind.u16 (pic : Int)); refine (l5ref_lit _ n st hp lg ht hi sy hk part pic tl ti ky).mono ?_; (rintro e z2 ⟨rfl, t2⟩); have q2 := q1.trans t2; have s2 : (∀ j, z2.cell? ⟨w.heap.size, j, none⟩ = #[.bool n, .bool st, .int .u8 (part : Int), .bool hp, .bool lg, .int .u16 (pic : Int), .bool ht, .int .u8 (tl : Int), .bool hi, .int .u8 (ti : Int), .bool sy, .bool hk, .int .u8 (ky : Int)][j]?) ∧ (∀ j, z2.cell? ⟨x5.heap.size, j, none⟩ = #[.bool n, .bool st, .int .u8 (part : Int), .bool true, .bool true, .int .u16 (r1 : Int), .bool true, .int .u8 (tl' : Int), .bool true, .int .u8 (r2 : Int), .bool sy', .bool hk, .int .u8 (ky : Int)][j]?) := ⟨(bD.kp q2 trivial).cell, (bA.kp q2 trivial).cell⟩)
        | (go_at_call 25; refine (H5.out _).mono ?_; (rintro e z3 ⟨rfl, t3⟩); have q3 := q2.trans t3; have s3 : (∀ j, z3.cell? ⟨w.heap.size, j, none⟩ = #[.bool n, .bool st, .int .u8 (part : Int), .bool hp, .bool lg, .int .u16 (pic : Int), .bool ht, .int .u8 (tl : Int), .bool hi, .int .u8 (ti : Int), .bool sy, .bool hk, .int .u8 (ky : Int)][j]?) ∧ (∀ j, z3.cell? ⟨x5.heap.size, j, none⟩ = #[.bool n, .bool st, .int .u8 (part : Int), .bool true, .bool true, .int .u16 (r1 : Int), .bool true, .int .u8 (tl' : Int), .bool true, .int .u8 (r2 : Int), .bool sy', .bool hk, .int .u8 (ky : Int)][j]?) := ⟨(bD.kp q3 trivial).cell, (bA.kp q3 trivial).cell⟩)
        | (go_at_call 26; refine (H6.out _).mono ?_; (rintro e z4 ⟨rfl, t4⟩); have q4 := q3.trans t4; have s4 : (∀ j, z4.cell? ⟨w.heap.size, j, none⟩ = #[.bool n, .bool st, .int .u8 (part : Int), .bool hp, .bool lg, .int .u16 (pic : Int), .bool ht, .int .u8 (tl : Int), .bool hi, .int .u8 (ti : Int), .bool sy, .bool hk, .int .u8 (ky : Int)][j]?) ∧ (∀ j, z4.cell? ⟨x5.heap.size, j, none⟩ = #[.bool n, .bool st, .int .u8 (part : Int), .bool true, .bool true, .int .u16 (r1 : Int), .bool true, .int .u8 (tl' : Int), .bool true, .int .u8 (r2 : Int), .bool sy', .bool hk, .int .u8 (ky : Int)][j]?) := ⟨(bD.kp q4 trivial).cell, (bA.kp q4 trivial).cell⟩)
        | (go_at_call 18; refine (H7.out _ _ (SB.out.all q4)).mono ?_; (rintro e z5 ⟨rfl, t5⟩); have q5 := q4.trans t5; have s5 : (∀ j, z5.cell? ⟨w.heap.size, j, none⟩ = #[.bool n, .bool st, .int .u8 (part : Int), .bool hp, .bool lg, .int .u16 (pic : Int), .bool ht, .int .u8 (tl : Int), .bool hi, .int .u8 (ti : Int), .bool sy, .bool hk, .int .u8 (ky : Int)][j]?) ∧ (∀ j, z5.cell? ⟨x5.heap.size, j, none⟩ = #[.bool n, .bool st, .int .u8 (part : Int), .bool true, .bool true, .int .u16 (r1 : Int), .bool true, .int .u8 (tl' : Int), .bool true, .int .u8 (r2 : Int), .bool sy', .bool hk, .int .u8 (ky : Int)][j]?) := ⟨(bD.kp q5 trivial).cell, (bA.kp q5 trivial).cell⟩)
        | (go_at_call_of 16 (Value.int IntKind.u16 (pic : Int)); refine (l5ref_lit _ n st hp lg ht hi sy hk part pic tl ti ky).mono ?_; (rintro e z6 ⟨rfl, t6⟩); have q6 := q5.trans t6; have s6 : (∀ j, z6.cell? ⟨w.heap.size, j, none⟩ = #[.bool n, .bool st, .int .u8 (part : Int), .bool hp, .bool lg, .int .u16 (pic : Int), .bool ht, .int .u8 (tl : Int), .bool hi, .int .u8 (ti : Int), .bool sy, .bool hk, .int .u8 (ky : Int)][j]?) ∧ (∀ j, z6.cell? ⟨x5.heap.size, j, none⟩ = #[.bool n, .bool st, .int .u8 (part : Int), .bool true, .bool true, .int .u16 (r1 : Int), .bool true, .int .u8 (tl' : Int), .bool true, .int .u8 (r2 : Int), .bool sy', .bool hk, .int .u8 (ky : Int)][j]?) := ⟨(bD.kp q6 trivial).cell, (bA.kp q6 trivial).cell⟩)
        | (go_at_call 19; refine (H8.out _ _ (SO.out.all q6)).mono ?_; (rintro e z7 ⟨rfl, t7⟩); have q7 := q6.trans t7; have s7 : (∀ j, z7.cell? ⟨w.heap.size, j, none⟩ = #[.bool n, .bool st, .int .u8 (part : Int), .bool hp, .bool lg, .int .u16 (pic : Int), .bool ht, .int .u8 (tl : Int), .bool hi, .int .u8 (ti : Int), .bool sy, .bool hk, .int .u8 (ky : Int)][j]?) ∧ (∀ j, z7.cell? ⟨x5.heap.size, j, none⟩ = #[.bool n, .bool st, .int .u8 (part : Int), .bool true, .bool true, .int .u16 (r1 : Int), .bool true, .int .u8 (tl' : Int), .bool true, .int .u8 (r2 : Int), .bool sy', .bool hk, .int .u8 (ky : Int)][j]?) := ⟨(bD.kp q7 trivial).cell, (bA.kp q7 trivial).cell⟩)
        | (go_at_call_of 16 (Value.int IntKind.u16 (r1 : Int)); refine (l5ref_lit _ n st true true true true sy' hk part r1 tl' r2 ky).mono ?_; (rintro e z8 ⟨rfl, t8⟩); have q8 := q7.trans t8; have s8 : (∀ j, z8.cell? ⟨w.heap.size, j, none⟩ = #[.bool n, .bool st, .int .u8 (part : Int), .bool hp, .bool lg, .int .u16 (pic : Int), .bool ht, .int .u8 (tl : Int), .bool hi, .int .u8 (ti : Int), .bool sy, .bool hk, .int .u8 (ky : Int)][j]?) ∧ (∀ j, z8.cell? ⟨x5.heap.size, j, none⟩ = #[.bool n, .bool st, .int .u8 (part : Int), .bool true, .bool true, .int .u16 (r1 : Int), .bool true, .int .u8 (tl' : Int), .bool true, .int .u8 (r2 : Int), .bool sy', .bool hk, .int .u8 (ky : Int)][j]?) := ⟨(bD.kp q8 trivial).cell, (bA.kp q8 trivial).cell⟩)
        | (go_at_call_of 16 (Value.int IntKind.u16 (pic : Int)); refine (l5ref_lit _ n st hp lg ht hi sy hk part pic tl ti ky).mono ?_; (rintro e z9 ⟨rfl, t9⟩); have q9 := q8.trans t9; have s9 : (∀ j, z9.cell? ⟨w.heap.size, j, none⟩ = #[.bool n, .bool st, .int .u8 (part : Int), .bool hp, .bool lg, .int .u16 (pic : Int), .bool ht, .int .u8 (tl : Int), .bool hi, .int .u8 (ti : Int), .bool sy, .bool hk, .int .u8 (ky : Int)][j]?) ∧ (∀ j, z9.cell? ⟨x5.heap.size, j, none⟩ = #[.bool n, .bool st, .int .u8 (part : Int), .bool true, .bool true, .int .u16 (r1 : Int), .bool true, .int .u8 (tl' : Int), .bool true, .int .u8 (r2 : Int), .bool sy', .bool hk, .int .u8 (ky : Int)][j]?) := ⟨(bD.kp q9 trivial).cell, (bA.kp q9 trivial).cell⟩)
        | (go_at_call 27; refine (H10.out _).mono ?_; (rintro e z10 ⟨rfl, t10⟩); have q10 := q9.trans t10; have s10 : (∀ j, z10.cell? ⟨w.heap.size, j, none⟩ = #[.bool n, .bool st, .int .u8 (part : Int), .bool hp, .bool lg, .int .u16 (pic : Int), .bool ht, .int .u8 (tl : Int), .bool hi, .int .u8 (ti : Int), .bool sy, .bool hk, .int .u8 (ky : Int)][j]?) ∧ (∀ j, z10.cell? ⟨x5.heap.size, j, none⟩ = #[.bool n, .bool st, .int .u8 (part : Int), .bool true, .bool true, .int .u16 (r1 : Int), .bool true, .int .u8 (tl' : Int), .bool true, .int .u8 (r2 : Int), .bool sy', .bool hk, .int .u8 (ky : Int)][j]?) := ⟨(bD.kp q10 trivial).cell, (bA.kp q10 trivial).cell⟩)
        | (go_at_call 17; refine (same_any (a := rs) (SB.out.all q10) (SO.out.all q10) (by omega)).mono ?_; (rintro e z11 ⟨rfl, t11⟩); have q11 := q10.trans t11; have s11 : (∀ j, z11.cell? ⟨w.heap.size, j, none⟩ = #[.bool n, .bool st, .int .u8 (part : Int), .bool hp, .bool lg, .int .u16 (pic : Int), .bool ht, .int .u8 (tl : Int), .bool hi, .int .u8 (ti : Int), .bool sy, .bool hk, .int .u8 (ky : Int)][j]?) ∧ (∀ j, z11.cell? ⟨x5.heap.size, j, none⟩ = #[.bool n, .bool st, .int .u8 (part : Int), .bool true, .bool true, .int .u16 (r1 : Int), .bool true, .int .u8 (tl' : Int), .bool true, .int .u8 (r2 : Int), .bool sy', .bool hk, .int .u8 (ky : Int)][j]?) := ⟨(bD.kp q11 trivial).cell, (bA.kp q11 trivial).cell⟩)
        | (go_at_call 12; refine (works5 _).mono ?_; (rintro e z12 ⟨rfl, t12⟩); have q12 := q11.trans t12; have s12 : (∀ j, z12.cell? ⟨w.heap.size, j, none⟩ = #[.bool n, .bool st, .int .u8 (part : Int), .bool hp, .bool lg, .int .u16 (pic : Int), .bool ht, .int .u8 (tl : Int), .bool hi, .int .u8 (ti : Int), .bool sy, .bool hk, .int .u8 (ky : Int)][j]?) ∧ (∀ j, z12.cell? ⟨x5.heap.size, j, none⟩ = #[.bool n, .bool st, .int .u8 (part : Int), .bool true, .bool true, .int .u16 (r1 : Int), .bool true, .int .u8 (tl' : Int), .bool true, .int .u8 (r2 : Int), .bool sy', .bool hk, .int .u8 (ky : Int)][j]?) := ⟨(bD.kp q12 trivial).cell, (bA.kp q12 trivial).cell⟩))
    all_goals (go_wp2_with fail; go_meet; exact ⟨rfl, q12⟩)
  case rest =>
  obtain ⟨rfl, hKc⟩ := hcut
  go_wp2_with fail
  go_ret
  exact ⟨rfl, HKX.out.trans hKc⟩
end Go.Proofs.Ythgjhdcifdfhoaa.V5

namespace Go.Proofs.Ythgjhdcifdfhoaa.K5
open Go.RowKit Go.Proofs.Ythgjhdcifdfhoaa Go.Proofs.Ythgjhdcifdfhoaa.V5 Go.Proofs.YthgjhdcifdfhoaaW.PrintWords
set_option linter.unusedVariables false

def OkD (a2 a5 a7 a9 a12 : Int) : Prop := (0 ≤ a2 ∧ a2 < 256) ∧ (0 ≤ a5 ∧ a5 < 65536) ∧ (0 ≤ a7 ∧ a7 < 256) ∧ (0 ≤ a9 ∧ a9 < 256) ∧ (0 ≤ a12 ∧ a12 < 256)
instance (a2 a5 a7 a9 a12 : Int) : Decidable (OkD a2 a5 a7 a9 a12) := by unfold OkD; exact inferInstance
def OkP (p t i : Int) : Prop := (0 ≤ p ∧ p < 65536) ∧ (0 ≤ t ∧ t < 256) ∧ (0 ≤ i ∧ i < 256)
instance (p t i : Int) : Decidable (OkP p t i) := by unfold OkP; exact inferInstance
def easellaw05_Vp8Puts.f (k : Nat) (a0 a1 : Bool) (a2 : Int) (a3 a4 : Bool) (a5 : Int) (a6 : Bool) (a7 : Int) (a8 : Bool) (a9 : Int) (a10 a11 : Bool) (a12 : Int) (l1 : List Int) (p t i : Int) (s : Bool) : Option Bool :=
  if OkD a2 a5 a7 a9 a12 ∧ Oks l1 ∧ OkP p t i then some true else none
theorem easellaw05_Vp8Puts.calls (k : Nat) (a0 a1 : Bool) (a2 : Int) (a3 a4 : Bool) (a5 : Int) (a6 : Bool) (a7 : Int) (a8 : Bool) (a9 : Int) (a10 a11 : Bool) (a12 : Int) (A1 : Option Addr) (c1 : Nat) (l1 : List Int) (p t i : Int) (s : Bool) (r : Bool) (w : World)
    (hC : Kd.C (Kd.int .u8) w A1 l1.length l1) (hc : l1.length ≤ c1) (h : easellaw05_Vp8Puts.f k a0 a1 a2 a3 a4 a5 a6 a7 a8 a9 a10 a11 a12 l1 p t i s = some r) :
    Calls Try.prog 4 #[.agg #[.bool a0, .bool a1, .int .u8 a2, .bool a3, .bool a4, .int .u16 a5, .bool a6, .int .u8 a7, .bool a8, .int .u8 a9, .bool a10, .bool a11, .int .u8 a12], .slice A1 l1.length c1, .int .u16 p, .int .u8 t, .int .u8 i, .bool s] w fun e w' => e = .returned (.bool r) ∧ Below w.heap.size w w' := by
  unfold easellaw05_Vp8Puts.f at h
  split at h
  · rename_i hh
    injection h with h
    subst h
    obtain ⟨⟨x2, x5, x7, x9, x12⟩, ho, yp, yt, yi⟩ := hh
    obtain ⟨n2, rfl⟩ := Int.eq_ofNat_of_zero_le x2.1
    obtain ⟨n5, rfl⟩ := Int.eq_ofNat_of_zero_le x5.1
    obtain ⟨n7, rfl⟩ := Int.eq_ofNat_of_zero_le x7.1
    obtain ⟨n9, rfl⟩ := Int.eq_ofNat_of_zero_le x9.1
    obtain ⟨n12, rfl⟩ := Int.eq_ofNat_of_zero_le x12.1
    obtain ⟨np, rfl⟩ := Int.eq_ofNat_of_zero_le yp.1
    obtain ⟨nt, rfl⟩ := Int.eq_ofNat_of_zero_le yt.1
    obtain ⟨ni, rfl⟩ := Int.eq_ofNat_of_zero_le yi.1
    have hs := sl_of_C hC hc ho
    refine (Puts_any a0 a1 a3 a4 a6 a8 a10 a11 n2 n5 n7 n9 n12 ⟨by show n2 < 256; omega, by show n5 < 65536; omega, by show n7 < 256; omega, by show n9 < 256; omega, by show n12 < 256; omega⟩ hs (nb_bts ho) (by rw [nb_length]; have := hC.2.1; unfold maxLen; omega) np nt ni s (by omega) (by omega)).mono ?_
    rintro e w' ⟨rfl, hK⟩
    exact ⟨rfl, hK.below⟩
  · cases h
end Go.Proofs.Ythgjhdcifdfhoaa.K5
