/- Texts of this session, one behind the other, what the row does not use left out: walks and laws over plain data. -/
import Derived.Test.YthgjhdcifdfhoaaPU7

namespace Go.Proofs.Ythgjhdcifdfhoaa.V5
open Go.RowKit Go.Proofs.Ythgjhdcifdfhoaa Go.Proofs.YthgjhdcifdfhoaaW.PrintWords
set_option linter.unusedVariables false
set_option linter.unusedSimpArgs false
attribute [local go_sem high] eqVDesc

theorem vParse_lit (w0 : World) (q : Nat) (hq : q = w0.heap.size) (L : List Nat) (d : VD) (R : List Nat) (E : Int) (hb : ∀ b ∈ L, b < 256) (hl : L.length ≤ 100) (hD : pD L = d) (hR : pR L = R) (hE : pE L = E) (n : Nat) (hn : n = L.length) (cs : Array Value) (hcs : cs = (bv L).toArray) :
    Calls Try.prog 15 #[.slice (some ⟨q, 0, none⟩) n n] (w0.alloc (.cells cs 5)) fun e w' => ∃ A c, e = .returned (.tuple #[.agg (dv d), .slice A R.length c, .int .i64 E]) ∧ Sl w' (.slice A R.length c) (bv R) ∧ Kp (fun _ => True) w0 w' := by
  subst hcs hn hD hR hE hq
  have hs := Sl.lit w0 5 (bv L) (bv L).length (bv L).length rfl rfl (by rw [bv_length]; unfold maxLen; omega)
  rw [bv_length] at hs
  refine (vParse_any hs hb (by omega)).mono ?_
  rintro e w' ⟨v', rfl, hO, hK⟩
  obtain ⟨A, c, rfl⟩ := (Sl.of_own hO).form8
  exact ⟨A, c, rfl, Sl.of_own hO, ((Kp.refl _ _).alloc _).trans hK⟩
theorem vKey_lit {w : World} {v : Value} {d : VD} {rs : List Nat} (hs : Sl w v (bv rs)) (hb : ∀ b ∈ rs, b < 256) (hl : rs.length ≤ 100) (x : Bool) (hx : keyV d rs = x) (cs : Array Value) (hcs : cs = dv d) :
    Calls Try.prog 18 #[.agg cs, v] w fun e w' => e = .returned (.bool x) ∧ Kp (fun _ => True) w w' := by
  subst hx hcs
  exact vKey_any hs hb (by omega)
set_option maxHeartbeats 4000000 in
set_option maxRecDepth 100000 in
theorem works5 (w : World) : Calls Try.prog 12 #[] w fun e w' => e = .returned (.bool true) ∧ Kp (fun _ => True) w w' := by
  go_enter Try.func12, Try.ntmps12
  go_wp2_with fail
  refine (vParse_lit w _ rfl [16, 0] ⟨false, true, 0, false, false, 0, false, 0, false, 0, false, false, 0⟩ [0] 0 (by decide) (by decide) rfl rfl rfl 2 rfl _ rfl).mono ?_
  rintro e w1 ⟨A1, c1, rfl, hs1, hK1⟩
  unfold dv
  go_wp2_with fail
  refine (vParse_lit (w1.alloc _) _ (by simp) [144, 128, 5, 1] ⟨false, true, 0, true, false, 5, false, 0, false, 0, false, false, 0⟩ [1] 0 (by decide) (by decide) rfl rfl rfl 4 rfl _ rfl).mono ?_
  rintro e w2 ⟨A2, c2, rfl, hs2, hK2⟩
  have hBa := (Blk.new w1 31 (dv ⟨false, true, 0, false, false, 0, false, 0, false, 0, false, false, 0⟩)).kp hK2 trivial
  replace hs1 := (hs1.alloc (.cells (dv ⟨false, true, 0, false, false, 0, false, 0, false, 0, false, false, 0⟩) 31)).all hK2
  have hKb := (hK1.alloc (.cells (dv ⟨false, true, 0, false, false, 0, false, 0, false, 0, false, false, 0⟩) 31)).trans hK2
  clear hK1 hK2
  unfold dv
  go_wp2_with fail
  refine (vParse_lit (w2.alloc _) _ (by simp) [176, 240, 129, 35, 7, 96] ⟨true, true, 0, true, true, 291, true, 7, true, 1, true, true, 0⟩ [] 0 (by decide) (by decide) rfl rfl rfl 6 rfl _ rfl).mono ?_
  rintro e w3 ⟨A3, c3, rfl, hs3, hK3⟩
  replace hBa := (hBa.alloc (.cells (dv ⟨false, true, 0, true, false, 5, false, 0, false, 0, false, false, 0⟩) 31)).kp hK3 trivial
  have hBb := (Blk.new w2 31 (dv ⟨false, true, 0, true, false, 5, false, 0, false, 0, false, false, 0⟩)).kp hK3 trivial
  replace hs1 := (hs1.alloc (.cells (dv ⟨false, true, 0, true, false, 5, false, 0, false, 0, false, false, 0⟩) 31)).all hK3
  replace hs2 := (hs2.alloc (.cells (dv ⟨false, true, 0, true, false, 5, false, 0, false, 0, false, false, 0⟩) 31)).all hK3
  have hKc := (hKb.alloc (.cells (dv ⟨false, true, 0, true, false, 5, false, 0, false, 0, false, false, 0⟩) 31)).trans hK3
  clear hKb hK3
  unfold dv
  go_wp2_with fail
  refine (vParse_lit (w3.alloc _) _ (by simp) [128] ⟨false, false, 0, false, false, 0, false, 0, false, 0, false, false, 0⟩ [] 10 (by decide) (by decide) rfl rfl rfl 1 rfl _ rfl).mono ?_
  rintro e w4 ⟨A4, c4, rfl, hs4, hK4⟩
  replace hBa := (hBa.alloc (.cells (dv ⟨true, true, 0, true, true, 291, true, 7, true, 1, true, true, 0⟩) 31)).kp hK4 trivial
  replace hBb := (hBb.alloc (.cells (dv ⟨true, true, 0, true, true, 291, true, 7, true, 1, true, true, 0⟩) 31)).kp hK4 trivial
  have hBc := (Blk.new w3 31 (dv ⟨true, true, 0, true, true, 291, true, 7, true, 1, true, true, 0⟩)).kp hK4 trivial
  replace hs1 := (hs1.alloc (.cells (dv ⟨true, true, 0, true, true, 291, true, 7, true, 1, true, true, 0⟩) 31)).all hK4
  replace hs2 := (hs2.alloc (.cells (dv ⟨true, true, 0, true, true, 291, true, 7, true, 1, true, true, 0⟩) 31)).all hK4
  have hKd := (hKc.alloc (.cells (dv ⟨true, true, 0, true, true, 291, true, 7, true, 1, true, true, 0⟩) 31)).trans hK4
  clear hKc hK4
  unfold dv
  go_wp2_with fail
  refine (vParse_lit (w4.alloc _) _ (by simp) [144, 128, 133] ⟨false, false, 0, false, false, 0, false, 0, false, 0, false, false, 0⟩ [] 10 (by decide) (by decide) rfl rfl rfl 3 rfl _ rfl).mono ?_
  rintro e w5 ⟨A5, c5, rfl, hs5, hK5⟩
  replace hBa := (hBa.alloc (.cells (dv ⟨false, false, 0, false, false, 0, false, 0, false, 0, false, false, 0⟩) 31)).kp hK5 trivial
  replace hBb := (hBb.alloc (.cells (dv ⟨false, false, 0, false, false, 0, false, 0, false, 0, false, false, 0⟩) 31)).kp hK5 trivial
  replace hBc := (hBc.alloc (.cells (dv ⟨false, false, 0, false, false, 0, false, 0, false, 0, false, false, 0⟩) 31)).kp hK5 trivial
  replace hs1 := (hs1.alloc (.cells (dv ⟨false, false, 0, false, false, 0, false, 0, false, 0, false, false, 0⟩) 31)).all hK5
  replace hs2 := (hs2.alloc (.cells (dv ⟨false, false, 0, false, false, 0, false, 0, false, 0, false, false, 0⟩) 31)).all hK5
  have hKe := (hKd.alloc (.cells (dv ⟨false, false, 0, false, false, 0, false, 0, false, 0, false, false, 0⟩) 31)).trans hK5
  clear hKd hK5 hs3 hs4 hs5
  have ca : ∀ o i, (w5.alloc o).cell? ⟨w1.heap.size, i, none⟩ = #[Value.bool false, .bool true, .int .u8 0, .bool false, .bool false, .int .u16 0, .bool false, .int .u8 0, .bool false, .int .u8 0, .bool false, .bool false, .int .u8 0][i]? := fun o i => (hBa.alloc o).cell i
  unfold dv
  go_wp2_with fail
  refine (vKey_lit (d := ⟨false, true, 0, false, false, 0, false, 0, false, 0, false, false, 0⟩) (rs := [0]) (hs1.alloc _) (by decide) (by decide) true rfl _ rfl).mono ?_
  rintro e w6 ⟨rfl, hK6⟩
  have qa := (hBa.alloc (.cells (dv ⟨false, false, 0, false, false, 0, false, 0, false, 0, false, false, 0⟩) 31)).kp hK6 trivial
  have qb := (hBb.alloc (.cells (dv ⟨false, false, 0, false, false, 0, false, 0, false, 0, false, false, 0⟩) 31)).kp hK6 trivial
  have qc := (hBc.alloc (.cells (dv ⟨false, false, 0, false, false, 0, false, 0, false, 0, false, false, 0⟩) 31)).kp hK6 trivial
  have qs2 := (hs2.alloc (.cells (dv ⟨false, false, 0, false, false, 0, false, 0, false, 0, false, false, 0⟩) 31)).all hK6
  have hKf := (hKe.alloc (.cells (dv ⟨false, false, 0, false, false, 0, false, 0, false, 0, false, false, 0⟩) 31)).trans hK6
  clear hBa hBb hBc hs1 hs2 hKe hK6 ca
  have cb : ∀ i, w6.cell? ⟨w2.heap.size, i, none⟩ = #[Value.bool false, .bool true, .int .u8 0, .bool true, .bool false, .int .u16 5, .bool false, .int .u8 0, .bool false, .int .u8 0, .bool false, .bool false, .int .u8 0][i]? := qb.cell
  go_wp2_with fail
  refine (vKey_lit (d := ⟨false, true, 0, true, false, 5, false, 0, false, 0, false, false, 0⟩) (rs := [1]) qs2 (by decide) (by decide) false rfl _ rfl).mono ?_
  rintro e w7 ⟨rfl, hK7⟩
  have ca7 : ∀ i, w7.cell? ⟨w1.heap.size, i, none⟩ = #[Value.bool false, .bool true, .int .u8 0, .bool false, .bool false, .int .u16 0, .bool false, .int .u8 0, .bool false, .int .u8 0, .bool false, .bool false, .int .u8 0][i]? := (qa.kp hK7 trivial).cell
  have cb7 : ∀ i, w7.cell? ⟨w2.heap.size, i, none⟩ = #[Value.bool false, .bool true, .int .u8 0, .bool true, .bool false, .int .u16 5, .bool false, .int .u8 0, .bool false, .int .u8 0, .bool false, .bool false, .int .u8 0][i]? := (qb.kp hK7 trivial).cell
  have cc7 : ∀ i, w7.cell? ⟨w3.heap.size, i, none⟩ = #[Value.bool true, .bool true, .int .u8 0, .bool true, .bool true, .int .u16 291, .bool true, .int .u8 7, .bool true, .int .u8 1, .bool true, .bool true, .int .u8 0][i]? := (qc.kp hK7 trivial).cell
  clear cb
  go_wp2
  go_ret
  exact ⟨rfl, hKf.trans hK7⟩
end Go.Proofs.Ythgjhdcifdfhoaa.V5
