/- Chapter 03: the short calls. -/
import Derived.Test.YtoonnlphfanmhaaExtD
import Derived.Test.YtoonnlphfanmhaaExtE
namespace Go.Proofs.Ytoonnlphfanmhaa
open Go.RowKit

theorem extParse_lit (w : World) (p : Nat) (px : Int) (hpx : px = p) (hp : p < 65536) (bs : List Nat) (n : Nat) (hn : n = bs.length) (E : List (Nat × List Nat)) (m : Nat) (hm : m = E.length) (err : Nat) (x : Int)
    (hX : extP p bs = (E, err)) (hx : (err : Int) = x) (hb : Bts bs) (hl : bs.length ≤ 1000) (cells : Array Value) (hc : cells = (bv bs).toArray) :
    Calls Try.prog 36 #[.int .u16 px, .slice (some ⟨w.heap.size, 0, none⟩) n n] (w.alloc (.cells cells 5)) fun e w' => ∃ A c, e = .returned (.tuple #[.slice A m c, .int .i64 x]) ∧ Els w' (.slice A m c) E ∧ Kp (fun _ => True) w w' := by
  subst hpx hn hm hx hc
  have hs : Sl (w.alloc (.cells (bv bs).toArray 5)) (.slice (some ⟨w.heap.size, 0, none⟩) bs.length bs.length) (bv bs) := Sl.lit w 5 (bv bs) bs.length bs.length (by simp [bv_length]) (by simp [bv_length]) (by rw [bv_length]; unfold maxLen; omega)
  refine (extParse_any p hp hs hb (by omega)).mono ?_
  rw [hX]
  rintro e w' ⟨lv, rfl, hE, hK⟩
  have h := hE.els
  obtain ⟨A, c, rfl⟩ := h.form
  exact ⟨A, c, rfl, h, ((Kp.refl _ _).alloc _).trans (hK.mono fun _ _ _ => trivial)⟩

set_option maxHeartbeats 4000000 in
set_option maxRecDepth 100000 in
theorem works03_any (w : World) : Calls Try.prog 33 #[] w fun e w' => e = .returned (.bool true) ∧ Kp (fun _ => True) w w' := by
  go_enter Try.func33, Try.ntmps33
  go_wp2_with fail
  refine (extParse_lit w 48862 _ rfl (by decide) [16, 170, 0, 0] _ rfl [(1, [170])] 1 rfl 0 0 (by decide) rfl (by intro b hb; simp at hb; omega) (by decide) _ rfl).mono ?_
  rintro e w1 ⟨A1, c1, rfl, h1, k1⟩
  go_wp2_with fail
  refine (extParse_lit w1 48862 _ rfl (by decide) [33, 170, 187, 0] _ rfl [(2, [170, 187])] 1 rfl 0 0 (by decide) rfl (by intro b hb; simp at hb; omega) (by decide) _ rfl).mono ?_
  rintro e w2 ⟨A2, c2, rfl, h2, k2⟩
  replace h1 := h1.all k2
  replace k2 := k1.trans k2
  clear k1
  go_wp2_with fail
  refine (extParse_lit w2 4096 _ rfl (by decide) [5, 0, 2, 2, 170, 187, 0, 0] _ rfl [(5, []), (2, [170, 187])] 2 rfl 0 0 (by decide) rfl (by intro b hb; simp at hb; omega) (by decide) _ rfl).mono ?_
  rintro e w3 ⟨A3, c3, rfl, h3, k3⟩
  replace h1 := h1.all k3
  replace h2 := h2.all k3
  replace k3 := k2.trans k3
  clear k2
  go_wp2_with fail
  refine (extParse_lit w3 48862 _ rfl (by decide) [240, 18, 52, 86] _ rfl [] 0 rfl 0 0 (by decide) rfl (by intro b hb; simp at hb; omega) (by decide) _ rfl).mono ?_
  rintro e w4 ⟨A4, c4, rfl, h4, k4⟩
  replace h1 := h1.all k4
  replace h2 := h2.all k4
  replace h3 := h3.all k4
  replace k4 := k3.trans k4
  clear k3 h4
  go_wp2_with fail
  refine (extParse_lit w4 48862 _ rfl (by decide) [0, 0, 0, 19] _ rfl [] 0 rfl 10 10 (by decide) rfl (by intro b hb; simp at hb; omega) (by decide) _ rfl).mono ?_
  rintro e w5 ⟨A5, c5, rfl, h5, k5⟩
  replace h1 := h1.all k5
  replace h2 := h2.all k5
  replace h3 := h3.all k5
  replace k5 := k4.trans k5
  clear k4 h5
  obtain ⟨g1, o1, B1, d1, rfl, _, a1, b1, _⟩ := h1.at_ 0 (by decide)
  obtain ⟨g2, o2, B2, d2, rfl, _, a2, b2, _⟩ := h2.at_ 0 (by decide)
  obtain ⟨g3, o3, B3, d3, h33, _, a3, b3, _⟩ := h3.at_ 0 (by decide)
  obtain ⟨g4, o4, B4, d4, h34, _, a4, b4, s4, _⟩ := h3.at_ 1 (by decide)
  subst h33
  injection h34 with h34
  injection h34 with h34 h35
  subst h34 h35
  simp only [Nat.zero_mul, Nat.one_mul, Nat.add_zero, List.getElem_cons_zero, List.getElem_cons_succ, List.length_cons, List.length_nil, Nat.zero_add] at a1 b1 a2 b2 a3 b3 a4 b4 s4
  clear h1 h2 h3
  go_wp2_with fail
  refine (SameBytes_is (a := [170, 187]) (b := [170, 187]) (s4.alloc _) (Sl.lit w5 5 (bv [170, 187]) 2 2 rfl rfl (by simp [bv, maxLen])) (by decide) true rfl).mono ?_
  rintro e w6 ⟨rfl, n6, rfl⟩
  go_wp2
  go_ret
  exact ⟨rfl, (k5.alloc _).drewN _⟩
end Go.Proofs.Ytoonnlphfanmhaa
