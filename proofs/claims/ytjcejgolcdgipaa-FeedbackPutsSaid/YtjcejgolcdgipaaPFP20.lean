/- Texts of this session, one behind the other, what the row does not use left out: walks and laws over plain data. -/
import Derived.Test.YtjcejgolcdgipaaPFP18
import Derived.Test.YtjcejgolcdgipaaPFP13
import Derived.Test.YtjcejgolcdgipaaPFP19
import Derived.Test.YtjcejgolcdgipaaPFP12
import Derived.Test.YtjcejgolcdgipaaPFP11

namespace Go.Proofs.Ytjcejgolcdgipaa.K7
open Go.RowKit Go.Proofs.YtjcejgolcdgipaaW.PrintWords Go.Proofs.YtjcejgolcdgipaaW.PrintLast Go.Proofs.YtjcejgolcdgipaaW.PrintMore
set_option linter.unusedVariables false
set_option linter.unusedSimpArgs false

theorem below_alloc1 (w : World) (o : Obj) : Below w.heap.size w (w.alloc o) := (Below.refl _ _).alloc (Nat.le_refl _) _
theorem below_next {w w1 w2 : World} (h : Below w.heap.size w w1) (k : Below w1.heap.size w1 w2) : Below w.heap.size w w2 := h.trans (k.mono h.size)
theorem blk2 (w : World) (o : Obj) (t : TypeId) (cs : Array Value) : Blk ((w.alloc o).alloc (.cells cs t)) (w.heap.size + 1) t cs := by
  have := Blk.new (w.alloc o) t cs
  rw [World.size_alloc] at this
  exact this
theorem C_drew {α : Type} {d : Kd α} {w : World} {A : Option Addr} {n : Nat} {xs : List α} (h : d.C w A n xs) : d.C w.drew A n xs := Kd.C_below h (pw_below_drewN (Below.refl _ _) 1)
theorem C_alloc {α : Type} {d : Kd α} {w : World} {A : Option Addr} {n : Nat} {xs : List α} (o : Obj) (h : d.C w A n xs) : d.C (w.alloc o) A n xs := Kd.C_below h (below_alloc1 _ _)
theorem rtcp_copy (a b : Int) (l : List Int) (c : Int) (hl : l.length ≤ 1000000) : easeldocs_Rtcp.f a b l c = some (a, b, l, c) := by
  unfold easeldocs_Rtcp.f easelkit_Own.f
  rw [if_pos (by rw [List.length_nil]; omega), Option.bind_some, List.nil_append]
section
variable {w : World} {A B : Option Addr} {d e : Nat} (a b : Int) (l : List Int) (c : Int)
set_option maxHeartbeats 2000000 in
set_option maxRecDepth 100000 in
theorem r2bytes_one (h1 : Kd.C (Kd.int .u8) w A l.length l) (h2 : Kd.C (Kd.int .u8) w B l.length l) (hl : l.length ≤ 1000000) :
    Calls Try.prog 96 #[.slice A l.length d, .slice B l.length e] w fun e_ w' => e_ = .returned (.bool true) ∧ Below w.heap.size w w' := by
  have hq : ((l.length : Int) != (l.length : Int)) = false := by simp
  go_enter Try.func96, Try.ntmps96
  go_wp2
  go_loopw [5] (fun i wr => ∃ k m : Nat, k ≤ l.length ∧ i = .int .i64 k ∧ wr = w.drewN m) (fun i _ => l.length - (intOf i).toNat)
  case atStart => exact ⟨0, 0, Nat.zero_le _, rfl, rfl⟩
  case round =>
    obtain ⟨k, m, hk, rfl, rfl⟩ := hrel
    by_cases hlt : k < l.length
    · obtain ⟨g, off, rfl, _, c1⟩ := C1_at h1 k _ (List.getElem?_eq_getElem hlt) hlt
      obtain ⟨g', off', rfl, _, c2⟩ := C1_at h2 k _ (List.getElem?_eq_getElem hlt) hlt
      generalize l[k] = x at *
      have hx : ((x : Int) != x) = false := by simp
      go_wp2
      go_quiet (fail)
      go_wp2
      go_roundw
      case rel => exact ⟨k + 1, _, by omega, by go_num, rfl⟩
      case measure => simp [intOf]; omega
    · obtain rfl : k = l.length := by omega
      go_wp2
      go_ret
      exact ⟨rfl, pw_below_drewN (Below.refl _ _) _⟩
set_option maxHeartbeats 2000000 in
set_option maxRecDepth 100000 in
theorem r6same_one (h1 : Kd.C (Kd.int .u8) w A l.length l) (h2 : Kd.C (Kd.int .u8) w B l.length l) (hl : l.length ≤ 1000000) :
    Calls Try.prog 72 #[.agg #[.int .u8 a, .int .u8 b, .slice A l.length d, .int .u8 c], .agg #[.int .u8 a, .int .u8 b, .slice B l.length e, .int .u8 c]] w fun e_ w' => e_ = .returned (.bool true) ∧ Below w.heap.size w w' := by
  obtain ⟨w0, hw0⟩ : ∃ w0, w0 = (w.alloc (.cells #[.int .u8 a, .int .u8 b, .slice A l.length d, .int .u8 c] 41)).alloc (.cells #[.int .u8 a, .int .u8 b, .slice B l.length e, .int .u8 c] 41) := ⟨_, rfl⟩
  have hB0 : Below w.heap.size w w0 := hw0 ▸ ((Below.refl _ _).alloc (Nat.le_refl _) _).alloc (by simp) _
  have bA : Blk w0 w.heap.size 41 #[.int .u8 a, .int .u8 b, .slice A l.length d, .int .u8 c] := hw0 ▸ (Blk.new w _ _).alloc _
  have bB : Blk w0 (w.heap.size + 1) 41 #[.int .u8 a, .int .u8 b, .slice B l.length e, .int .u8 c] := hw0 ▸ blk2 w _ _ _
  have H1 := Kd.C_below h1 hB0
  have H2 := Kd.C_below h2 hB0
  have cA := bA.cell
  have cB := bB.cell
  clear h1 h2
  have ea : ((a : Int) == a) = true := by simp
  have eb : ((b : Int) == b) = true := by simp
  have ec : ((c : Int) == c) = true := by simp
  have HB := hd hB0
  clear hB0
  go_enter Try.func72, Try.ntmps72
  go_upto_region 1 with (fail)
  rw [← hw0]
  clear hw0
  go_wp2_with fail
  refine (r2bytes_one l H1 H2 hl).mono ?_
  rintro e_ w1 ⟨rfl, hB1⟩
  go_wp2
  go_ret
  exact ⟨rfl, below_next HB.out hB1⟩
set_option maxHeartbeats 8000000 in
set_option maxRecDepth 100000 in
theorem rtcps_one {p q c0 c1 : Nat} (bP : Blk w p 40 #[.int .u8 a, .int .u8 b, .slice A l.length d, .int .u8 c]) (bR : Blk w q 41 #[.int .u8 a, .int .u8 b, .slice B l.length e, .int .u8 c]) (hd_ : l.length ≤ d) (h1 : Kd.C (Kd.int .u8) w A l.length l) (h2 : Kd.C (Kd.int .u8) w B l.length l) (hl : l.length ≤ 1000000) :
    Calls Try.prog 31 #[.slice (some ⟨p, 0, none⟩) 1 c0, .slice (some ⟨q, 0, none⟩) 1 c1] w fun e_ w' => e_ = .returned (.bool true) ∧ Below w.heap.size w w' := by
  have HP := hd h1
  have HR := hd h2
  have HCp := hd (rtcp_copy a b l c hl)
  clear h1 h2
  go_enter Try.func31, Try.ntmps31
  go_wp2
  go_loopw [5] (fun iv wr => ∃ j : Nat, j ≤ 1 ∧ iv = .int .i64 j ∧ Below w.heap.size w wr) (fun iv _ => 1 - (intOf iv).toNat)
  case atStart => exact ⟨0, by omega, rfl, Below.refl _ _⟩
  case round =>
    obtain ⟨j, hj, rfl, hBr⟩ := hrel
    rcases (by omega : j = 0 ∨ j = 1) with rfl | rfl
    · replace HP := hd (Kd.C_below HP.out hBr)
      replace HR := hd (Kd.C_below HR.out hBr)
      replace bP := bP.kp (kp_of_below hBr) trivial
      replace bR := bR.kp (kp_of_below hBr) trivial
      have hD : Below wr.heap.size wr wr.drew := pw_below_drewN (Below.refl _ _) 1
      have sh0 : (∀ j, wr.drew.cell? ⟨p, j, none⟩ = #[.int .u8 a, .int .u8 b, .slice A l.length d, .int .u8 c][j]?) ∧ (∀ j, wr.drew.cell? ⟨q, j, none⟩ = #[.int .u8 a, .int .u8 b, .slice B l.length e, .int .u8 c][j]?) := ⟨bP.drew.cell, bR.drew.cell⟩
      go_wp2_with fail
      go_region_held3 (fun W => (∀ j, W.cell? ⟨p, j, none⟩ = #[.int .u8 a, .int .u8 b, .slice A l.length d, .int .u8 c][j]?) ∧ (∀ j, W.cell? ⟨q, j, none⟩ = #[.int .u8 a, .int .u8 b, .slice B l.length e, .int .u8 c][j]?))
        (first | with_reducible exact sh0 | with_reducible exact sh1 | with_reducible exact sh2)
        (first
          | (go_at_call 23; refine (easeldocs_Rtcp.calls a b _ _ l c a b l c _ (Kd.C_below HP.out hD) hd_ HCp.out).mono ?_; (rintro e_ wh1 ⟨vg, rfl, hG, hh1⟩); obtain ⟨G, g, rfl, hg, hGC⟩ := Kd.R_reads hG; have hcc1 : Below wr.heap.size wr wh1 := below_next hD hh1; have sh1 : (∀ j, wh1.cell? ⟨p, j, none⟩ = #[.int .u8 a, .int .u8 b, .slice A l.length d, .int .u8 c][j]?) ∧ (∀ j, wh1.cell? ⟨q, j, none⟩ = #[.int .u8 a, .int .u8 b, .slice B l.length e, .int .u8 c][j]?) := ⟨(bP.kp (kp_of_below hcc1) trivial).cell, (bR.kp (kp_of_below hcc1) trivial).cell⟩)
          | (go_at_call 72; refine (r6same_one a b l c hGC (Kd.C_below HR.out hcc1) hl).mono ?_; (rintro e_ wh2 ⟨rfl, hh2⟩); have hcc2 : Below wr.heap.size wr wh2 := below_next hcc1 hh2; have sh2 : (∀ j, wh2.cell? ⟨p, j, none⟩ = #[.int .u8 a, .int .u8 b, .slice A l.length d, .int .u8 c][j]?) ∧ (∀ j, wh2.cell? ⟨q, j, none⟩ = #[.int .u8 a, .int .u8 b, .slice B l.length e, .int .u8 c][j]?) := ⟨(bP.kp (kp_of_below hcc2) trivial).cell, (bR.kp (kp_of_below hcc2) trivial).cell⟩))
      go_wp2
      go_roundw
      case rel => exact ⟨1, by omega, by go_num, below_next hBr hcc2⟩
      case measure => simp [intOf]
    · go_wp2
      go_ret
      exact ⟨rfl, hBr⟩
end
end Go.Proofs.Ytjcejgolcdgipaa.K7

namespace Go.Proofs.Ytjcejgolcdgipaa.K7
open Go.RowKit Go.Proofs.YtjcejgolcdgipaaW.PrintWords Go.Proofs.YtjcejgolcdgipaaW.PrintLast Go.Proofs.YtjcejgolcdgipaaW.PrintMore
set_option linter.unusedVariables false

/-- A message's three rows read. -/
structure Ms (w : World) (A3 A4 A7 : Option Addr) (l3 : List S82) (l4 : List S134) (l7 : List Int) (c3 c4 c7 : Nat) : Prop where
  r3 : Kd.C k82 w A3 l3.length l3
  k3 : l3.length ≤ c3
  r4 : Kd.C k134 w A4 l4.length l4
  k4 : l4.length ≤ c4
  r7 : Kd.C (Kd.int .u32) w A7 l7.length l7
  k7 : l7.length ≤ c7
theorem Ms.below {w w' : World} {A3 A4 A7 : Option Addr} {l3 : List S82} {l4 : List S134} {l7 : List Int} {c3 c4 c7 : Nat} (h : Ms w A3 A4 A7 l3 l4 l7 c3 c4 c7) (hb : Below w.heap.size w w') : Ms w' A3 A4 A7 l3 l4 l7 c3 c4 c7 := ⟨Kd.C_below h.r3 hb, h.k3, Kd.C_below h.r4 hb, h.k4, Kd.C_below h.r7 hb, h.k7⟩
end Go.Proofs.Ytjcejgolcdgipaa.K7
