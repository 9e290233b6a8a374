/- Chapter 07: feedback.Parse, for all packets. -/
import Derived.Test.YtjcejgolcdgipaaK7W
namespace Go.Proofs.Ytjcejgolcdgipaa.K7
open Go.RowKit Go.Proofs.YtjcejgolcdgipaaW.PrintWords Go.Proofs.YtjcejgolcdgipaaW.PrintLast Go.Proofs.YtjcejgolcdgipaaW.PrintMore
set_option linter.unusedVariables false

/-- A message, and an error. -/
structure PM where
  sort : Nat
  sd : Nat
  md : Nat
  ps : List (Nat × Nat)
  os : List (Nat × Nat)
  e : Nat
  m : Nat
  ss : List Nat
  err : Nat
def PM.no (err : Nat) : PM := ⟨0, 0, 0, [], [], 0, 0, [], err⟩
/-- What is behind the head, sort by sort. -/
def parse1 (bs : List Nat) : PM := if 8 < bs.length ∧ (bs.length - 8) % 4 = 0 then ⟨1, vl bs 0 32, vl bs 32 32, tPairs bs 64 ((bs.length - 8) / 4), [], 0, 0, [], 0⟩ else PM.no 63
def parse2 (bs : List Nat) : PM := if bs.length = 8 then ⟨2, vl bs 0 32, vl bs 32 32, [], [], 0, 0, [], 0⟩ else PM.no 63
def parse3 (bs : List Nat) : PM := if 8 < bs.length ∧ (bs.length - 8) % 8 = 0 then ⟨3, vl bs 0 32, vl bs 32 32, [], tOrders bs 64 ((bs.length - 8) / 8), 0, 0, [], 0⟩ else PM.no 63
def Rem (bs : List Nat) : Prop := 16 ≤ bs.length ∧ vl bs 64 32 = rembN ∧ bs.length = 16 + 4 * vl bs 96 8
instance (bs : List Nat) : Decidable (Rem bs) := by unfold Rem; exact inferInstance
def parse4 (bs : List Nat) : PM := if Rem bs then ⟨4, vl bs 0 32, vl bs 32 32, [], [], vl bs 104 6, vl bs 110 18, tSrc bs 128 (vl bs 96 8), 0⟩ else PM.no 63
def parseP (kd ct : Nat) (bs : List Nat) : PM :=
  match sortOf kd ct with
  | 1 => parse1 bs
  | 2 => parse2 bs
  | 3 => parse3 bs
  | 4 => parse4 bs
  | _ => PM.no 62
/-- The answer in memory. -/
def PMs (w w' : World) (e : Ending) (P : PM) : Prop :=
  ∃ vp vo vs, e = .returned (.tuple #[.agg #[.int .u8 (P.sort : Int), .int .u32 (P.sd : Int), .int .u32 (P.md : Int), vp, vo, .int .u8 (P.e : Int), .int .u32 (P.m : Int), vs], .int .i64 (P.err : Int)]) ∧
    w'.ownsRow w.heap.size 82 2 vp P.ps.length (pcs P.ps) ∧ w'.ownsRow w.heap.size 134 2 vo P.os.length (ocs P.os) ∧ w'.ownsRow w.heap.size 28 1 vs P.ss.length (scs P.ss) ∧ Kp (fun _ => True) w w'
theorem takeNothing_any (w : World) (p q : Nat) : Calls Try.prog 103 #[.pointer (some ⟨q, 0, none⟩), .pointer (some ⟨p, 0, none⟩)] w fun e_ w' => e_ = .returned (.tuple #[]) ∧ w' = w := by
  go_enter Try.func103, Try.ntmps103
  go_wp2
  go_end0
  exact ⟨rfl, rfl⟩
theorem nPairs_any (w : World) (s sd md e mn : Int) (a4 a7 A : Option Addr) (n4 c4 n7 c7 n c : Nat) :
    Calls Try.prog 101 #[.agg #[.int .u8 s, .int .u32 sd, .int .u32 md, .slice A n c, .slice a4 n4 c4, .int .u8 e, .int .u32 mn, .slice a7 n7 c7]] w fun e_ w' => e_ = .returned (.int .i64 (n : Int)) ∧ Kp (fun _ => True) w w' := by
  go_enter Try.func101, Try.ntmps101
  go_wp2
  go_ret
  exact ⟨rfl, (Kp.refl _ _).alloc _⟩
theorem nOrders_any (w : World) (s sd md e mn : Int) (a4 a7 A : Option Addr) (n4 c4 n7 c7 n c : Nat) :
    Calls Try.prog 107 #[.agg #[.int .u8 s, .int .u32 sd, .int .u32 md, .slice a4 n4 c4, .slice A n c, .int .u8 e, .int .u32 mn, .slice a7 n7 c7]] w fun e_ w' => e_ = .returned (.int .i64 (n : Int)) ∧ Kp (fun _ => True) w w' := by
  go_enter Try.func107, Try.ntmps107
  go_wp2
  go_ret
  exact ⟨rfl, (Kp.refl _ _).alloc _⟩
theorem nOne_any (w : World) (s sd md e mn : Int) (a4 a7 A : Option Addr) (n4 c4 n7 c7 n c : Nat) :
    Calls Try.prog 104 #[.agg #[.int .u8 s, .int .u32 sd, .int .u32 md, .slice A n c, .slice a4 n4 c4, .int .u8 e, .int .u32 mn, .slice a7 n7 c7]] w fun e_ w' => e_ = .returned (.int .i64 1) ∧ Kp (fun _ => True) w w' := by
  go_enter Try.func104, Try.ntmps104
  go_wp2
  go_ret
  exact ⟨rfl, (Kp.refl _ _).alloc _⟩
/-- Eight stores into one block. -/
def st8 (w : World) (g : Nat) (a0 a1 a2 a3 a4 a5 a6 a7 : Value) : World :=
  (((((((w.setCell ⟨g, 0, none⟩ a0).setCell ⟨g, 1, none⟩ a1).setCell ⟨g, 2, none⟩ a2).setCell ⟨g, 3, none⟩ a3).setCell ⟨g, 4, none⟩ a4).setCell ⟨g, 5, none⟩ a5).setCell ⟨g, 6, none⟩ a6).setCell ⟨g, 7, none⟩ a7
theorem st8_kp (w : World) (g : Nat) (a0 a1 a2 a3 a4 a5 a6 a7 : Value) : Kp (· ≠ g) w (st8 w g a0 a1 a2 a3 a4 a5 a6 a7) := by
  unfold st8
  exact (((((((((Kp.refl (· ≠ g) w).set_).set_).set_).set_).set_).set_).set_).set_)
theorem st8_blk {w : World} {g : Nat} {t : TypeId} {b0 b1 b2 b3 b4 b5 b6 b7 : Value} (h : Blk w g t #[b0, b1, b2, b3, b4, b5, b6, b7]) (a0 a1 a2 a3 a4 a5 a6 a7 : Value) : Blk (st8 w g a0 a1 a2 a3 a4 a5 a6 a7) g t #[a0, a1, a2, a3, a4, a5, a6, a7] := by
  have h9 := (((((((h.set 0 a0).set 1 a1).set 2 a2).set 3 a3).set 4 a4).set 5 a5).set 6 a6).set 7 a7
  simp only [List.setIfInBounds_toArray, List.set_cons_zero, List.set_cons_succ] at h9
  exact h9
theorem own_lo {w : World} {b b' : Nat} {e : TypeId} {k n : Nat} {v : Value} {xs : List Value} (h : w.ownsRow b e k v n xs) (hb : b' ≤ b) : w.ownsRow b' e k v n xs := own_weaken h hb
theorem PMs.no_ (w w' : World) (e : Ending) (err : Nat) (he : e = .returned (.tuple #[.agg #[.int .u8 0, .int .u32 0, .int .u32 0, .slice none 0 0, .slice none 0 0, .int .u8 0, .int .u32 0, .slice none 0 0], .int .i64 (err : Int)])) (hk : Kp (fun _ => True) w w') : PMs w w' e (PM.no err) :=
  ⟨.slice none 0 0, .slice none 0 0, .slice none 0 0, he, World.ownsRow_nil _ _ _ _, World.ownsRow_nil _ _ _ _, World.ownsRow_nil _ _ _ _, hk⟩
set_option maxHeartbeats 8000000 in
set_option maxRecDepth 100000 in
theorem parse0_any {w : World} {A : Option Addr} {n c : Nat} {bs : List Nat} (ct kd pd : Nat) (hs : Sl w (.slice A n c) (bv bs)) (hb : Bts bs) (hl : bs.length ≤ 1000000) (hso : sortOf kd ct = 0) :
    Calls Try.prog 25 #[.agg #[.int .u8 (ct : Int), .int .u8 (kd : Int), .slice A n c, .int .u8 (pd : Int)]] w fun e_ w' => PMs w w' e_ (PM.no 62) := by
  obtain ⟨w0, hw0⟩ : ∃ w0, w0 = (w.alloc (.cells #[.int .u8 (ct : Int), .int .u8 (kd : Int), .slice A n c, .int .u8 (pd : Int)] 40)).alloc (.cells #[.int .u8 0, .int .u32 0, .int .u32 0, .slice none 0 0, .slice none 0 0, .int .u8 0, .int .u32 0, .slice none 0 0] 52) := ⟨_, rfl⟩
  have hK0 : Kp (fun _ => True) w w0 := hw0 ▸ ((Kp.refl _ _).alloc _).alloc _
  have P0 : Blk w0 w.heap.size 40 #[.int .u8 (ct : Int), .int .u8 (kd : Int), .slice A n c, .int .u8 (pd : Int)] := hw0 ▸ (Blk.new w _ _).alloc _
  have Z0 : Blk w0 (w.heap.size + 1) 52 #[.int .u8 0, .int .u32 0, .int .u32 0, .slice none 0 0, .slice none 0 0, .int .u8 0, .int .u32 0, .slice none 0 0] := by
    have := Blk.new (w.alloc (.cells #[.int .u8 (ct : Int), .int .u8 (kd : Int), .slice A n c, .int .u8 (pd : Int)] 40)) 52 #[.int .u8 0, .int .u32 0, .int .u32 0, .slice none 0 0, .slice none 0 0, .int .u8 0, .int .u32 0, .slice none 0 0]
    rw [← hw0, World.size_alloc] at this
    exact this
  have cP := P0.cell
  go_enter Try.func25, Try.ntmps25
  go_upto_region 1 with (fail)
  rw [← hw0]
  clear hw0
  go_wp2_with fail
  refine (of_any _ ct kd pd _ ⟨_, _, _, rfl⟩).mono ?_
  rw [hso]
  rintro e_ w1 ⟨rfl, hK1⟩
  have P1 := P0.kp hK1 trivial
  have Z1 := Z0.kp hK1 trivial
  have hKa := hK0.trans hK1
  clear cP P0 Z0 hK0 hK1 hso
  have fZ := Z1.frozen
  have cZ := Z1.cell
  go_wp2
  exact bodyPost_ret (results_ct rfl _ _ (w.heap.size + 1) 52 _ (0, 0) _ rfl (st8_blk Z1 _ _ _ _ _ _ _ _) Try.underlying52 rfl (by kernel_rfl)) rfl
    (PMs.no_ _ _ _ _ rfl (kp_far hKa (st8_kp _ _ _ _ _ _ _ _ _ _) (fun k hk => by omega)))
set_option maxHeartbeats 8000000 in
set_option maxRecDepth 100000 in
theorem parse1_any {w : World} {A : Option Addr} {n c : Nat} {bs : List Nat} (ct kd pd : Nat) (hs : Sl w (.slice A n c) (bv bs)) (hb : Bts bs) (hl : bs.length ≤ 1000000) (hso : sortOf kd ct = 1) :
    Calls Try.prog 25 #[.agg #[.int .u8 (ct : Int), .int .u8 (kd : Int), .slice A n c, .int .u8 (pd : Int)]] w fun e_ w' => PMs w w' e_ (parse1 bs) := by
  obtain ⟨w0, hw0⟩ : ∃ w0, w0 = (w.alloc (.cells #[.int .u8 (ct : Int), .int .u8 (kd : Int), .slice A n c, .int .u8 (pd : Int)] 40)).alloc (.cells #[.int .u8 0, .int .u32 0, .int .u32 0, .slice none 0 0, .slice none 0 0, .int .u8 0, .int .u32 0, .slice none 0 0] 52) := ⟨_, rfl⟩
  have hK0 : Kp (fun _ => True) w w0 := hw0 ▸ ((Kp.refl _ _).alloc _).alloc _
  have P0 : Blk w0 w.heap.size 40 #[.int .u8 (ct : Int), .int .u8 (kd : Int), .slice A n c, .int .u8 (pd : Int)] := hw0 ▸ (Blk.new w _ _).alloc _
  have Z0 : Blk w0 (w.heap.size + 1) 52 #[.int .u8 0, .int .u32 0, .int .u32 0, .slice none 0 0, .slice none 0 0, .int .u8 0, .int .u32 0, .slice none 0 0] := by
    have := Blk.new (w.alloc (.cells #[.int .u8 (ct : Int), .int .u8 (kd : Int), .slice A n c, .int .u8 (pd : Int)] 40)) 52 #[.int .u8 0, .int .u32 0, .int .u32 0, .slice none 0 0, .slice none 0 0, .int .u8 0, .int .u32 0, .slice none 0 0]
    rw [← hw0, World.size_alloc] at this
    exact this
  have cP := P0.cell
  go_enter Try.func25, Try.ntmps25
  go_upto_region 1 with (fail)
  rw [← hw0]
  clear hw0
  go_wp2_with fail
  refine (of_any _ ct kd pd _ ⟨_, _, _, rfl⟩).mono ?_
  rw [hso]
  rintro e_ w1 ⟨rfl, hK1⟩
  have P1 := P0.kp hK1 trivial
  have Z1 := Z0.kp hK1 trivial
  have hKa := hK0.trans hK1
  clear cP P0 Z0 hK0 hK1 hso
  have cP := P1.cell
  have hix := sort_ix1 .u8
  go_wp2_with fail
  refine (sorts_any _).mono ?_
  rintro e_ w2 ⟨rfl, hK2⟩
  have P2 := P1.kp hK2 trivial
  have Z2 := Z1.kp hK2 trivial
  have hKb := hKa.trans hK2
  clear cP P1 Z1 hKa hK2
  obtain ⟨w3, hw3⟩ : ∃ w3, w3 = w2.alloc (.cells #[.int .u8 205, .int .u8 1, .func (Fn.func 99) #[] #[], .func (Fn.func 100) #[] #[], .func (Fn.func 101) #[] #[]] 125) := ⟨_, rfl⟩
  have hK3 : Kp (fun _ => True) w2 w3 := hw3 ▸ (Kp.refl _ _).alloc _
  have T3 : Blk w3 w2.heap.size 125 #[.int .u8 205, .int .u8 1, .func (Fn.func 99) #[] #[], .func (Fn.func 100) #[] #[], .func (Fn.func 101) #[] #[]] := hw3 ▸ Blk.new w2 _ _
  have P3 := P2.kp hK3 trivial
  have Z3 := Z2.kp hK3 trivial
  have hKc := hKb.trans hK3
  have cP := P3.cell
  have hs2 := hKb.size
  have hs3 := hK3.size
  have hz2 := Z2.lt
  have ht3 := T3.lt
  clear P2 Z2 hKb hK3
  go_upto_region 5 with (fail)
  rw [← hw3]
  clear hw3 hix
  go_wp2_with fail
  refine (Of_any (hs.all hKc) hb (by omega)).mono ?_
  rintro e_ w4 ⟨p, v, rfl, hp, hR1, hv, hK4⟩
  have hs4 := hK4.size
  have hpl := hR1.blk.lt
  have T4 := T3.kp hK4 trivial
  have Z4 := Z3.kp hK4 trivial
  have hKd := hKc.trans hK4
  clear cP P3 T3 Z3 hKc hK4
  have hx1 := tVal_lt bs 0 0 32
  have hx2 := tVal_lt bs (tAt bs 0 0 ((32 : Nat) : Int)) (tErr 0 ((32 : Nat) : Int) (8 * bs.length - (0 : Nat))) 32
  have G1 := take_good (bs := bs) (a := 0) (n := 32) (by decide)
  have G2 := take_good (bs := bs) (a := 32) (n := 32) (by decide)
  have S1 := take_short (bs := bs) (a := 0) (n := 32)
  have S2 := take_short (bs := bs) (a := 32) (n := 32)
  generalize hX1 : tVal bs 0 0 ((32 : Nat) : Int) = x1 at *
  generalize hA1 : tAt bs 0 0 ((32 : Nat) : Int) = a1 at *
  generalize hE1 : tErr 0 ((32 : Nat) : Int) (8 * bs.length - (0 : Nat)) = e1 at *
  generalize hX2 : tVal bs a1 e1 ((32 : Nat) : Int) = x2 at *
  generalize hA2 : tAt bs a1 e1 ((32 : Nat) : Int) = a2 at *
  generalize hE2 : tErr e1 ((32 : Nat) : Int) (8 * bs.length - a1) = e2 at *
  have hC : Hd ((8 ≤ bs.length ∧ e2 = 0 ∧ a2 = 64 ∧ x1 = vl bs 0 32 ∧ x2 = vl bs 32 32) ∨ (bs.length < 8 ∧ e2 ≠ 0)) := hd (by
    by_cases h8 : 8 ≤ bs.length
    · obtain ⟨q1, q2, q3⟩ := G1 (by omega)
      have q2' : a1 = 32 := q2
      subst q2' q3
      obtain ⟨q4, q5, q6⟩ := G2 (by omega)
      exact .inl ⟨h8, hE2.symm.trans q6, hA2.symm.trans q5, q1, hX2.symm.trans q4⟩
    · refine .inr ⟨by omega, ?_⟩
      rw [← hE2]
      by_cases h4 : 4 ≤ bs.length
      · obtain ⟨_, q2, q3⟩ := G1 (by omega)
        have q2' : a1 = 32 := q2
        subst q2' q3
        exact S2 (by omega) 0
      · exact take_err (fun h => S1 (by omega) 0 (hE1.trans h)))
  clear G1 G2 S1 S2
  have f1 : IntKind.u32.wrap (x1 : Int) = x1 := IntWalk.u32_in _ (by omega)
  have f2 : IntKind.u32.wrap (x2 : Int) = x2 := IntWalk.u32_in _ (by omega)
  go_wp2_with fail
  refine (Take_all hR1 ((32 : Nat) : Int)).mono ?_
  rw [hX1, hA1, hE1]
  rintro e_ w5 ⟨rfl, hR2, hK5⟩
  go_wp2_with fail
  refine (Take_all hR2 ((32 : Nat) : Int)).mono ?_
  rw [hX2, hA2, hE2]
  rintro e_ w6 ⟨rfl, hR3, hK6⟩
  have hpT : w2.heap.size ≠ p := by omega
  have hpZ : w.heap.size + 1 ≠ p := by omega
  have T6 := (T4.kp hK5 hpT).kp hK6 hpT
  have Z6 := (Z4.kp hK5 hpZ).kp hK6 hpZ
  have hKe : Kp (fun _ => True) w w6 := kp_far (kp_far hKd hK5 (fun k hk => by omega)) hK6 (fun k hk => by omega)
  have hs6 : w4.heap.size ≤ w6.heap.size := Nat.le_trans hK5.size hK6.size
  clear hX1 hA1 hE1 hX2 hA2 hE2 hR1 hR2 hK5 hK6 T4 Z4 hKd
  obtain ⟨w7, hw7⟩ : ∃ w7, w7 = w6.alloc (.cells #[.int .u8 1, .int .u32 (x1 : Int), .int .u32 (x2 : Int), .slice none 0 0, .slice none 0 0, .int .u8 0, .int .u32 0, .slice none 0 0] 52) := ⟨_, rfl⟩
  have hR4 := hw7 ▸ hR3.alloc (.cells #[.int .u8 1, .int .u32 (x1 : Int), .int .u32 (x2 : Int), .slice none 0 0, .slice none 0 0, .int .u8 0, .int .u32 0, .slice none 0 0] 52)
  have hQ5 : Blk w7 w6.heap.size 52 _ := hw7 ▸ Blk.new w6 _ #[.int .u8 1, .int .u32 (x1 : Int), .int .u32 (x2 : Int), .slice none 0 0, .slice none 0 0, .int .u8 0, .int .u32 0, .slice none 0 0]
  have T7 : Blk w7 w2.heap.size 125 _ := hw7 ▸ T6.alloc _
  have Z7 : Blk w7 (w.heap.size + 1) 52 _ := hw7 ▸ Z6.alloc _
  have hKf : Kp (fun _ => True) w w7 := hw7 ▸ hKe.alloc _
  have hpq : p ≠ w6.heap.size := by omega
  have hvq : v.ownBlock ≠ some w6.heap.size := fun e => by have := hR3.vlt _ e; omega
  have cT := T7.cell
  have hs7 : w6.heap.size + 1 = w7.heap.size := by rw [hw7]; simp
  clear hR3 T6 Z6 hKe hv
  go_upto_region 7 with (fail)
  rw [← hw7]
  clear hw7 f1 f2
  have hT1 : e2 = 0 → 8 * bs.length = a2 + 32 * ((bs.length - 8) / 4) + 8 * ((bs.length - 8) % 4) := fun h0 => by
    rcases hC.out with ⟨z1, z2, z3, z4, z5⟩ | ⟨_, z2⟩
    · omega
    · exact absurd h0 z2
  clear hs hb
  go_wp2_with fail
  refine (takePairs_any hR4 hpq hvq _ _ _ _ _ _ _ ⟨_, _, _, rfl⟩ ⟨_, _, _, rfl⟩ hQ5 ((bs.length - 8) / 4) (8 * ((bs.length - 8) % 4)) hT1 (by omega) (by omega)).mono ?_
  rintro e_ w6_ ⟨rfl, at3, e3, vx, nx, xs, hTK, hQ6, hG, hBd⟩
  clear cT
  have hR8 := hTK.rd
  have hO8 := hTK.own
  have hTS := hTK.kp.size
  have T8 := T7.kp hTK.kp ⟨by omega, by omega⟩
  have Z8 := Z7.kp hTK.kp ⟨by omega, by omega⟩
  have hKg : Kp (fun _ => True) w w6_ := kp_far hKf hTK.kp (fun k hk => ⟨by omega, by omega⟩)
  have hle := hR8.le
  clear hR4 hQ5 T7 Z7 hTK
  obtain ⟨Ax, cx, rfl⟩ : ∃ A c, vx = .slice A nx c := by
    obtain ⟨A, c, e⟩ := own_slice hO8
    exact ⟨A, c, e⟩
  have c8 := hQ6.cell
  have fZ := Z8.frozen
  have cZ := Z8.cell
  have cT8 := fun m => (T8.drewN m).cell
  have c8m := fun m => (hQ6.drewN m).cell
  have fZm := fun m => (Z8.drewN m).frozen
  have cZm := fun m => (Z8.drewN m).cell
  have cT0 := T8.cell
  have hF : Hd (e3 = 0 → Good e2 (8 * ((bs.length - 8) % 4))) := hd (fun z => Classical.byContradiction fun hn => hBd hn z)
  have hF3 : Hd (Good e2 (8 * ((bs.length - 8) % 4)) → 8 ≤ bs.length ∧ x1 = vl bs 0 32 ∧ x2 = vl bs 32 32 ∧ a2 = 64) := hd (fun z => by
    rcases hC.out with ⟨y1, y2, y3, y4, y5⟩ | ⟨_, y2⟩
    · exact ⟨y1, y4, y5, y3⟩
    · exact absurd z.e y2)
  have hF4 : Hd (8 ≤ bs.length → (bs.length - 8) % 4 = 0 → Good e2 (8 * ((bs.length - 8) % 4))) := hd (fun z1 z2 => by
    rcases hC.out with ⟨y1, y2, y3, y4, y5⟩ | ⟨y1, _⟩
    · exact ⟨y2, by omega⟩
    · omega)
  by_cases he : e3 = 0
  · have hGd := hF.out he
    obtain ⟨z1, z2, z3, z4⟩ := hG hGd
    obtain ⟨y1, y2, y3, y4⟩ := hF3.out hGd
    have hr0 : (bs.length - 8) % 4 = 0 := by have := hGd.r; omega
    subst y4
    clear z1
    by_cases h0 : nx = 0
    · have HN : Hd (parse1 bs = PM.no 63) := hd (by unfold parse1; rw [if_neg]; rintro ⟨q1, q2⟩; omega)
      clear hGd
      subst he
      have hz : decide ((0 : Int) < 8 * (bs.length : Int) - (at3 : Int)) = false := decide_eq_false (by omega)
      have hz2 : ¬ ((at3 : Int) < 8 * (bs.length : Int)) := by omega
      clear hG hBd hF hF3 hF4 hC
      have Z3 := hd z3
      have Z4 := hd z4
      clear y1 y2 y3 z2 z3 z4 hr0
      go_wp2_with (first | (go_at_call 70; refine (rerr_any hR8).mono ?_; rintro e_ w9 ⟨rfl, rfl⟩) | (go_at_call 71; refine (left_any hR8).mono ?_; rintro e_ w9 ⟨rfl, m9, rfl⟩))
      refine (nPairs_any _ _ _ _ _ _ _ _ _ _ _ _ _ _ _).mono ?_
      rintro e_ w10 ⟨rfl, hK10⟩
      have Z10 := (Z8.drewN m9).kp hK10 trivial
      have hKh : Kp (fun _ => True) w w10 := (hKg.drewN m9).trans hK10
      have f10 := Z10.frozen
      have c10 := Z10.cell
      have q10 := ((hQ6.drewN m9).kp hK10 trivial).cell
      clear c8 fZ cZ cT8
      have hn0 : ((nx : Int) == 0) = true := by rw [beq_iff_eq]; omega
      go_wp2
      exact bodyPost_ret (results_ct rfl _ _ (w.heap.size + 1) 52 _ (0, 0) _ rfl (st8_blk Z10 _ _ _ _ _ _ _ _) Try.underlying52 rfl (by kernel_rfl)) rfl (by rw [HN.out]; exact PMs.no_ _ _ _ _ rfl (kp_far hKh (st8_kp _ _ _ _ _ _ _ _ _ _) (fun k hk => by omega)))
    · have HN : Hd (parse1 bs = ⟨1, x1, x2, tPairs bs 64 ((bs.length - 8) / 4), [], 0, 0, [], 0⟩) := hd (by unfold parse1; rw [if_pos ⟨by omega, hr0⟩, y2, y3])
      have hn0 : ((nx : Int) == 0) = false := by rw [beq_eq_false_iff_ne]; omega
      clear hGd
      subst he
      have hz : decide ((0 : Int) < 8 * (bs.length : Int) - (at3 : Int)) = false := decide_eq_false (by omega)
      have hz2 : ¬ ((at3 : Int) < 8 * (bs.length : Int)) := by omega
      clear hG hBd hF hF3 hF4 hC
      have Z3 := hd z3
      have Z4 := hd z4
      clear y1 y2 y3 z2 z3 z4 hr0
      go_wp2_with (first | (go_at_call 70; refine (rerr_any hR8).mono ?_; rintro e_ w9 ⟨rfl, rfl⟩) | (go_at_call 71; refine (left_any hR8).mono ?_; rintro e_ w9 ⟨rfl, m9, rfl⟩))
      refine (nPairs_any _ _ _ _ _ _ _ _ _ _ _ _ _ _ _).mono ?_
      rintro e_ w10 ⟨rfl, hK10⟩
      have Z10 := (Z8.drewN m9).kp hK10 trivial
      have hKh : Kp (fun _ => True) w w10 := (hKg.drewN m9).trans hK10
      have f10 := Z10.frozen
      have c10 := Z10.cell
      have q10 := ((hQ6.drewN m9).kp hK10 trivial).cell
      clear c8 fZ cZ cT8
      go_wp2
      refine bodyPost_ret (results_ct rfl _ _ (w.heap.size + 1) 52 _ (0, 0) _ rfl (st8_blk Z10 _ _ _ _ _ _ _ _) Try.underlying52 rfl (by kernel_rfl)) rfl ?_
      rw [HN.out]
      refine ⟨_, _, _, rfl, ?_, World.ownsRow_nil _ _ _ _, World.ownsRow_nil _ _ _ _, kp_far hKh (st8_kp _ _ _ _ _ _ _ _ _ _) (fun k hk => by omega)⟩
      have hOw := own_kp (own_kp hO8 ((Kp.refl (fun _ => True) _).drewN m9) (fun _ _ _ => trivial)) hK10 (fun _ _ _ => trivial)
      have hln : (tPairs bs 64 ((bs.length - 8) / 4)).length = nx := by rw [tPairs_length, Z3.out]
      show World.ownsRow _ _ _ _ _ (tPairs bs 64 ((bs.length - 8) / 4)).length (pcs (tPairs bs 64 ((bs.length - 8) / 4)))
      rw [hln, ← Z4.out]
      exact own_lo (own_kp hOw (st8_kp _ _ _ _ _ _ _ _ _ _) (fun g hg _ => by omega)) (by omega)
  · have HN : Hd (parse1 bs = PM.no 63) := hd (by unfold parse1; rw [if_neg]; rintro ⟨q1, q2⟩; exact he (hG (hF4.out (by omega) q2)).1)
    have hq : (e3 != 0) = true := by rw [bne_iff_ne]; exact he
    clear he
    clear hG hBd hF hF3 hF4 hC
    go_wp2_with (first | (go_at_call 70; refine (rerr_any hR8).mono ?_; rintro e_ w9 ⟨rfl, rfl⟩) | (go_at_call 71; refine (left_any hR8).mono ?_; rintro e_ w9 ⟨rfl, m9, rfl⟩))
    exact bodyPost_ret (results_ct rfl _ _ (w.heap.size + 1) 52 _ (0, 0) _ rfl (st8_blk Z8 _ _ _ _ _ _ _ _) Try.underlying52 rfl (by kernel_rfl)) rfl (by rw [HN.out]; exact PMs.no_ _ _ _ _ rfl (kp_far hKg (st8_kp _ _ _ _ _ _ _ _ _ _) (fun k hk => by omega)))
set_option maxHeartbeats 8000000 in
set_option maxRecDepth 100000 in
theorem parse2_any {w : World} {A : Option Addr} {n c : Nat} {bs : List Nat} (ct kd pd : Nat) (hs : Sl w (.slice A n c) (bv bs)) (hb : Bts bs) (hl : bs.length ≤ 1000000) (hso : sortOf kd ct = 2) :
    Calls Try.prog 25 #[.agg #[.int .u8 (ct : Int), .int .u8 (kd : Int), .slice A n c, .int .u8 (pd : Int)]] w fun e_ w' => PMs w w' e_ (parse2 bs) := by
  obtain ⟨w0, hw0⟩ : ∃ w0, w0 = (w.alloc (.cells #[.int .u8 (ct : Int), .int .u8 (kd : Int), .slice A n c, .int .u8 (pd : Int)] 40)).alloc (.cells #[.int .u8 0, .int .u32 0, .int .u32 0, .slice none 0 0, .slice none 0 0, .int .u8 0, .int .u32 0, .slice none 0 0] 52) := ⟨_, rfl⟩
  have hK0 : Kp (fun _ => True) w w0 := hw0 ▸ ((Kp.refl _ _).alloc _).alloc _
  have P0 : Blk w0 w.heap.size 40 #[.int .u8 (ct : Int), .int .u8 (kd : Int), .slice A n c, .int .u8 (pd : Int)] := hw0 ▸ (Blk.new w _ _).alloc _
  have Z0 : Blk w0 (w.heap.size + 1) 52 #[.int .u8 0, .int .u32 0, .int .u32 0, .slice none 0 0, .slice none 0 0, .int .u8 0, .int .u32 0, .slice none 0 0] := by
    have := Blk.new (w.alloc (.cells #[.int .u8 (ct : Int), .int .u8 (kd : Int), .slice A n c, .int .u8 (pd : Int)] 40)) 52 #[.int .u8 0, .int .u32 0, .int .u32 0, .slice none 0 0, .slice none 0 0, .int .u8 0, .int .u32 0, .slice none 0 0]
    rw [← hw0, World.size_alloc] at this
    exact this
  have cP := P0.cell
  go_enter Try.func25, Try.ntmps25
  go_upto_region 1 with (fail)
  rw [← hw0]
  clear hw0
  go_wp2_with fail
  refine (of_any _ ct kd pd _ ⟨_, _, _, rfl⟩).mono ?_
  rw [hso]
  rintro e_ w1 ⟨rfl, hK1⟩
  have P1 := P0.kp hK1 trivial
  have Z1 := Z0.kp hK1 trivial
  have hKa := hK0.trans hK1
  clear cP P0 Z0 hK0 hK1 hso
  have cP := P1.cell
  have hix := sort_ix2 .u8
  go_wp2_with fail
  refine (sorts_any _).mono ?_
  rintro e_ w2 ⟨rfl, hK2⟩
  have P2 := P1.kp hK2 trivial
  have Z2 := Z1.kp hK2 trivial
  have hKb := hKa.trans hK2
  clear cP P1 Z1 hKa hK2
  obtain ⟨w3, hw3⟩ : ∃ w3, w3 = w2.alloc (.cells #[.int .u8 206, .int .u8 1, .func (Fn.func 102) #[] #[], .func (Fn.func 103) #[] #[], .func (Fn.func 104) #[] #[]] 125) := ⟨_, rfl⟩
  have hK3 : Kp (fun _ => True) w2 w3 := hw3 ▸ (Kp.refl _ _).alloc _
  have T3 : Blk w3 w2.heap.size 125 #[.int .u8 206, .int .u8 1, .func (Fn.func 102) #[] #[], .func (Fn.func 103) #[] #[], .func (Fn.func 104) #[] #[]] := hw3 ▸ Blk.new w2 _ _
  have P3 := P2.kp hK3 trivial
  have Z3 := Z2.kp hK3 trivial
  have hKc := hKb.trans hK3
  have cP := P3.cell
  have hs2 := hKb.size
  have hs3 := hK3.size
  have hz2 := Z2.lt
  have ht3 := T3.lt
  clear P2 Z2 hKb hK3
  go_upto_region 5 with (fail)
  rw [← hw3]
  clear hw3 hix
  go_wp2_with fail
  refine (Of_any (hs.all hKc) hb (by omega)).mono ?_
  rintro e_ w4 ⟨p, v, rfl, hp, hR1, hv, hK4⟩
  have hs4 := hK4.size
  have hpl := hR1.blk.lt
  have T4 := T3.kp hK4 trivial
  have Z4 := Z3.kp hK4 trivial
  have hKd := hKc.trans hK4
  clear cP P3 T3 Z3 hKc hK4
  have hx1 := tVal_lt bs 0 0 32
  have hx2 := tVal_lt bs (tAt bs 0 0 ((32 : Nat) : Int)) (tErr 0 ((32 : Nat) : Int) (8 * bs.length - (0 : Nat))) 32
  have G1 := take_good (bs := bs) (a := 0) (n := 32) (by decide)
  have G2 := take_good (bs := bs) (a := 32) (n := 32) (by decide)
  have S1 := take_short (bs := bs) (a := 0) (n := 32)
  have S2 := take_short (bs := bs) (a := 32) (n := 32)
  generalize hX1 : tVal bs 0 0 ((32 : Nat) : Int) = x1 at *
  generalize hA1 : tAt bs 0 0 ((32 : Nat) : Int) = a1 at *
  generalize hE1 : tErr 0 ((32 : Nat) : Int) (8 * bs.length - (0 : Nat)) = e1 at *
  generalize hX2 : tVal bs a1 e1 ((32 : Nat) : Int) = x2 at *
  generalize hA2 : tAt bs a1 e1 ((32 : Nat) : Int) = a2 at *
  generalize hE2 : tErr e1 ((32 : Nat) : Int) (8 * bs.length - a1) = e2 at *
  have hC : Hd ((8 ≤ bs.length ∧ e2 = 0 ∧ a2 = 64 ∧ x1 = vl bs 0 32 ∧ x2 = vl bs 32 32) ∨ (bs.length < 8 ∧ e2 ≠ 0)) := hd (by
    by_cases h8 : 8 ≤ bs.length
    · obtain ⟨q1, q2, q3⟩ := G1 (by omega)
      have q2' : a1 = 32 := q2
      subst q2' q3
      obtain ⟨q4, q5, q6⟩ := G2 (by omega)
      exact .inl ⟨h8, hE2.symm.trans q6, hA2.symm.trans q5, q1, hX2.symm.trans q4⟩
    · refine .inr ⟨by omega, ?_⟩
      rw [← hE2]
      by_cases h4 : 4 ≤ bs.length
      · obtain ⟨_, q2, q3⟩ := G1 (by omega)
        have q2' : a1 = 32 := q2
        subst q2' q3
        exact S2 (by omega) 0
      · exact take_err (fun h => S1 (by omega) 0 (hE1.trans h)))
  clear G1 G2 S1 S2
  have f1 : IntKind.u32.wrap (x1 : Int) = x1 := IntWalk.u32_in _ (by omega)
  have f2 : IntKind.u32.wrap (x2 : Int) = x2 := IntWalk.u32_in _ (by omega)
  go_wp2_with fail
  refine (Take_all hR1 ((32 : Nat) : Int)).mono ?_
  rw [hX1, hA1, hE1]
  rintro e_ w5 ⟨rfl, hR2, hK5⟩
  go_wp2_with fail
  refine (Take_all hR2 ((32 : Nat) : Int)).mono ?_
  rw [hX2, hA2, hE2]
  rintro e_ w6 ⟨rfl, hR3, hK6⟩
  have hpT : w2.heap.size ≠ p := by omega
  have hpZ : w.heap.size + 1 ≠ p := by omega
  have T6 := (T4.kp hK5 hpT).kp hK6 hpT
  have Z6 := (Z4.kp hK5 hpZ).kp hK6 hpZ
  have hKe : Kp (fun _ => True) w w6 := kp_far (kp_far hKd hK5 (fun k hk => by omega)) hK6 (fun k hk => by omega)
  have hs6 : w4.heap.size ≤ w6.heap.size := Nat.le_trans hK5.size hK6.size
  clear hX1 hA1 hE1 hX2 hA2 hE2 hR1 hR2 hK5 hK6 T4 Z4 hKd
  obtain ⟨w7, hw7⟩ : ∃ w7, w7 = w6.alloc (.cells #[.int .u8 2, .int .u32 (x1 : Int), .int .u32 (x2 : Int), .slice none 0 0, .slice none 0 0, .int .u8 0, .int .u32 0, .slice none 0 0] 52) := ⟨_, rfl⟩
  have hR4 := hw7 ▸ hR3.alloc (.cells #[.int .u8 2, .int .u32 (x1 : Int), .int .u32 (x2 : Int), .slice none 0 0, .slice none 0 0, .int .u8 0, .int .u32 0, .slice none 0 0] 52)
  have hQ5 : Blk w7 w6.heap.size 52 _ := hw7 ▸ Blk.new w6 _ #[.int .u8 2, .int .u32 (x1 : Int), .int .u32 (x2 : Int), .slice none 0 0, .slice none 0 0, .int .u8 0, .int .u32 0, .slice none 0 0]
  have T7 : Blk w7 w2.heap.size 125 _ := hw7 ▸ T6.alloc _
  have Z7 : Blk w7 (w.heap.size + 1) 52 _ := hw7 ▸ Z6.alloc _
  have hKf : Kp (fun _ => True) w w7 := hw7 ▸ hKe.alloc _
  have hpq : p ≠ w6.heap.size := by omega
  have hvq : v.ownBlock ≠ some w6.heap.size := fun e => by have := hR3.vlt _ e; omega
  have cT := T7.cell
  have hs7 : w6.heap.size + 1 = w7.heap.size := by rw [hw7]; simp
  clear hR3 T6 Z6 hKe hv
  go_upto_region 7 with (fail)
  rw [← hw7]
  clear hw7 f1 f2
  obtain ⟨at3, h3⟩ : ∃ x, x = a2 := ⟨_, rfl⟩
  obtain ⟨e3, h3e⟩ : ∃ x, x = e2 := ⟨_, rfl⟩
  rw [← h3, ← h3e] at hR4
  have hF : Hd (e3 = 0 → 8 * bs.length = at3 → bs.length = 8 ∧ e2 = 0) := hd (fun z1 z2 => by
    rcases hC.out with ⟨y1, y2, y3, y4, y5⟩ | ⟨_, y2⟩
    · exact ⟨by omega, y2⟩
    · exact absurd (h3e.symm.trans z1) y2)
  have hF2 : Hd (bs.length = 8 → e3 = 0 ∧ 8 * bs.length = at3) := hd (fun z => by
    rcases hC.out with ⟨y1, y2, y3, y4, y5⟩ | ⟨y1, y2⟩
    · exact ⟨h3e.trans y2, by omega⟩
    · omega)
  clear h3 h3e
  have hQ6 := hQ5
  have T8 := T7
  have Z8 := Z7
  have hKg := hKf
  clear hs hb
  go_wp2_with fail
  refine (takeNothing_any _ _ _).mono ?_
  rintro e_ w8_ ⟨rfl, rfl⟩
  have hR8 := hR4
  have hle := hR8.le
  have c8 := hQ6.cell
  have fZ := Z8.frozen
  have cZ := Z8.cell
  have cT8 := fun m => (T8.drewN m).cell
  have c8m := fun m => (hQ6.drewN m).cell
  have fZm := fun m => (Z8.drewN m).frozen
  have cZm := fun m => (Z8.drewN m).cell
  have cT0 := T8.cell
  by_cases he : e3 = 0
  · by_cases hl8 : at3 = 8 * bs.length
    · have hlen := hF.out he hl8.symm
      have HX : Hd (x1 = vl bs 0 32 ∧ x2 = vl bs 32 32) := hd (by
        rcases hC.out with ⟨y1, y2, y3, y4, y5⟩ | ⟨_, y2⟩
        · exact ⟨y4, y5⟩
        · exact absurd hlen.2 y2)
      have HN : Hd (parse2 bs = ⟨2, x1, x2, [], [], 0, 0, [], 0⟩) := hd (by unfold parse2; rw [if_pos hlen.1, HX.out.1, HX.out.2])
      clear hlen
      subst he
      have hz : decide ((0 : Int) < 8 * (bs.length : Int) - (at3 : Int)) = false := decide_eq_false (by omega)
      have hz2 : ¬ ((at3 : Int) < 8 * (bs.length : Int)) := by omega
      clear hF hF2 hC
      clear HX hl8
      go_wp2_with (first | (go_at_call 70; refine (rerr_any hR8).mono ?_; rintro e_ w9 ⟨rfl, rfl⟩) | (go_at_call 71; refine (left_any hR8).mono ?_; rintro e_ w9 ⟨rfl, m9, rfl⟩))
      refine (nOne_any _ _ _ _ _ _ _ _ _ _ _ _ _ _ _).mono ?_
      rintro e_ w10 ⟨rfl, hK10⟩
      have Z10 := (Z8.drewN m9).kp hK10 trivial
      have hKh : Kp (fun _ => True) w w10 := (hKg.drewN m9).trans hK10
      have f10 := Z10.frozen
      have c10 := Z10.cell
      have q10 := ((hQ6.drewN m9).kp hK10 trivial).cell
      clear c8 fZ cZ cT8
      go_wp2
      refine bodyPost_ret (results_ct rfl _ _ (w.heap.size + 1) 52 _ (0, 0) _ rfl (st8_blk Z10 _ _ _ _ _ _ _ _) Try.underlying52 rfl (by kernel_rfl)) rfl ?_
      rw [HN.out]
      refine ⟨_, _, _, rfl, World.ownsRow_nil _ _ _ _, World.ownsRow_nil _ _ _ _, World.ownsRow_nil _ _ _ _, kp_far hKh (st8_kp _ _ _ _ _ _ _ _ _ _) (fun k hk => by omega)⟩
    · have HN : Hd (parse2 bs = PM.no 63) := hd (by unfold parse2; rw [if_neg]; intro q1; exact hl8 (hF2.out q1).2.symm)
      subst he
      have hz : decide ((0 : Int) < 8 * (bs.length : Int) - (at3 : Int)) = true := decide_eq_true (by omega)
      have hz2 : (at3 : Int) < 8 * (bs.length : Int) := by omega
      clear hF hF2 hC
      go_wp2_with (first | (go_at_call 70; refine (rerr_any hR8).mono ?_; rintro e_ w9 ⟨rfl, rfl⟩) | (go_at_call 71; refine (left_any hR8).mono ?_; rintro e_ w9 ⟨rfl, m9, rfl⟩))
      exact bodyPost_ret (results_ct rfl _ _ (w.heap.size + 1) 52 _ (0, 0) _ rfl (st8_blk (Z8.drewN m9) _ _ _ _ _ _ _ _) Try.underlying52 rfl (by kernel_rfl)) rfl (by rw [HN.out]; exact PMs.no_ _ _ _ _ rfl (kp_far (hKg.drewN m9) (st8_kp _ _ _ _ _ _ _ _ _ _) (fun k hk => by omega)))
  · have HN : Hd (parse2 bs = PM.no 63) := hd (by unfold parse2; rw [if_neg]; intro q1; exact he (hF2.out q1).1)
    have hq : (e3 != 0) = true := by rw [bne_iff_ne]; exact he
    clear he
    clear hF hF2 hC
    go_wp2_with (first | (go_at_call 70; refine (rerr_any hR8).mono ?_; rintro e_ w9 ⟨rfl, rfl⟩) | (go_at_call 71; refine (left_any hR8).mono ?_; rintro e_ w9 ⟨rfl, m9, rfl⟩))
    exact bodyPost_ret (results_ct rfl _ _ (w.heap.size + 1) 52 _ (0, 0) _ rfl (st8_blk Z8 _ _ _ _ _ _ _ _) Try.underlying52 rfl (by kernel_rfl)) rfl (by rw [HN.out]; exact PMs.no_ _ _ _ _ rfl (kp_far hKg (st8_kp _ _ _ _ _ _ _ _ _ _) (fun k hk => by omega)))
set_option maxHeartbeats 8000000 in
set_option maxRecDepth 100000 in
theorem parse3_any {w : World} {A : Option Addr} {n c : Nat} {bs : List Nat} (ct kd pd : Nat) (hs : Sl w (.slice A n c) (bv bs)) (hb : Bts bs) (hl : bs.length ≤ 1000000) (hso : sortOf kd ct = 3) :
    Calls Try.prog 25 #[.agg #[.int .u8 (ct : Int), .int .u8 (kd : Int), .slice A n c, .int .u8 (pd : Int)]] w fun e_ w' => PMs w w' e_ (parse3 bs) := by
  obtain ⟨w0, hw0⟩ : ∃ w0, w0 = (w.alloc (.cells #[.int .u8 (ct : Int), .int .u8 (kd : Int), .slice A n c, .int .u8 (pd : Int)] 40)).alloc (.cells #[.int .u8 0, .int .u32 0, .int .u32 0, .slice none 0 0, .slice none 0 0, .int .u8 0, .int .u32 0, .slice none 0 0] 52) := ⟨_, rfl⟩
  have hK0 : Kp (fun _ => True) w w0 := hw0 ▸ ((Kp.refl _ _).alloc _).alloc _
  have P0 : Blk w0 w.heap.size 40 #[.int .u8 (ct : Int), .int .u8 (kd : Int), .slice A n c, .int .u8 (pd : Int)] := hw0 ▸ (Blk.new w _ _).alloc _
  have Z0 : Blk w0 (w.heap.size + 1) 52 #[.int .u8 0, .int .u32 0, .int .u32 0, .slice none 0 0, .slice none 0 0, .int .u8 0, .int .u32 0, .slice none 0 0] := by
    have := Blk.new (w.alloc (.cells #[.int .u8 (ct : Int), .int .u8 (kd : Int), .slice A n c, .int .u8 (pd : Int)] 40)) 52 #[.int .u8 0, .int .u32 0, .int .u32 0, .slice none 0 0, .slice none 0 0, .int .u8 0, .int .u32 0, .slice none 0 0]
    rw [← hw0, World.size_alloc] at this
    exact this
  have cP := P0.cell
  go_enter Try.func25, Try.ntmps25
  go_upto_region 1 with (fail)
  rw [← hw0]
  clear hw0
  go_wp2_with fail
  refine (of_any _ ct kd pd _ ⟨_, _, _, rfl⟩).mono ?_
  rw [hso]
  rintro e_ w1 ⟨rfl, hK1⟩
  have P1 := P0.kp hK1 trivial
  have Z1 := Z0.kp hK1 trivial
  have hKa := hK0.trans hK1
  clear cP P0 Z0 hK0 hK1 hso
  have cP := P1.cell
  have hix := sort_ix3 .u8
  go_wp2_with fail
  refine (sorts_any _).mono ?_
  rintro e_ w2 ⟨rfl, hK2⟩
  have P2 := P1.kp hK2 trivial
  have Z2 := Z1.kp hK2 trivial
  have hKb := hKa.trans hK2
  clear cP P1 Z1 hKa hK2
  obtain ⟨w3, hw3⟩ : ∃ w3, w3 = w2.alloc (.cells #[.int .u8 206, .int .u8 4, .func (Fn.func 105) #[] #[], .func (Fn.func 106) #[] #[], .func (Fn.func 107) #[] #[]] 125) := ⟨_, rfl⟩
  have hK3 : Kp (fun _ => True) w2 w3 := hw3 ▸ (Kp.refl _ _).alloc _
  have T3 : Blk w3 w2.heap.size 125 #[.int .u8 206, .int .u8 4, .func (Fn.func 105) #[] #[], .func (Fn.func 106) #[] #[], .func (Fn.func 107) #[] #[]] := hw3 ▸ Blk.new w2 _ _
  have P3 := P2.kp hK3 trivial
  have Z3 := Z2.kp hK3 trivial
  have hKc := hKb.trans hK3
  have cP := P3.cell
  have hs2 := hKb.size
  have hs3 := hK3.size
  have hz2 := Z2.lt
  have ht3 := T3.lt
  clear P2 Z2 hKb hK3
  go_upto_region 5 with (fail)
  rw [← hw3]
  clear hw3 hix
  go_wp2_with fail
  refine (Of_any (hs.all hKc) hb (by omega)).mono ?_
  rintro e_ w4 ⟨p, v, rfl, hp, hR1, hv, hK4⟩
  have hs4 := hK4.size
  have hpl := hR1.blk.lt
  have T4 := T3.kp hK4 trivial
  have Z4 := Z3.kp hK4 trivial
  have hKd := hKc.trans hK4
  clear cP P3 T3 Z3 hKc hK4
  have hx1 := tVal_lt bs 0 0 32
  have hx2 := tVal_lt bs (tAt bs 0 0 ((32 : Nat) : Int)) (tErr 0 ((32 : Nat) : Int) (8 * bs.length - (0 : Nat))) 32
  have G1 := take_good (bs := bs) (a := 0) (n := 32) (by decide)
  have G2 := take_good (bs := bs) (a := 32) (n := 32) (by decide)
  have S1 := take_short (bs := bs) (a := 0) (n := 32)
  have S2 := take_short (bs := bs) (a := 32) (n := 32)
  generalize hX1 : tVal bs 0 0 ((32 : Nat) : Int) = x1 at *
  generalize hA1 : tAt bs 0 0 ((32 : Nat) : Int) = a1 at *
  generalize hE1 : tErr 0 ((32 : Nat) : Int) (8 * bs.length - (0 : Nat)) = e1 at *
  generalize hX2 : tVal bs a1 e1 ((32 : Nat) : Int) = x2 at *
  generalize hA2 : tAt bs a1 e1 ((32 : Nat) : Int) = a2 at *
  generalize hE2 : tErr e1 ((32 : Nat) : Int) (8 * bs.length - a1) = e2 at *
  have hC : Hd ((8 ≤ bs.length ∧ e2 = 0 ∧ a2 = 64 ∧ x1 = vl bs 0 32 ∧ x2 = vl bs 32 32) ∨ (bs.length < 8 ∧ e2 ≠ 0)) := hd (by
    by_cases h8 : 8 ≤ bs.length
    · obtain ⟨q1, q2, q3⟩ := G1 (by omega)
      have q2' : a1 = 32 := q2
      subst q2' q3
      obtain ⟨q4, q5, q6⟩ := G2 (by omega)
      exact .inl ⟨h8, hE2.symm.trans q6, hA2.symm.trans q5, q1, hX2.symm.trans q4⟩
    · refine .inr ⟨by omega, ?_⟩
      rw [← hE2]
      by_cases h4 : 4 ≤ bs.length
      · obtain ⟨_, q2, q3⟩ := G1 (by omega)
        have q2' : a1 = 32 := q2
        subst q2' q3
        exact S2 (by omega) 0
      · exact take_err (fun h => S1 (by omega) 0 (hE1.trans h)))
  clear G1 G2 S1 S2
  have f1 : IntKind.u32.wrap (x1 : Int) = x1 := IntWalk.u32_in _ (by omega)
  have f2 : IntKind.u32.wrap (x2 : Int) = x2 := IntWalk.u32_in _ (by omega)
  go_wp2_with fail
  refine (Take_all hR1 ((32 : Nat) : Int)).mono ?_
  rw [hX1, hA1, hE1]
  rintro e_ w5 ⟨rfl, hR2, hK5⟩
  go_wp2_with fail
  refine (Take_all hR2 ((32 : Nat) : Int)).mono ?_
  rw [hX2, hA2, hE2]
  rintro e_ w6 ⟨rfl, hR3, hK6⟩
  have hpT : w2.heap.size ≠ p := by omega
  have hpZ : w.heap.size + 1 ≠ p := by omega
  have T6 := (T4.kp hK5 hpT).kp hK6 hpT
  have Z6 := (Z4.kp hK5 hpZ).kp hK6 hpZ
  have hKe : Kp (fun _ => True) w w6 := kp_far (kp_far hKd hK5 (fun k hk => by omega)) hK6 (fun k hk => by omega)
  have hs6 : w4.heap.size ≤ w6.heap.size := Nat.le_trans hK5.size hK6.size
  clear hX1 hA1 hE1 hX2 hA2 hE2 hR1 hR2 hK5 hK6 T4 Z4 hKd
  obtain ⟨w7, hw7⟩ : ∃ w7, w7 = w6.alloc (.cells #[.int .u8 3, .int .u32 (x1 : Int), .int .u32 (x2 : Int), .slice none 0 0, .slice none 0 0, .int .u8 0, .int .u32 0, .slice none 0 0] 52) := ⟨_, rfl⟩
  have hR4 := hw7 ▸ hR3.alloc (.cells #[.int .u8 3, .int .u32 (x1 : Int), .int .u32 (x2 : Int), .slice none 0 0, .slice none 0 0, .int .u8 0, .int .u32 0, .slice none 0 0] 52)
  have hQ5 : Blk w7 w6.heap.size 52 _ := hw7 ▸ Blk.new w6 _ #[.int .u8 3, .int .u32 (x1 : Int), .int .u32 (x2 : Int), .slice none 0 0, .slice none 0 0, .int .u8 0, .int .u32 0, .slice none 0 0]
  have T7 : Blk w7 w2.heap.size 125 _ := hw7 ▸ T6.alloc _
  have Z7 : Blk w7 (w.heap.size + 1) 52 _ := hw7 ▸ Z6.alloc _
  have hKf : Kp (fun _ => True) w w7 := hw7 ▸ hKe.alloc _
  have hpq : p ≠ w6.heap.size := by omega
  have hvq : v.ownBlock ≠ some w6.heap.size := fun e => by have := hR3.vlt _ e; omega
  have cT := T7.cell
  have hs7 : w6.heap.size + 1 = w7.heap.size := by rw [hw7]; simp
  clear hR3 T6 Z6 hKe hv
  go_upto_region 7 with (fail)
  rw [← hw7]
  clear hw7 f1 f2
  have hT1 : e2 = 0 → 8 * bs.length = a2 + 64 * ((bs.length - 8) / 8) + 8 * ((bs.length - 8) % 8) := fun h0 => by
    rcases hC.out with ⟨z1, z2, z3, z4, z5⟩ | ⟨_, z2⟩
    · omega
    · exact absurd h0 z2
  clear hs hb
  go_wp2_with fail
  refine (takeOrders_any hR4 hpq hvq _ _ _ _ _ _ _ ⟨_, _, _, rfl⟩ ⟨_, _, _, rfl⟩ hQ5 ((bs.length - 8) / 8) (8 * ((bs.length - 8) % 8)) hT1 (by omega) (by omega)).mono ?_
  rintro e_ w6_ ⟨rfl, at3, e3, vx, nx, xs, hTK, hQ6, hG, hBd⟩
  clear cT
  have hR8 := hTK.rd
  have hO8 := hTK.own
  have hTS := hTK.kp.size
  have T8 := T7.kp hTK.kp ⟨by omega, by omega⟩
  have Z8 := Z7.kp hTK.kp ⟨by omega, by omega⟩
  have hKg : Kp (fun _ => True) w w6_ := kp_far hKf hTK.kp (fun k hk => ⟨by omega, by omega⟩)
  have hle := hR8.le
  clear hR4 hQ5 T7 Z7 hTK
  obtain ⟨Ax, cx, rfl⟩ : ∃ A c, vx = .slice A nx c := by
    obtain ⟨A, c, e⟩ := own_slice hO8
    exact ⟨A, c, e⟩
  have c8 := hQ6.cell
  have fZ := Z8.frozen
  have cZ := Z8.cell
  have cT8 := fun m => (T8.drewN m).cell
  have c8m := fun m => (hQ6.drewN m).cell
  have fZm := fun m => (Z8.drewN m).frozen
  have cZm := fun m => (Z8.drewN m).cell
  have cT0 := T8.cell
  have hF : Hd (e3 = 0 → Good e2 (8 * ((bs.length - 8) % 8))) := hd (fun z => Classical.byContradiction fun hn => hBd hn z)
  have hF3 : Hd (Good e2 (8 * ((bs.length - 8) % 8)) → 8 ≤ bs.length ∧ x1 = vl bs 0 32 ∧ x2 = vl bs 32 32 ∧ a2 = 64) := hd (fun z => by
    rcases hC.out with ⟨y1, y2, y3, y4, y5⟩ | ⟨_, y2⟩
    · exact ⟨y1, y4, y5, y3⟩
    · exact absurd z.e y2)
  have hF4 : Hd (8 ≤ bs.length → (bs.length - 8) % 8 = 0 → Good e2 (8 * ((bs.length - 8) % 8))) := hd (fun z1 z2 => by
    rcases hC.out with ⟨y1, y2, y3, y4, y5⟩ | ⟨y1, _⟩
    · exact ⟨y2, by omega⟩
    · omega)
  by_cases he : e3 = 0
  · have hGd := hF.out he
    obtain ⟨z1, z2, z3, z4⟩ := hG hGd
    obtain ⟨y1, y2, y3, y4⟩ := hF3.out hGd
    have hr0 : (bs.length - 8) % 8 = 0 := by have := hGd.r; omega
    subst y4
    clear z1
    by_cases h0 : nx = 0
    · have HN : Hd (parse3 bs = PM.no 63) := hd (by unfold parse3; rw [if_neg]; rintro ⟨q1, q2⟩; omega)
      clear hGd
      subst he
      have hz : decide ((0 : Int) < 8 * (bs.length : Int) - (at3 : Int)) = false := decide_eq_false (by omega)
      have hz2 : ¬ ((at3 : Int) < 8 * (bs.length : Int)) := by omega
      clear hG hBd hF hF3 hF4 hC
      have Z3 := hd z3
      have Z4 := hd z4
      clear y1 y2 y3 z2 z3 z4 hr0
      go_wp2_with (first | (go_at_call 70; refine (rerr_any hR8).mono ?_; rintro e_ w9 ⟨rfl, rfl⟩) | (go_at_call 71; refine (left_any hR8).mono ?_; rintro e_ w9 ⟨rfl, m9, rfl⟩))
      refine (nOrders_any _ _ _ _ _ _ _ _ _ _ _ _ _ _ _).mono ?_
      rintro e_ w10 ⟨rfl, hK10⟩
      have Z10 := (Z8.drewN m9).kp hK10 trivial
      have hKh : Kp (fun _ => True) w w10 := (hKg.drewN m9).trans hK10
      have f10 := Z10.frozen
      have c10 := Z10.cell
      have q10 := ((hQ6.drewN m9).kp hK10 trivial).cell
      clear c8 fZ cZ cT8
      have hn0 : ((nx : Int) == 0) = true := by rw [beq_iff_eq]; omega
      go_wp2
      exact bodyPost_ret (results_ct rfl _ _ (w.heap.size + 1) 52 _ (0, 0) _ rfl (st8_blk Z10 _ _ _ _ _ _ _ _) Try.underlying52 rfl (by kernel_rfl)) rfl (by rw [HN.out]; exact PMs.no_ _ _ _ _ rfl (kp_far hKh (st8_kp _ _ _ _ _ _ _ _ _ _) (fun k hk => by omega)))
    · have HN : Hd (parse3 bs = ⟨3, x1, x2, [], tOrders bs 64 ((bs.length - 8) / 8), 0, 0, [], 0⟩) := hd (by unfold parse3; rw [if_pos ⟨by omega, hr0⟩, y2, y3])
      have hn0 : ((nx : Int) == 0) = false := by rw [beq_eq_false_iff_ne]; omega
      clear hGd
      subst he
      have hz : decide ((0 : Int) < 8 * (bs.length : Int) - (at3 : Int)) = false := decide_eq_false (by omega)
      have hz2 : ¬ ((at3 : Int) < 8 * (bs.length : Int)) := by omega
      clear hG hBd hF hF3 hF4 hC
      have Z3 := hd z3
      have Z4 := hd z4
      clear y1 y2 y3 z2 z3 z4 hr0
      go_wp2_with (first | (go_at_call 70; refine (rerr_any hR8).mono ?_; rintro e_ w9 ⟨rfl, rfl⟩) | (go_at_call 71; refine (left_any hR8).mono ?_; rintro e_ w9 ⟨rfl, m9, rfl⟩))
      refine (nOrders_any _ _ _ _ _ _ _ _ _ _ _ _ _ _ _).mono ?_
      rintro e_ w10 ⟨rfl, hK10⟩
      have Z10 := (Z8.drewN m9).kp hK10 trivial
      have hKh : Kp (fun _ => True) w w10 := (hKg.drewN m9).trans hK10
      have f10 := Z10.frozen
      have c10 := Z10.cell
      have q10 := ((hQ6.drewN m9).kp hK10 trivial).cell
      clear c8 fZ cZ cT8
      go_wp2
      refine bodyPost_ret (results_ct rfl _ _ (w.heap.size + 1) 52 _ (0, 0) _ rfl (st8_blk Z10 _ _ _ _ _ _ _ _) Try.underlying52 rfl (by kernel_rfl)) rfl ?_
      rw [HN.out]
      refine ⟨_, _, _, rfl, World.ownsRow_nil _ _ _ _, ?_, World.ownsRow_nil _ _ _ _, kp_far hKh (st8_kp _ _ _ _ _ _ _ _ _ _) (fun k hk => by omega)⟩
      have hOw := own_kp (own_kp hO8 ((Kp.refl (fun _ => True) _).drewN m9) (fun _ _ _ => trivial)) hK10 (fun _ _ _ => trivial)
      have hln : (tOrders bs 64 ((bs.length - 8) / 8)).length = nx := by rw [tOrders_length, Z3.out]
      show World.ownsRow _ _ _ _ _ (tOrders bs 64 ((bs.length - 8) / 8)).length (ocs (tOrders bs 64 ((bs.length - 8) / 8)))
      rw [hln, ← Z4.out]
      exact own_lo (own_kp hOw (st8_kp _ _ _ _ _ _ _ _ _ _) (fun g hg _ => by omega)) (by omega)
  · have HN : Hd (parse3 bs = PM.no 63) := hd (by unfold parse3; rw [if_neg]; rintro ⟨q1, q2⟩; exact he (hG (hF4.out (by omega) q2)).1)
    have hq : (e3 != 0) = true := by rw [bne_iff_ne]; exact he
    clear he
    clear hG hBd hF hF3 hF4 hC
    go_wp2_with (first | (go_at_call 70; refine (rerr_any hR8).mono ?_; rintro e_ w9 ⟨rfl, rfl⟩) | (go_at_call 71; refine (left_any hR8).mono ?_; rintro e_ w9 ⟨rfl, m9, rfl⟩))
    exact bodyPost_ret (results_ct rfl _ _ (w.heap.size + 1) 52 _ (0, 0) _ rfl (st8_blk Z8 _ _ _ _ _ _ _ _) Try.underlying52 rfl (by kernel_rfl)) rfl (by rw [HN.out]; exact PMs.no_ _ _ _ _ rfl (kp_far hKg (st8_kp _ _ _ _ _ _ _ _ _ _) (fun k hk => by omega)))
set_option maxHeartbeats 8000000 in
set_option maxRecDepth 100000 in
theorem parse4_any {w : World} {A : Option Addr} {n c : Nat} {bs : List Nat} (ct kd pd : Nat) (hs : Sl w (.slice A n c) (bv bs)) (hb : Bts bs) (hl : bs.length ≤ 1000000) (hso : sortOf kd ct = 4) :
    Calls Try.prog 25 #[.agg #[.int .u8 (ct : Int), .int .u8 (kd : Int), .slice A n c, .int .u8 (pd : Int)]] w fun e_ w' => PMs w w' e_ (parse4 bs) := by
  obtain ⟨w0, hw0⟩ : ∃ w0, w0 = (w.alloc (.cells #[.int .u8 (ct : Int), .int .u8 (kd : Int), .slice A n c, .int .u8 (pd : Int)] 40)).alloc (.cells #[.int .u8 0, .int .u32 0, .int .u32 0, .slice none 0 0, .slice none 0 0, .int .u8 0, .int .u32 0, .slice none 0 0] 52) := ⟨_, rfl⟩
  have hK0 : Kp (fun _ => True) w w0 := hw0 ▸ ((Kp.refl _ _).alloc _).alloc _
  have P0 : Blk w0 w.heap.size 40 #[.int .u8 (ct : Int), .int .u8 (kd : Int), .slice A n c, .int .u8 (pd : Int)] := hw0 ▸ (Blk.new w _ _).alloc _
  have Z0 : Blk w0 (w.heap.size + 1) 52 #[.int .u8 0, .int .u32 0, .int .u32 0, .slice none 0 0, .slice none 0 0, .int .u8 0, .int .u32 0, .slice none 0 0] := by
    have := Blk.new (w.alloc (.cells #[.int .u8 (ct : Int), .int .u8 (kd : Int), .slice A n c, .int .u8 (pd : Int)] 40)) 52 #[.int .u8 0, .int .u32 0, .int .u32 0, .slice none 0 0, .slice none 0 0, .int .u8 0, .int .u32 0, .slice none 0 0]
    rw [← hw0, World.size_alloc] at this
    exact this
  have cP := P0.cell
  go_enter Try.func25, Try.ntmps25
  go_upto_region 1 with (fail)
  rw [← hw0]
  clear hw0
  go_wp2_with fail
  refine (of_any _ ct kd pd _ ⟨_, _, _, rfl⟩).mono ?_
  rw [hso]
  rintro e_ w1 ⟨rfl, hK1⟩
  have P1 := P0.kp hK1 trivial
  have Z1 := Z0.kp hK1 trivial
  have hKa := hK0.trans hK1
  clear cP P0 Z0 hK0 hK1 hso
  have cP := P1.cell
  have hix := sort_ix4 .u8
  go_wp2_with fail
  refine (sorts_any _).mono ?_
  rintro e_ w2 ⟨rfl, hK2⟩
  have P2 := P1.kp hK2 trivial
  have Z2 := Z1.kp hK2 trivial
  have hKb := hKa.trans hK2
  clear cP P1 Z1 hKa hK2
  obtain ⟨w3, hw3⟩ : ∃ w3, w3 = w2.alloc (.cells #[.int .u8 206, .int .u8 15, .func (Fn.func 108) #[] #[], .func (Fn.func 109) #[] #[], .func (Fn.func 104) #[] #[]] 125) := ⟨_, rfl⟩
  have hK3 : Kp (fun _ => True) w2 w3 := hw3 ▸ (Kp.refl _ _).alloc _
  have T3 : Blk w3 w2.heap.size 125 #[.int .u8 206, .int .u8 15, .func (Fn.func 108) #[] #[], .func (Fn.func 109) #[] #[], .func (Fn.func 104) #[] #[]] := hw3 ▸ Blk.new w2 _ _
  have P3 := P2.kp hK3 trivial
  have Z3 := Z2.kp hK3 trivial
  have hKc := hKb.trans hK3
  have cP := P3.cell
  have hs2 := hKb.size
  have hs3 := hK3.size
  have hz2 := Z2.lt
  have ht3 := T3.lt
  clear P2 Z2 hKb hK3
  go_upto_region 5 with (fail)
  rw [← hw3]
  clear hw3 hix
  go_wp2_with fail
  refine (Of_any (hs.all hKc) hb (by omega)).mono ?_
  rintro e_ w4 ⟨p, v, rfl, hp, hR1, hv, hK4⟩
  have hs4 := hK4.size
  have hpl := hR1.blk.lt
  have T4 := T3.kp hK4 trivial
  have Z4 := Z3.kp hK4 trivial
  have hKd := hKc.trans hK4
  clear cP P3 T3 Z3 hKc hK4
  have hx1 := tVal_lt bs 0 0 32
  have hx2 := tVal_lt bs (tAt bs 0 0 ((32 : Nat) : Int)) (tErr 0 ((32 : Nat) : Int) (8 * bs.length - (0 : Nat))) 32
  have G1 := take_good (bs := bs) (a := 0) (n := 32) (by decide)
  have G2 := take_good (bs := bs) (a := 32) (n := 32) (by decide)
  have S1 := take_short (bs := bs) (a := 0) (n := 32)
  have S2 := take_short (bs := bs) (a := 32) (n := 32)
  generalize hX1 : tVal bs 0 0 ((32 : Nat) : Int) = x1 at *
  generalize hA1 : tAt bs 0 0 ((32 : Nat) : Int) = a1 at *
  generalize hE1 : tErr 0 ((32 : Nat) : Int) (8 * bs.length - (0 : Nat)) = e1 at *
  generalize hX2 : tVal bs a1 e1 ((32 : Nat) : Int) = x2 at *
  generalize hA2 : tAt bs a1 e1 ((32 : Nat) : Int) = a2 at *
  generalize hE2 : tErr e1 ((32 : Nat) : Int) (8 * bs.length - a1) = e2 at *
  have hC : Hd ((8 ≤ bs.length ∧ e2 = 0 ∧ a2 = 64 ∧ x1 = vl bs 0 32 ∧ x2 = vl bs 32 32) ∨ (bs.length < 8 ∧ e2 ≠ 0)) := hd (by
    by_cases h8 : 8 ≤ bs.length
    · obtain ⟨q1, q2, q3⟩ := G1 (by omega)
      have q2' : a1 = 32 := q2
      subst q2' q3
      obtain ⟨q4, q5, q6⟩ := G2 (by omega)
      exact .inl ⟨h8, hE2.symm.trans q6, hA2.symm.trans q5, q1, hX2.symm.trans q4⟩
    · refine .inr ⟨by omega, ?_⟩
      rw [← hE2]
      by_cases h4 : 4 ≤ bs.length
      · obtain ⟨_, q2, q3⟩ := G1 (by omega)
        have q2' : a1 = 32 := q2
        subst q2' q3
        exact S2 (by omega) 0
      · exact take_err (fun h => S1 (by omega) 0 (hE1.trans h)))
  clear G1 G2 S1 S2
  have f1 : IntKind.u32.wrap (x1 : Int) = x1 := IntWalk.u32_in _ (by omega)
  have f2 : IntKind.u32.wrap (x2 : Int) = x2 := IntWalk.u32_in _ (by omega)
  go_wp2_with fail
  refine (Take_all hR1 ((32 : Nat) : Int)).mono ?_
  rw [hX1, hA1, hE1]
  rintro e_ w5 ⟨rfl, hR2, hK5⟩
  go_wp2_with fail
  refine (Take_all hR2 ((32 : Nat) : Int)).mono ?_
  rw [hX2, hA2, hE2]
  rintro e_ w6 ⟨rfl, hR3, hK6⟩
  have hpT : w2.heap.size ≠ p := by omega
  have hpZ : w.heap.size + 1 ≠ p := by omega
  have T6 := (T4.kp hK5 hpT).kp hK6 hpT
  have Z6 := (Z4.kp hK5 hpZ).kp hK6 hpZ
  have hKe : Kp (fun _ => True) w w6 := kp_far (kp_far hKd hK5 (fun k hk => by omega)) hK6 (fun k hk => by omega)
  have hs6 : w4.heap.size ≤ w6.heap.size := Nat.le_trans hK5.size hK6.size
  clear hX1 hA1 hE1 hX2 hA2 hE2 hR1 hR2 hK5 hK6 T4 Z4 hKd
  obtain ⟨w7, hw7⟩ : ∃ w7, w7 = w6.alloc (.cells #[.int .u8 4, .int .u32 (x1 : Int), .int .u32 (x2 : Int), .slice none 0 0, .slice none 0 0, .int .u8 0, .int .u32 0, .slice none 0 0] 52) := ⟨_, rfl⟩
  have hR4 := hw7 ▸ hR3.alloc (.cells #[.int .u8 4, .int .u32 (x1 : Int), .int .u32 (x2 : Int), .slice none 0 0, .slice none 0 0, .int .u8 0, .int .u32 0, .slice none 0 0] 52)
  have hQ5 : Blk w7 w6.heap.size 52 _ := hw7 ▸ Blk.new w6 _ #[.int .u8 4, .int .u32 (x1 : Int), .int .u32 (x2 : Int), .slice none 0 0, .slice none 0 0, .int .u8 0, .int .u32 0, .slice none 0 0]
  have T7 : Blk w7 w2.heap.size 125 _ := hw7 ▸ T6.alloc _
  have Z7 : Blk w7 (w.heap.size + 1) 52 _ := hw7 ▸ Z6.alloc _
  have hKf : Kp (fun _ => True) w w7 := hw7 ▸ hKe.alloc _
  have hpq : p ≠ w6.heap.size := by omega
  have hvq : v.ownBlock ≠ some w6.heap.size := fun e => by have := hR3.vlt _ e; omega
  have cT := T7.cell
  have hs7 : w6.heap.size + 1 = w7.heap.size := by rw [hw7]; simp
  clear hR3 T6 Z6 hKe hv
  go_upto_region 7 with (fail)
  rw [← hw7]
  clear hw7 f1 f2
  clear hs hb
  go_wp2_with fail
  refine (takeRate_any hR4 hpq hvq _ _ _ _ _ ⟨_, _, _, rfl⟩ ⟨_, _, _, rfl⟩ hQ5).mono ?_
  rintro e_ w6_ ⟨rfl, at3, e3, vx, nx, xs, E, M, hTK, hQ6, hG, hBd⟩
  clear cT
  have hR8 := hTK.rd
  have hO8 := hTK.own
  have hTS := hTK.kp.size
  have T8 := T7.kp hTK.kp ⟨by omega, by omega⟩
  have Z8 := Z7.kp hTK.kp ⟨by omega, by omega⟩
  have hKg : Kp (fun _ => True) w w6_ := kp_far hKf hTK.kp (fun k hk => ⟨by omega, by omega⟩)
  have hle := hR8.le
  clear hR4 hQ5 T7 Z7 hTK
  obtain ⟨Ax, cx, rfl⟩ : ∃ A c, vx = .slice A nx c := by
    obtain ⟨A, c, e⟩ := own_slice hO8
    exact ⟨A, c, e⟩
  have c8 := hQ6.cell
  have fZ := Z8.frozen
  have cZ := Z8.cell
  have cT8 := fun m => (T8.drewN m).cell
  have c8m := fun m => (hQ6.drewN m).cell
  have fZm := fun m => (Z8.drewN m).frozen
  have cZm := fun m => (Z8.drewN m).cell
  have cT0 := T8.cell
  have hF : Hd (e3 = 0 → e2 = 0 ∧ a2 = 64 ∧ x1 = vl bs 0 32 ∧ x2 = vl bs 32 32 ∧ RateOk bs 64 0) := hd (fun z => by
    have hR : RateOk bs a2 e2 := Classical.byContradiction fun hn => hBd hn z
    rcases hC.out with ⟨y1, y2, y3, y4, y5⟩ | ⟨_, y2⟩
    · subst y2 y3
      exact ⟨rfl, rfl, y4, y5, hR⟩
    · exact absurd hR.1 y2)
  have hF2 : Hd (Rem bs → e3 = 0 ∧ at3 = 8 * bs.length) := hd (fun z => by
    obtain ⟨q1, q2, q3⟩ := z
    rcases hC.out with ⟨y1, y2, y3, y4, y5⟩ | ⟨y1, y2⟩
    · subst y2 y3
      have q3' : bs.length = 16 + 4 * vl bs (64 + 32) 8 := q3
      have := hG ⟨rfl, by omega, q2, by omega⟩
      exact ⟨this.1, by omega⟩
    · omega)
  by_cases he : e3 = 0
  · by_cases hl8 : at3 = 8 * bs.length
    · obtain ⟨y1, y2, y3, y4, y5⟩ := hF.out he
      subst y1 y2
      obtain ⟨z1, z2, z3, z4, z5, z6⟩ := hG y5
      have hRm : Rem bs := ⟨by have := y5.2.1; omega, y5.2.2.1, (by omega : bs.length = 16 + 4 * vl bs (64 + 32) 8)⟩
      have HN : Hd (parse4 bs = ⟨4, x1, x2, [], [], vl bs 104 6, vl bs 110 18, tSrc bs 128 (vl bs 96 8), 0⟩) := hd (by unfold parse4; rw [if_pos hRm, y3, y4])
      subst z5 z6
      clear z1 y5 hRm
      subst he
      have hz : decide ((0 : Int) < 8 * (bs.length : Int) - (at3 : Int)) = false := decide_eq_false (by omega)
      have hz2 : ¬ ((at3 : Int) < 8 * (bs.length : Int)) := by omega
      clear hG hBd hF hF2 hC
      have Z3 := hd z3
      have Z4 := hd z4
      clear y3 y4 z2 z3 z4 hl8
      go_wp2_with (first | (go_at_call 70; refine (rerr_any hR8).mono ?_; rintro e_ w9 ⟨rfl, rfl⟩) | (go_at_call 71; refine (left_any hR8).mono ?_; rintro e_ w9 ⟨rfl, m9, rfl⟩))
      refine (nOne_any _ _ _ _ _ _ _ _ _ _ _ _ _ _ _).mono ?_
      rintro e_ w10 ⟨rfl, hK10⟩
      have Z10 := (Z8.drewN m9).kp hK10 trivial
      have hKh : Kp (fun _ => True) w w10 := (hKg.drewN m9).trans hK10
      have f10 := Z10.frozen
      have c10 := Z10.cell
      have q10 := ((hQ6.drewN m9).kp hK10 trivial).cell
      clear c8 fZ cZ cT8
      go_wp2
      refine bodyPost_ret (results_ct rfl _ _ (w.heap.size + 1) 52 _ (0, 0) _ rfl (st8_blk Z10 _ _ _ _ _ _ _ _) Try.underlying52 rfl (by kernel_rfl)) rfl ?_
      rw [HN.out]
      refine ⟨_, _, _, rfl, World.ownsRow_nil _ _ _ _, World.ownsRow_nil _ _ _ _, ?_, kp_far hKh (st8_kp _ _ _ _ _ _ _ _ _ _) (fun k hk => by omega)⟩
      have hOw := own_kp (own_kp hO8 ((Kp.refl (fun _ => True) _).drewN m9) (fun _ _ _ => trivial)) hK10 (fun _ _ _ => trivial)
      have hln : (tSrc bs 128 (vl bs 96 8)).length = nx := by rw [tSrc_length, Z3.out]
      show World.ownsRow _ _ _ _ _ (tSrc bs 128 (vl bs 96 8)).length (scs (tSrc bs 128 (vl bs 96 8)))
      rw [hln, ← Z4.out]
      exact own_lo (own_kp hOw (st8_kp _ _ _ _ _ _ _ _ _ _) (fun g hg _ => by omega)) (by omega)
    · have HN : Hd (parse4 bs = PM.no 63) := hd (by unfold parse4; rw [if_neg]; intro q1; exact hl8 (hF2.out q1).2)
      subst he
      have hz : decide ((0 : Int) < 8 * (bs.length : Int) - (at3 : Int)) = true := decide_eq_true (by omega)
      have hz2 : (at3 : Int) < 8 * (bs.length : Int) := by omega
      clear hG hBd hF hF2 hC
      go_wp2_with (first | (go_at_call 70; refine (rerr_any hR8).mono ?_; rintro e_ w9 ⟨rfl, rfl⟩) | (go_at_call 71; refine (left_any hR8).mono ?_; rintro e_ w9 ⟨rfl, m9, rfl⟩))
      exact bodyPost_ret (results_ct rfl _ _ (w.heap.size + 1) 52 _ (0, 0) _ rfl (st8_blk (Z8.drewN m9) _ _ _ _ _ _ _ _) Try.underlying52 rfl (by kernel_rfl)) rfl (by rw [HN.out]; exact PMs.no_ _ _ _ _ rfl (kp_far (hKg.drewN m9) (st8_kp _ _ _ _ _ _ _ _ _ _) (fun k hk => by omega)))
  · have HN : Hd (parse4 bs = PM.no 63) := hd (by unfold parse4; rw [if_neg]; intro q1; exact he (hF2.out q1).1)
    have hq : (e3 != 0) = true := by rw [bne_iff_ne]; exact he
    clear he
    clear hG hBd hF hF2 hC
    go_wp2_with (first | (go_at_call 70; refine (rerr_any hR8).mono ?_; rintro e_ w9 ⟨rfl, rfl⟩) | (go_at_call 71; refine (left_any hR8).mono ?_; rintro e_ w9 ⟨rfl, m9, rfl⟩))
    exact bodyPost_ret (results_ct rfl _ _ (w.heap.size + 1) 52 _ (0, 0) _ rfl (st8_blk Z8 _ _ _ _ _ _ _ _) Try.underlying52 rfl (by kernel_rfl)) rfl (by rw [HN.out]; exact PMs.no_ _ _ _ _ rfl (kp_far hKg (st8_kp _ _ _ _ _ _ _ _ _ _) (fun k hk => by omega)))
theorem sortOf_lt5 (kd ct : Nat) : sortOf kd ct = 0 ∨ sortOf kd ct = 1 ∨ sortOf kd ct = 2 ∨ sortOf kd ct = 3 ∨ sortOf kd ct = 4 := by
  have := sortOf_le kd ct
  omega
/-- feedback.Parse, for all packets. -/
theorem parse_any {w : World} {A : Option Addr} {n c : Nat} {bs : List Nat} (ct kd pd : Nat) (hs : Sl w (.slice A n c) (bv bs)) (hb : Bts bs) (hl : bs.length ≤ 1000000) :
    Calls Try.prog 25 #[.agg #[.int .u8 (ct : Int), .int .u8 (kd : Int), .slice A n c, .int .u8 (pd : Int)]] w fun e_ w' => PMs w w' e_ (parseP kd ct bs) := by
  unfold parseP
  rcases sortOf_lt5 kd ct with h | h | h | h | h <;> rw [h]
  · exact parse0_any ct kd pd hs hb hl h
  · exact parse1_any ct kd pd hs hb hl h
  · exact parse2_any ct kd pd hs hb hl h
  · exact parse3_any ct kd pd hs hb hl h
  · exact parse4_any ct kd pd hs hb hl h
end Go.Proofs.Ytjcejgolcdgipaa.K7
