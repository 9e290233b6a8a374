/- Texts of this session, one behind the other, what the row does not use left out: walks and laws over plain data. -/
import Derived.Test.YtjcejgolcdgipaaPFR9

namespace Go.Proofs.Ytjcejgolcdgipaa.K7
open Go.RowKit Go.Proofs.YtjcejgolcdgipaaW.PrintWords Go.Proofs.YtjcejgolcdgipaaW.PrintLast Go.Proofs.YtjcejgolcdgipaaW.PrintMore
set_option linter.unusedVariables false
set_option linter.unusedSimpArgs false

set_option maxHeartbeats 8000000 in
set_option maxRecDepth 100000 in
theorem rparse3_any {w : World} {A : Option Addr} {n c : Nat} {bs : List Nat} (ct kd pd : Nat) (hs : Sl w (.slice A n c) (bv bs)) (hn : n = bs.length) (hb : Bts bs) (hl : bs.length ≤ 1000000) (hso : sortOf kd ct = 3) :
    Calls Try.prog 24 #[.agg #[.int .u8 (ct : Int), .int .u8 (kd : Int), .slice A n c, .int .u8 (pd : Int)]] w fun e_ w' => PMr w w' e_ (parse3 bs) := by
  subst hn
  obtain ⟨w0, hw0⟩ : ∃ w0, w0 = (w.alloc (.cells #[.int .u8 (ct : Int), .int .u8 (kd : Int), .slice A bs.length c, .int .u8 (pd : Int)] 41)).alloc (.cells #[.int .u8 0, .int .u32 0, .int .u32 0, .slice none 0 0, .slice none 0 0, .int .u8 0, .int .u32 0, .slice none 0 0] 46) := ⟨_, rfl⟩
  have hK0 : Kp (fun _ => True) w w0 := hw0 ▸ ((Kp.refl _ _).alloc _).alloc _
  have P0 : Blk w0 w.heap.size 41 #[.int .u8 (ct : Int), .int .u8 (kd : Int), .slice A bs.length c, .int .u8 (pd : Int)] := hw0 ▸ (Blk.new w _ _).alloc _
  have Z0 : Blk w0 (w.heap.size + 1) 46 #[.int .u8 0, .int .u32 0, .int .u32 0, .slice none 0 0, .slice none 0 0, .int .u8 0, .int .u32 0, .slice none 0 0] := by
    have := Blk.new (w.alloc (.cells #[.int .u8 (ct : Int), .int .u8 (kd : Int), .slice A bs.length c, .int .u8 (pd : Int)] 41)) 46 #[.int .u8 0, .int .u32 0, .int .u32 0, .slice none 0 0, .slice none 0 0, .int .u8 0, .int .u32 0, .slice none 0 0]
    rw [← hw0, World.size_alloc] at this
    exact this
  have cP := P0.cell
  go_enter Try.func24, Try.ntmps24
  go_upto_region 1 with (fail)
  rw [← hw0]
  clear hw0
  go_wp2_with fail
  refine (rSort_any _ ct kd pd _ _ _).mono ?_
  rw [hso]
  rintro e_ w1 ⟨rfl, hK1⟩
  have Z1 := Z0.kp hK1 trivial
  have hKa := hK0.trans hK1
  clear cP P0 Z0 hK0 hK1 hso
  obtain ⟨w2, hw2⟩ : ∃ w2, w2 = w1.alloc (.cells #[.int .u8 3, .int .u32 0, .int .u32 0, .slice none 0 0, .slice none 0 0, .int .u8 0, .int .u32 0, .slice none 0 0] 46) := ⟨_, rfl⟩
  have hKb : Kp (fun _ => True) w w2 := hw2 ▸ hKa.alloc _
  have Z2 : Blk w2 (w.heap.size + 1) 46 _ := hw2 ▸ Z1.alloc _
  have M2 : Blk w2 w1.heap.size 46 _ := hw2 ▸ Blk.new w1 _ #[.int .u8 3, .int .u32 0, .int .u32 0, .slice none 0 0, .slice none 0 0, .int .u8 0, .int .u32 0, .slice none 0 0]
  have hz := Z1.lt
  have hz2 := M2.lt
  have cM := M2.cell
  have fM := M2.frozen
  go_upto_region 3 with (fail)
  rw [← hw2]
  clear hw2 hKa Z1
  generalize w1.heap.size = q at *
  have hq1 : w.heap.size + 1 < q := hz
  have hsl := hs.all hKb
  by_cases h8 : 8 ≤ bs.length
  · have g8 : decide ((bs.length : Int) < 8) = false := decide_eq_false (by omega)
    obtain ⟨g, off, rfl, hg, _⟩ := hs.at_ (bv_getD bs 0 (by omega))
    have hgq : (Value.slice (some ⟨g, off, none⟩) bs.length c).ownBlock ≠ some q := by
      simp [Value.ownBlock]
      omega
    go_wp2_with fail
    refine (four_any hsl rfl hb hl 0 0 rfl (by omega) (vl bs 0 32) rfl).mono ?_
    rintro e_ w3 ⟨rfl, hw3⟩
    rw [hw3]
    clear hw3 w3
    go_wp2_with fail
    refine (four_any (hsl.far (p := ⟨q, 1, none⟩) hgq _) rfl hb hl 4 4 rfl (by omega) (vl bs 32 32) rfl).mono ?_
    rintro e_ w3_ ⟨rfl, rfl⟩
    have M3 := M2.set 1 (.int .u32 (vl bs 0 32 : Nat))
    simp only [List.setIfInBounds_toArray, List.set_cons_zero, List.set_cons_succ] at M3
    have c3 := M3.cell
    have f3 := M3.frozen
    have M4 := M3.set 2 (.int .u32 (vl bs 32 32 : Nat))
    simp only [List.setIfInBounds_toArray, List.set_cons_zero, List.set_cons_succ] at M4
    have Z4 := (Z2.far (p := ⟨q, 1, none⟩) (Nat.ne_of_lt hq1) (.int .u32 (vl bs 0 32 : Nat))).far (p := ⟨q, 2, none⟩) (Nat.ne_of_lt hq1) (.int .u32 (vl bs 32 32 : Nat))
    have S4 := (hsl.far (p := ⟨q, 1, none⟩) hgq (.int .u32 (vl bs 0 32 : Nat))).far (p := ⟨q, 2, none⟩) hgq (.int .u32 (vl bs 32 32 : Nat))
    have K4 : Kp (fun _ => True) w _ := kp_far hKb (((Kp.refl (· ≠ q) w2).set_ (i := 1) (u := .int .u32 (vl bs 0 32 : Nat))).set_ (i := 2) (u := .int .u32 (vl bs 32 32 : Nat))) (fun k hk => by omega)
    have c4 := M4.cell
    have f4 := M4.frozen
    clear cM fM hsl
    by_cases hf1 : 8 ≤ bs.length - 8
    · by_cases hf2 : (bs.length - 8) % 8 = 0
      · have ga : decide ((8 : Int) ≤ (bs.length : Int) - 8) = true := decide_eq_true (by omega)
        have gb : (((bs.length : Int) - 8).tmod 8 == 0) = true := by rw [Int.tmod_eq_emod_of_nonneg (by omega), beq_iff_eq]; omega
        have gc : (((bs.length : Int) - 8) % 8 == 0) = true := by rw [beq_iff_eq]; omega
        have gd : ((bs.length : Int) % 8 == 0) = true := by rw [beq_iff_eq]; omega
        have ge : ((bs.length : Int) - 8) % 8 = 0 := by omega
        have gf : (bs.length : Int) % 8 = 0 := by omega
        have HN : Hd (parse3 bs = ⟨3, vl bs 0 32, vl bs 32 32, [], tOrders bs 64 ((bs.length - 8) / 8), 0, 0, [], 0⟩) := hd (by unfold parse3; rw [if_pos ⟨by omega, by omega⟩])
        obtain ⟨K, hK1, hK2, hKd⟩ : ∃ K, bs.length ≤ 8 + 8 * K ∧ 8 + 8 * K ≤ bs.length ∧ K = (bs.length - 8) / 8 := ⟨(bs.length - 8) / 8, by omega, by omega, rfl⟩
        have HKD := hd hKd
        clear hKd
        obtain ⟨i0, hi0, hz0, hz1, hz2⟩ := info_parts infoROrder
        go_wp2
        clear c4 f4 c3 f3 M3
        obtain ⟨w4, hw4⟩ : ∃ w4, w4 = ((w2.setCell ⟨q, 1, none⟩ (.int .u32 (vl bs 0 32 : Nat))).setCell ⟨q, 2, none⟩ (.int .u32 (vl bs 32 32 : Nat))) := ⟨_, rfl⟩
        rw [← hw4] at M4 Z4 S4 K4 ⊢
        clear hw4
        simp only [ge]
        have hq4 := M4.lt
        have hs4 := K4.size
        have hz4 := Z4.lt
        go_loopw [9] (fun iv wr => ∃ (j : Nat) (ov : Value), j ≤ K ∧ iv = .int .i64 ((8 + 8 * j : Nat) : Int) ∧ RK w4 wr q 119 2 ov j (ocs (tOrders bs 64 j)) ∧ Blk wr q 46 #[.int .u8 3, .int .u32 (vl bs 0 32 : Nat), .int .u32 (vl bs 32 32 : Nat), .slice none 0 0, ov, .int .u8 0, .int .u32 0, .slice none 0 0]) (fun iv _ => bs.length - (intOf iv).toNat)
        case atStart => exact ⟨0, .slice none 0 0, Nat.zero_le _, rfl, ⟨World.ownsRow_nil _ _ _ _, Kp.refl _ _⟩, M4⟩
        case round =>
          obtain ⟨j, ov, hj, rfl, hR_, hB⟩ := hrel
          obtain ⟨Ao, co, rfl⟩ : ∃ A c, ov = .slice A j c := by
            obtain ⟨A, c, e⟩ := own_slice hR_.own
            exact ⟨A, c, e⟩
          have hsr0 := S4.kp hR_.kp (fun _ g' hg' _ => by rintro rfl; exact hgq hg')
          by_cases hlt : j < K
          · have glt : decide (((8 + 8 * j : Nat) : Int) < (bs.length : Int)) = true := decide_eq_true (by omega)
            have hsr : Sl wr.drew (.slice (some ⟨g, off, none⟩) bs.length c) (bv bs) := hsr0
            obtain ⟨x1, x2, hR, hx1, hx2, hv8, l1, l2⟩ := order_vals bs hb j
            obtain ⟨_, _, he, _, hcx⟩ := hsr.at_ (bv_getD bs (8 + 8 * j + 4) (by omega))
            injection he with he
            injection he with he1 he2
            subst he1 he2
            rw [hv8.out] at hcx
            obtain ⟨m, hm⟩ : ∃ m, m = 8 + 8 * j + 4 := ⟨_, rfl⟩
            rw [← hm] at hcx
            have hmw : IntKind.i64.wrap (8 + 8 * (j : Int) + 4) = (m : Int) := by rw [IntWalk.i64_in _ (by omega)]; omega
            have hm1 : m < bs.length := by omega
            have hm2 : (m : Int) < (bs.length : Int) := by omega
            have hcx : wr.cell? ⟨g, off + m, none⟩ = some (.int .u8 (x2 : Int)) := hcx
            clear hm hv8
            have g3 : wr.drew.cell? ⟨q, 4, none⟩ = some (.slice Ao j co) := hB.cell 4
            have g5 : (wr.alloc (.cells #[.int .u32 (x1 : Int), .int .u8 (x2 : Int)] 119)).cell? ⟨q, 4, none⟩ = some (.slice Ao j co) := (hB.alloc (.cells #[.int .u32 (x1 : Int), .int .u8 (x2 : Int)] 119)).cell 4
            have hO6 := own_kp hR_.own (((Kp.refl (fun _ => True) wr).drew).alloc (.cells #[.int .u32 (x1 : Int), .int .u8 (x2 : Int)] 119)) (fun _ _ _ => trivial)
            have hN6 := new_cells wr.drew 119 [.int .u32 (x1 : Int), .int .u8 (x2 : Int)]
            have HT : Hd (ocs (tOrders bs 64 (j + 1)) = ocs (tOrders bs 64 j) ++ [.int .u32 (x1 : Int), .int .u8 (x2 : Int)]) := hd (by rw [tOrders, ocs_append, ocs_one, hx1.out, hx2.out])
            have hSz := hR_.kp.size
            have hwr : wr.drew.heap.size = wr.heap.size := rfl
            go_wp2_with fail
            go_region_law (first
              | (go_simp; go_at_call 65; refine (four_any hsr rfl hb hl _ (8 + 8 * j) (by omega) (by omega) x1 hR).mono ?_; rintro e_ w5 ⟨rfl, rfl⟩)
              | (refine step_append_lies (w := wr.drew.alloc (.cells #[.int .u32 (x1 : Int), .int .u8 (x2 : Int)] 119)) rfl (.tmp 91) (.tmp 101) 43 rfl w4.heap.size 119 i0 _ 2 8 Try.underlying43 hi0 hz0 hz1 hz2 rfl (by decide) (.slice Ao j co) j (ocs (tOrders bs 64 j)) rfl hO6 ⟨wr.drew.heap.size, 0, none⟩ 1 1 [.int .u32 (x1 : Int), .int .u8 (x2 : Int)] rfl rfl hN6 (order_one _ _) (by decide) (by unfold maxLen; omega) (by omega) (by simp; omega) _ rfl ?_; intro g9 c9 w9 ho9 hg9 hl9 hlt9; have hB9 := (hB.drew.alloc (.cells #[.int .u32 (x1 : Int), .int .u8 (x2 : Int)] 119)).grown hg9 (by intro e; have := (hO6.lt _ e.symm).1; omega); have f9 := hB9.frozen 4; have c9_ := hB9.cell 4))
            all_goals
              have hKn := hR_.append hq4 (.cells #[.int .u32 (x1 : Int), .int .u8 (x2 : Int)] 119) hg9 ho9 4 (.slice (some ⟨g9, 0, none⟩) (j + 1) c9)
              rw [← HT.out] at hKn
              have hBn := hB9.set 4 (.slice (some ⟨g9, 0, none⟩) (j + 1) c9)
              simp only [List.setIfInBounds_toArray, List.set_cons_zero, List.set_cons_succ] at hBn
              go_wp2
              go_roundw
              case rel =>
                first
                  | exact ⟨j + 1, .slice (some ⟨g9, 0, none⟩) (j + 1) c9, by omega, by go_num, hKn, hBn⟩
                  | exact ⟨_, j + 1, .slice (some ⟨g9, 0, none⟩) (j + 1) c9, by omega, by go_num, hKn, hBn⟩
                  | exact ⟨j + 1, .slice (some ⟨g9, 0, none⟩) (j + 1) c9, by omega, by go_num; omega, hKn, hBn⟩
                  | (trace_state; sorry)
              case measure => simp [intOf]; omega
          · obtain rfl : j = K := by omega
            have glt : decide (((8 + 8 * j : Nat) : Int) < (bs.length : Int)) = false := decide_eq_false (by omega)
            have cB := hB.cell
            have fB := hB.frozen
            have Z5 := Z4.kp hR_.kp (Nat.ne_of_lt hq1)
            have cZ := Z5.cell
            have fZ := Z5.frozen
            have hK5 : Kp (fun _ => True) w wr := kp_far K4 hR_.kp (fun k hk => by omega)
            go_wp2
            refine bodyPost_ret (results_ct rfl _ _ (w.heap.size + 1) 46 _ (0, 0) _ rfl (st8_blk Z5 _ _ _ _ _ _ _ _) Try.underlying46 rfl (by kernel_rfl)) rfl ?_
            rw [HN.out, ← HKD.out]
            refine ⟨.slice none 0 0, .slice Ao j co, .slice none 0 0, rfl, World.ownsRow_nil _ _ _ _, ?_, World.ownsRow_nil _ _ _ _, kp_far hK5 (st8_kp _ _ _ _ _ _ _ _ _ _) (fun k hk => by omega)⟩
            rw [tOrders_length]
            exact own_lo (own_kp hR_.own (st8_kp _ _ _ _ _ _ _ _ _ _) (fun g hg _ => by show g ≠ w.heap.size + 1; omega)) hs4
      · have HN : Hd (parse3 bs = PM.no 63) := hd (by unfold parse3; rw [if_neg]; rintro ⟨q1, q2⟩; omega)
        have ga : decide ((8 : Int) ≤ (bs.length : Int) - 8) = true := decide_eq_true (by omega)
        have gb : (((bs.length : Int) - 8).tmod 8 == 0) = false := by rw [Int.tmod_eq_emod_of_nonneg (by omega), beq_eq_false_iff_ne]; omega
        have gc : (((bs.length : Int) - 8) % 8 == 0) = false := by rw [beq_eq_false_iff_ne]; omega
        have gd : ((bs.length : Int) % 8 == 0) = false := by rw [beq_eq_false_iff_ne]; omega
        clear hs
        go_wp2
        clear c4 f4 c3 f3 M3
        go_loopw [9] (fun iv wr => wr = ((w2.setCell ⟨q, 1, none⟩ (.int .u32 (vl bs 0 32 : Nat))).setCell ⟨q, 2, none⟩ (.int .u32 (vl bs 32 32 : Nat))) ∧ iv = .int .i64 8) (fun iv _ => (intOf iv).toNat)
        case atStart => exact ⟨rfl, rfl⟩
        case round =>
          obtain ⟨rfl, rfl⟩ := hrel
          have cZ := Z4.cell
          have fZ := Z4.frozen
          go_wp2
          exact bodyPost_ret (results_ct rfl _ _ (w.heap.size + 1) 46 _ (0, 0) _ rfl (st8_blk Z4 _ _ _ _ _ _ _ _) Try.underlying46 rfl (by kernel_rfl)) rfl (by rw [HN.out]; exact PMr.no_ _ _ _ _ rfl (kp_far K4 (st8_kp _ _ _ _ _ _ _ _ _ _) (fun k hk => by omega)))
    · have HN : Hd (parse3 bs = PM.no 63) := hd (by unfold parse3; rw [if_neg]; rintro ⟨q1, q2⟩; omega)
      have ga : decide ((8 : Int) ≤ (bs.length : Int) - 8) = false := decide_eq_false (by omega)
      clear hs
      go_wp2
      clear c4 f4 c3 f3 M3
      go_loopw [9] (fun iv wr => wr = ((w2.setCell ⟨q, 1, none⟩ (.int .u32 (vl bs 0 32 : Nat))).setCell ⟨q, 2, none⟩ (.int .u32 (vl bs 32 32 : Nat))) ∧ iv = .int .i64 8) (fun iv _ => (intOf iv).toNat)
      case atStart => exact ⟨rfl, rfl⟩
      case round =>
        obtain ⟨rfl, rfl⟩ := hrel
        have cZ := Z4.cell
        have fZ := Z4.frozen
        go_wp2
        exact bodyPost_ret (results_ct rfl _ _ (w.heap.size + 1) 46 _ (0, 0) _ rfl (st8_blk Z4 _ _ _ _ _ _ _ _) Try.underlying46 rfl (by kernel_rfl)) rfl (by rw [HN.out]; exact PMr.no_ _ _ _ _ rfl (kp_far K4 (st8_kp _ _ _ _ _ _ _ _ _ _) (fun k hk => by omega)))
  · have g8 : decide ((bs.length : Int) < 8) = true := decide_eq_true (by omega)
    have HN : Hd (parse3 bs = PM.no 63) := hd (by unfold parse3; rw [if_neg (by omega)])
    have cZ := Z2.cell
    have fZ := Z2.frozen
    clear hs
    go_wp2
    exact bodyPost_ret (results_ct rfl _ _ (w.heap.size + 1) 46 _ (0, 0) _ rfl (st8_blk Z2 _ _ _ _ _ _ _ _) Try.underlying46 rfl (by kernel_rfl)) rfl (by rw [HN.out]; exact PMr.no_ _ _ _ _ rfl (kp_far hKb (st8_kp _ _ _ _ _ _ _ _ _ _) (fun k hk => by omega)))
end Go.Proofs.Ytjcejgolcdgipaa.K7
