/- Texts of this session, one behind the other, what the row does not use left out: walks and laws over plain data. -/
import Derived.Test.YtjcejgolcdgipaaPFR9

namespace Go.Proofs.Ytjcejgolcdgipaa.K7
open Go.RowKit Go.Proofs.YtjcejgolcdgipaaW.PrintWords Go.Proofs.YtjcejgolcdgipaaW.PrintLast Go.Proofs.YtjcejgolcdgipaaW.PrintMore
set_option linter.unusedVariables false
set_option linter.unusedSimpArgs false

/-- The four bytes at 8 as text. -/
theorem remb_str (bs : List Nat) (hb : Bts bs) (h : 12 ≤ bs.length) : (strOfNums (ib ((bs.drop 8).take 4))).toList = [82, 69, 77, 66] ↔ vl bs 64 32 = rembN := by
  have hv := valB_vl hb 8 4 (by omega)
  rw [show 8 * 8 = 64 from rfl, show 8 * 4 = 32 from rfl] at hv
  obtain ⟨a, b, c, d, he⟩ : ∃ a b c d, (bs.drop 8).take 4 = [a, b, c, d] := by
    have hl : ((bs.drop 8).take 4).length = 4 := by rw [List.length_take, List.length_drop]; omega
    generalize (bs.drop 8).take 4 = l at hl
    match l, hl with
    | [a, b, c, d], _ => exact ⟨a, b, c, d, rfl⟩
  have hB : Bts [a, b, c, d] := he ▸ ((hb.drop 8).take 4)
  have ha := hB a (by simp)
  have hb' := hB b (by simp)
  have hc := hB c (by simp)
  have hd' := hB d (by simp)
  rw [he] at hv ⊢
  rw [← hv]
  have hval : valB [a, b, c, d] = ((a * 256 + b) * 256 + c) * 256 + d := by simp [valB]
  have hrn : rembN = 1380273474 := rfl
  rw [hval, ByteArray.toList_eq, strOfNums_data]
  constructor
  · intro hz
    have hz := congrArg (fun x : List UInt8 => x.map (fun u : UInt8 => u.toNat)) hz
    have hz' : [a % 256, b % 256, c % 256, d % 256] = [82, 69, 77, 66] := by simpa [ib] using hz
    simp only [List.cons.injEq] at hz'
    obtain ⟨q1, q2, q3, q4, _⟩ := hz'
    omega
  · intro hq
    obtain rfl : a = 82 := by omega
    obtain rfl : b = 69 := by omega
    obtain rfl : c = 77 := by omega
    obtain rfl : d = 66 := by omega
    rfl
theorem rate_vals (bs : List Nat) : ∃ X Y E M : Nat, vl bs (8 * 12) 32 = X ∧ Hd (vl bs 104 6 = E) ∧ Hd (vl bs 110 18 = M) ∧ X < 4294967296 ∧ Y < 16777216 ∧ E < 64 ∧ M < 262144 ∧
    (X : Int) % 16777216 = (Y : Int) ∧ Int.tmod (X : Int) 16777216 = (Y : Int) ∧ (Y : Int) / 262144 = (E : Int) ∧ Int.tdiv (Y : Int) 262144 = (E : Int) ∧ (Y : Int) % 262144 = (M : Int) ∧ Int.tmod (Y : Int) 262144 = (M : Int) ∧ IntKind.u8.wrap (E : Int) = (E : Int) ∧ IntKind.u32.wrap (E : Int) = (E : Int) := by
  obtain ⟨v1, v2⟩ := vl_split bs 96 8 24
  obtain ⟨v3, v4⟩ := vl_split bs 104 6 18
  have l1 := vl_lt bs 96 (8 + 24)
  have l2 := vl_lt bs 104 (6 + 18)
  have l3 := vl_lt bs 104 6
  have l4 := vl_lt bs 110 18
  refine ⟨vl bs 96 (8 + 24), vl bs 104 (6 + 18), vl bs 104 6, vl bs 110 18, rfl, hd rfl, hd rfl, ?_⟩
  have v2' : vl bs 96 (8 + 24) % 2 ^ 24 = vl bs 104 (6 + 18) := v2
  have v4' : vl bs 104 (6 + 18) % 2 ^ 18 = vl bs 110 18 := v4
  clear v2 v4 v1
  generalize vl bs 96 (8 + 24) = X at *
  generalize vl bs 104 (6 + 18) = Y at *
  generalize vl bs 104 6 = E at *
  generalize vl bs 110 18 = M at *
  simp only [show 2 ^ 24 = 16777216 from rfl, show 2 ^ (8 + 24) = 4294967296 from rfl, show 2 ^ (6 + 18) = 16777216 from rfl, show 2 ^ 18 = 262144 from rfl, show 2 ^ 6 = 64 from rfl] at *
  have e1 : (X : Int) % 16777216 = (Y : Int) := by omega
  have e2 : (Y : Int) / 262144 = (E : Int) := by omega
  have e3 : (Y : Int) % 262144 = (M : Int) := by omega
  refine ⟨l1, l2, l3, l4, e1, ?_, e2, ?_, e3, ?_, IntWalk.u8_in _ (by omega), IntWalk.u32_in _ (by omega)⟩
  · rw [Int.tmod_eq_emod_of_nonneg (by omega)]; exact e1
  · rw [Int.tdiv_eq_ediv_of_nonneg (by omega)]; exact e2
  · rw [Int.tmod_eq_emod_of_nonneg (by omega)]; exact e3
theorem src_vals (bs : List Nat) (j : Nat) : ∃ x : Nat, vl bs (8 * (16 + 4 * j)) 32 = x ∧ Hd (vl bs (128 + 32 * j) 32 = x) ∧ x < 4294967296 := by
  rw [show 8 * (16 + 4 * j) = 128 + 32 * j from by omega]
  exact ⟨_, rfl, hd rfl, vl_lt bs (128 + 32 * j) 32⟩
set_option maxHeartbeats 8000000 in
set_option maxRecDepth 100000 in
theorem rparse4_any {w : World} {A : Option Addr} {n c : Nat} {bs : List Nat} (ct kd pd : Nat) (hs : Sl w (.slice A n c) (bv bs)) (hn : n = bs.length) (hb : Bts bs) (hl : bs.length ≤ 1000000) (hso : sortOf kd ct = 4) :
    Calls Try.prog 24 #[.agg #[.int .u8 (ct : Int), .int .u8 (kd : Int), .slice A n c, .int .u8 (pd : Int)]] w fun e_ w' => PMr w w' e_ (parse4 bs) := by
  subst hn
  obtain ⟨w0, hw0⟩ : ∃ w0, w0 = (w.alloc (.cells #[.int .u8 (ct : Int), .int .u8 (kd : Int), .slice A bs.length c, .int .u8 (pd : Int)] 41)).alloc (.cells #[.int .u8 0, .int .u32 0, .int .u32 0, .slice none 0 0, .slice none 0 0, .int .u8 0, .int .u32 0, .slice none 0 0] 46) := ⟨_, rfl⟩
  have hK0 : Kp (fun _ => True) w w0 := hw0 ▸ ((Kp.refl _ _).alloc _).alloc _
  have P0 : Blk w0 w.heap.size 41 #[.int .u8 (ct : Int), .int .u8 (kd : Int), .slice A bs.length c, .int .u8 (pd : Int)] := hw0 ▸ (Blk.new w _ _).alloc _
  have Z0 : Blk w0 (w.heap.size + 1) 46 #[.int .u8 0, .int .u32 0, .int .u32 0, .slice none 0 0, .slice none 0 0, .int .u8 0, .int .u32 0, .slice none 0 0] := by
    have := Blk.new (w.alloc (.cells #[.int .u8 (ct : Int), .int .u8 (kd : Int), .slice A bs.length c, .int .u8 (pd : Int)] 41)) 46 #[.int .u8 0, .int .u32 0, .int .u32 0, .slice none 0 0, .slice none 0 0, .int .u8 0, .int .u32 0, .slice none 0 0]
    rw [← hw0, World.size_alloc] at this
    exact this
  have cP := P0.cell
  go_enter Try.func24, Try.ntmps24
  go_upto_region 1 with (fail)
  rw [← hw0]
  clear hw0
  go_wp2_with fail
  refine (rSort_any _ ct kd pd _ _ _).mono ?_
  rw [hso]
  rintro e_ w1 ⟨rfl, hK1⟩
  have Z1 := Z0.kp hK1 trivial
  have hKa := hK0.trans hK1
  clear cP P0 Z0 hK0 hK1 hso
  obtain ⟨w2, hw2⟩ : ∃ w2, w2 = w1.alloc (.cells #[.int .u8 4, .int .u32 0, .int .u32 0, .slice none 0 0, .slice none 0 0, .int .u8 0, .int .u32 0, .slice none 0 0] 46) := ⟨_, rfl⟩
  have hKb : Kp (fun _ => True) w w2 := hw2 ▸ hKa.alloc _
  have Z2 : Blk w2 (w.heap.size + 1) 46 _ := hw2 ▸ Z1.alloc _
  have M2 : Blk w2 w1.heap.size 46 _ := hw2 ▸ Blk.new w1 _ #[.int .u8 4, .int .u32 0, .int .u32 0, .slice none 0 0, .slice none 0 0, .int .u8 0, .int .u32 0, .slice none 0 0]
  have hz := Z1.lt
  have hz2 := M2.lt
  have cM := M2.cell
  have fM := M2.frozen
  go_upto_region 3 with (fail)
  rw [← hw2]
  clear hw2 hKa Z1
  generalize w1.heap.size = q at *
  have hq1 : w.heap.size + 1 < q := hz
  have hsl := hs.all hKb
  by_cases h8 : 8 ≤ bs.length
  · have g8 : decide ((bs.length : Int) < 8) = false := decide_eq_false (by omega)
    obtain ⟨g, off, rfl, hg, _⟩ := hs.at_ (bv_getD bs 0 (by omega))
    have hgq : (Value.slice (some ⟨g, off, none⟩) bs.length c).ownBlock ≠ some q := by
      simp [Value.ownBlock]
      omega
    go_wp2_with fail
    refine (four_any hsl rfl hb hl 0 0 rfl (by omega) (vl bs 0 32) rfl).mono ?_
    rintro e_ w3 ⟨rfl, hw3⟩
    rw [hw3]
    clear hw3 w3
    go_wp2_with fail
    refine (four_any (hsl.far (p := ⟨q, 1, none⟩) hgq _) rfl hb hl 4 4 rfl (by omega) (vl bs 32 32) rfl).mono ?_
    rintro e_ w3_ ⟨rfl, rfl⟩
    have M3 := M2.set 1 (.int .u32 (vl bs 0 32 : Nat))
    simp only [List.setIfInBounds_toArray, List.set_cons_zero, List.set_cons_succ] at M3
    have c3 := M3.cell
    have f3 := M3.frozen
    have M4 := M3.set 2 (.int .u32 (vl bs 32 32 : Nat))
    simp only [List.setIfInBounds_toArray, List.set_cons_zero, List.set_cons_succ] at M4
    have Z4 := (Z2.far (p := ⟨q, 1, none⟩) (Nat.ne_of_lt hq1) (.int .u32 (vl bs 0 32 : Nat))).far (p := ⟨q, 2, none⟩) (Nat.ne_of_lt hq1) (.int .u32 (vl bs 32 32 : Nat))
    have S4 := (hsl.far (p := ⟨q, 1, none⟩) hgq (.int .u32 (vl bs 0 32 : Nat))).far (p := ⟨q, 2, none⟩) hgq (.int .u32 (vl bs 32 32 : Nat))
    have K4 : Kp (fun _ => True) w _ := kp_far hKb (((Kp.refl (· ≠ q) w2).set_ (i := 1) (u := .int .u32 (vl bs 0 32 : Nat))).set_ (i := 2) (u := .int .u32 (vl bs 32 32 : Nat))) (fun k hk => by omega)
    have c4 := M4.cell
    have f4 := M4.frozen
    clear cM fM hsl c4 f4
    have hbb := hb.getD 12
    go_upto_region 9 with (fail)
    obtain ⟨w4, hw4⟩ : ∃ w4, w4 = ((w2.setCell ⟨q, 1, none⟩ (.int .u32 (vl bs 0 32 : Nat))).setCell ⟨q, 2, none⟩ (.int .u32 (vl bs 32 32 : Nat))) := ⟨_, rfl⟩
    rw [← hw4] at M4 Z4 S4 K4 ⊢
    clear hw4 c3 f3 M3
    have c4 := M4.cell
    have f4 := M4.frozen
    have hq4 := M4.lt
    have hs4 := K4.size
    have hz4 := Z4.lt
    by_cases h16 : 16 ≤ bs.length
    · have hst : (convert 38 9 (.slice (some ⟨g, off + 8, none⟩) 4 (c - 8))).run Try.prog w4 = .ok (.string (strOfNums (ib ((bs.drop 8).take 4)))) w4 := by
        have hln : ((bs.drop 8).take 4).length = 4 := by rw [List.length_take, List.length_drop]; omega
        refine string_of_reads Try.underlying38 Try.underlying5 Try.underlying9 ⟨by rw [ib_length, hln], by decide, fun _ => ⟨_, rfl, fun j hj => ?_⟩⟩
        obtain ⟨_, _, he, _, hc⟩ := S4.at_ (bv_getD bs (8 + j) (by omega))
        injection he with he
        injection he with he1 he2
        subst he1 he2
        rw [show (⟨g, off + 8, none⟩ : Addr).add j = ⟨g, off + (8 + j), none⟩ from by simp [Addr.add, Nat.add_assoc], hc]
        rw [show (ib ((bs.drop 8).take 4)).getD j 0 = ((bs.getD (8 + j) 0 : Nat) : Int) from ?_]
        simp only [ib, List.getD_eq_getElem?_getD, List.getElem?_map, List.getElem?_take, List.getElem?_drop, if_pos hj]
        rw [List.getElem?_eq_getElem (by omega)]
        rfl
      have hcap := S4.le_cap (fun e => by have := congrArg List.length e; rw [bv_length] at this; have h0 : ([] : List Value).length = 0 := rfl; omega)
      have hcc : ¬ (c = 8) := by omega
      have hsq := remb_str bs hb (by omega)
      generalize strOfNums (ib ((bs.drop 8).take 4)) = S at *
      have ga : decide ((8 : Int) ≤ (bs.length : Int) - 8) = true := decide_eq_true (by omega)
      by_cases hrm : vl bs 64 32 = rembN
      · have hsT := hsq.2 hrm
        clear hsq
        obtain ⟨_, _, he, _, hc12⟩ := S4.at_ (bv_getD bs 12 (by omega))
        injection he with he
        injection he with he1 he2
        subst he1 he2
        have hv12 : bs.getD 12 0 = vl bs 96 8 := by rw [← vl_byte bs 12 (hb.getD _)]
        have HV := hd hv12
        generalize hk12 : bs.getD 12 0 = k at *
        have e12 : IntKind.i64.wrap (k : Int) = (k : Int) := IntWalk.i64_in _ (by omega)
        have em : IntKind.i64.wrap (4 * (k : Int)) = 4 * (k : Int) := IntWalk.i64_in _ (by omega)
        have ep : IntKind.i64.wrap (8 + 4 * (k : Int)) = 8 + 4 * (k : Int) := IntWalk.i64_in _ (by omega)
        by_cases hfit : bs.length = 16 + 4 * k
        · have gq : ((bs.length : Int) - 8 == 8 + 4 * (k : Int)) = true := by rw [beq_iff_eq]; omega
          have HN : Hd (parse4 bs = ⟨4, vl bs 0 32, vl bs 32 32, [], [], vl bs 104 6, vl bs 110 18, tSrc bs 128 k, 0⟩) := hd (by unfold parse4; rw [if_pos ⟨h16, hrm, by rw [← hv12]; exact hfit⟩, ← hv12])
          obtain ⟨X, Y, E, M, hX, hE, hM, lX, lY, lE, lM, e1, e1t, e2, e2t, e3, e3t, e4, e5⟩ := rate_vals bs
          have hL1 : bs.length ≤ 16 + 4 * k := by omega
          have hL2 : 16 + 4 * k ≤ bs.length := by omega
          clear hfit hrm hv12 hk12 hs
          have c4n := fun m => (M4.drewN m).cell
          go_wp2_with fail
          refine (four_any S4 rfl hb hl 12 12 rfl (by omega) X hX).mono ?_
          rintro e_ w5_ ⟨rfl, hw5_⟩
          rw [hw5_]
          clear hst hc12 hsT gq hw5_ w5_
          have M5 := (M4.set 5 (.int .u8 (E : Int))).set 6 (.int .u32 (M : Int))
          simp only [List.setIfInBounds_toArray, List.set_cons_zero, List.set_cons_succ] at M5
          have Z5 := (Z4.far (p := ⟨q, 5, none⟩) (Nat.ne_of_lt hq1) (.int .u8 (E : Int))).far (p := ⟨q, 6, none⟩) (Nat.ne_of_lt hq1) (.int .u32 (M : Int))
          have S5 := (S4.far (p := ⟨q, 5, none⟩) hgq (.int .u8 (E : Int))).far (p := ⟨q, 6, none⟩) hgq (.int .u32 (M : Int))
          have K5 : Kp (fun _ => True) w _ := kp_far K4 (((Kp.refl (· ≠ q) w4).set_ (i := 5) (u := .int .u8 (E : Int))).set_ (i := 6) (u := .int .u32 (M : Int))) (fun k hk => by omega)
          have c45 := (M4.set 5 (.int .u8 (E : Int))).cell
          have f45 := (M4.set 5 (.int .u8 (E : Int))).frozen
          simp only [List.setIfInBounds_toArray, List.set_cons_zero, List.set_cons_succ] at c45 f45
          go_upto_region 30 with (fail)
          obtain ⟨w5, hw5⟩ : ∃ w5, w5 = (w4.setCell ⟨q, 5, none⟩ (.int .u8 (E : Int))).setCell ⟨q, 6, none⟩ (.int .u32 (M : Int)) := ⟨_, rfl⟩
          rw [← hw5] at M5 Z5 S5 K5 ⊢
          clear hw5 c4 f4 c45 f45 M4 Z4 S4 K4 hq4 hs4 hz4
          have hq4 := M5.lt
          have hs4 := K5.size
          have hz4 := Z5.lt
          obtain ⟨i0, hi0, hz0, hz1, hz2⟩ := info_parts infoU32
          go_wp2
          go_loopw [11] (fun iv wr => ∃ (j : Nat) (ov : Value), j ≤ k ∧ iv = .int .i64 ((16 + 4 * j : Nat) : Int) ∧ RK w5 wr q 28 1 ov j (scs (tSrc bs 128 j)) ∧ Blk wr q 46 #[.int .u8 4, .int .u32 (vl bs 0 32 : Nat), .int .u32 (vl bs 32 32 : Nat), .slice none 0 0, .slice none 0 0, .int .u8 (E : Int), .int .u32 (M : Int), ov]) (fun iv _ => bs.length - (intOf iv).toNat)
          case atStart => exact ⟨0, .slice none 0 0, Nat.zero_le _, rfl, ⟨World.ownsRow_nil _ _ _ _, Kp.refl _ _⟩, M5⟩
          case round =>
            obtain ⟨j, ov, hj, rfl, hR_, hB⟩ := hrel
            obtain ⟨Ao, co, rfl⟩ : ∃ A c, ov = .slice A j c := by
              obtain ⟨A, c, e⟩ := own_slice hR_.own
              exact ⟨A, c, e⟩
            have hsr0 := S5.kp hR_.kp (fun _ g' hg' _ => by rintro rfl; exact hgq hg')
            by_cases hlt : j < k
            · have glt : decide (((16 + 4 * j : Nat) : Int) < (bs.length : Int)) = true := decide_eq_true (by omega)
              have hsr : Sl wr.drew (.slice (some ⟨g, off, none⟩) bs.length c) (bv bs) := hsr0
              obtain ⟨x, hR, hx, lx⟩ := src_vals bs j
              have g3 : wr.drew.cell? ⟨q, 7, none⟩ = some (.slice Ao j co) := hB.cell 7
              have g5 : (wr.alloc (.cells #[.int .u32 (x : Int)] 28)).cell? ⟨q, 7, none⟩ = some (.slice Ao j co) := (hB.alloc (.cells #[.int .u32 (x : Int)] 28)).cell 7
              have hO6 := own_kp hR_.own (((Kp.refl (fun _ => True) wr).drew).alloc (.cells #[.int .u32 (x : Int)] 28)) (fun _ _ _ => trivial)
              have hN6 := new_cells wr.drew 28 [.int .u32 (x : Int)]
              have HT : Hd (scs (tSrc bs 128 (j + 1)) = scs (tSrc bs 128 j) ++ [.int .u32 (x : Int)]) := hd (by rw [tSrc, scs_snoc, hx.out])
              have hSz := hR_.kp.size
              have hwr : wr.drew.heap.size = wr.heap.size := rfl
              go_wp2_with fail
              go_region_law (first
                | (go_simp; go_at_call 65; refine (four_any hsr rfl hb hl _ (16 + 4 * j) (by omega) (by omega) x hR).mono ?_; rintro e_ w6 ⟨rfl, rfl⟩)
                | (refine step_append_lies (w := wr.drew.alloc (.cells #[.int .u32 (x : Int)] 28)) rfl (.tmp 145) (.tmp 149) 44 rfl w5.heap.size 28 i0 _ 1 4 Try.underlying44 hi0 hz0 hz1 hz2 rfl (by decide) (.slice Ao j co) j (scs (tSrc bs 128 j)) rfl hO6 ⟨wr.drew.heap.size, 0, none⟩ 1 1 [.int .u32 (x : Int)] rfl rfl hN6 (src_one _) (by decide) (by unfold maxLen; omega) (by omega) (by simp; omega) _ rfl ?_; intro g9 c9 w9 ho9 hg9 hl9 hlt9; have hB9 := (hB.drew.alloc (.cells #[.int .u32 (x : Int)] 28)).grown hg9 (by intro e; have := (hO6.lt _ e.symm).1; omega); have f9 := hB9.frozen 7; have c9_ := hB9.cell 7))
              all_goals
                have hKn := hR_.append hq4 (.cells #[.int .u32 (x : Int)] 28) hg9 ho9 7 (.slice (some ⟨g9, 0, none⟩) (j + 1) c9)
                rw [← HT.out] at hKn
                have hBn := hB9.set 7 (.slice (some ⟨g9, 0, none⟩) (j + 1) c9)
                simp only [List.setIfInBounds_toArray, List.set_cons_zero, List.set_cons_succ] at hBn
                go_wp2
                go_roundw
                case rel =>
                  first
                    | exact ⟨j + 1, .slice (some ⟨g9, 0, none⟩) (j + 1) c9, by omega, by go_num, hKn, hBn⟩
                    | exact ⟨_, j + 1, .slice (some ⟨g9, 0, none⟩) (j + 1) c9, by omega, by go_num, hKn, hBn⟩
                    | exact ⟨j + 1, .slice (some ⟨g9, 0, none⟩) (j + 1) c9, by omega, by go_num; omega, hKn, hBn⟩
                    | (trace_state; sorry)
                case measure => simp [intOf]; omega
            · obtain rfl : j = k := by omega
              have glt : decide (((16 + 4 * j : Nat) : Int) < (bs.length : Int)) = false := decide_eq_false (by omega)
              have cB := hB.cell
              have fB := hB.frozen
              have Z6 := Z5.kp hR_.kp (Nat.ne_of_lt hq1)
              have cZ := Z6.cell
              have fZ := Z6.frozen
              have hK6 : Kp (fun _ => True) w wr := kp_far K5 hR_.kp (fun k hk => by omega)
              go_wp2
              refine bodyPost_ret (results_ct rfl _ _ (w.heap.size + 1) 46 _ (0, 0) _ rfl (st8_blk Z6 _ _ _ _ _ _ _ _) Try.underlying46 rfl (by kernel_rfl)) rfl ?_
              rw [HN.out, hE.out, hM.out]
              refine ⟨.slice none 0 0, .slice none 0 0, .slice Ao j co, rfl, World.ownsRow_nil _ _ _ _, World.ownsRow_nil _ _ _ _, ?_, kp_far hK6 (st8_kp _ _ _ _ _ _ _ _ _ _) (fun k hk => by omega)⟩
              show World.ownsRow _ _ _ _ _ (tSrc bs 128 j).length (scs (tSrc bs 128 j))
              rw [tSrc_length]
              exact own_lo (own_kp hR_.own (st8_kp _ _ _ _ _ _ _ _ _ _) (fun g hg _ => by show g ≠ w.heap.size + 1; omega)) hs4
        · have HN : Hd (parse4 bs = PM.no 63) := hd (by unfold parse4; rw [if_neg]; rintro ⟨q1, q2, q3⟩; rw [← hv12] at q3; exact hfit q3)
          have gq : ((bs.length : Int) - 8 == 8 + 4 * (k : Int)) = false := by rw [beq_eq_false_iff_ne]; omega
          clear hs hv12 hk12 hrm hfit
          go_wp2
          go_loopw [11] (fun iv wr => wr = w4 ∧ iv = .int .i64 16) (fun iv _ => (intOf iv).toNat)
          case atStart => exact ⟨rfl, rfl⟩
          case round =>
            obtain ⟨rfl, rfl⟩ := hrel
            have cZ := Z4.cell
            have fZ := Z4.frozen
            go_wp2
            exact bodyPost_ret (results_ct rfl _ _ (w.heap.size + 1) 46 _ (0, 0) _ rfl (st8_blk Z4 _ _ _ _ _ _ _ _) Try.underlying46 rfl (by kernel_rfl)) rfl (by rw [HN.out]; exact PMr.no_ _ _ _ _ rfl (kp_far K4 (st8_kp _ _ _ _ _ _ _ _ _ _) (fun k hk => by omega)))
      · have hsT := fun z => hrm (hsq.1 z)
        clear hsq
        have HN : Hd (parse4 bs = PM.no 63) := hd (by unfold parse4; rw [if_neg]; rintro ⟨q1, q2, q3⟩; exact hrm q2)
        clear hs
        go_wp2
        go_loopw [11] (fun iv wr => wr = w4 ∧ iv = .int .i64 16) (fun iv _ => (intOf iv).toNat)
        case atStart => exact ⟨rfl, rfl⟩
        case round =>
          obtain ⟨rfl, rfl⟩ := hrel
          have cZ := Z4.cell
          have fZ := Z4.frozen
          go_wp2
          exact bodyPost_ret (results_ct rfl _ _ (w.heap.size + 1) 46 _ (0, 0) _ rfl (st8_blk Z4 _ _ _ _ _ _ _ _) Try.underlying46 rfl (by kernel_rfl)) rfl (by rw [HN.out]; exact PMr.no_ _ _ _ _ rfl (kp_far K4 (st8_kp _ _ _ _ _ _ _ _ _ _) (fun k hk => by omega)))
    · have HN : Hd (parse4 bs = PM.no 63) := hd (by unfold parse4; rw [if_neg]; rintro ⟨q1, q2, q3⟩; exact h16 q1)
      have ga : decide ((8 : Int) ≤ (bs.length : Int) - 8) = false := decide_eq_false (by omega)
      clear hs
      go_wp2
      go_loopw [11] (fun iv wr => wr = w4 ∧ iv = .int .i64 16) (fun iv _ => (intOf iv).toNat)
      case atStart => exact ⟨rfl, rfl⟩
      case round =>
        obtain ⟨rfl, rfl⟩ := hrel
        have cZ := Z4.cell
        have fZ := Z4.frozen
        go_wp2
        exact bodyPost_ret (results_ct rfl _ _ (w.heap.size + 1) 46 _ (0, 0) _ rfl (st8_blk Z4 _ _ _ _ _ _ _ _) Try.underlying46 rfl (by kernel_rfl)) rfl (by rw [HN.out]; exact PMr.no_ _ _ _ _ rfl (kp_far K4 (st8_kp _ _ _ _ _ _ _ _ _ _) (fun k hk => by omega)))
  · have g8 : decide ((bs.length : Int) < 8) = true := decide_eq_true (by omega)
    have HN : Hd (parse4 bs = PM.no 63) := hd (by unfold parse4; rw [if_neg (by rintro ⟨q1, _⟩; omega)])
    have cZ := Z2.cell
    have fZ := Z2.frozen
    clear hs
    go_wp2
    exact bodyPost_ret (results_ct rfl _ _ (w.heap.size + 1) 46 _ (0, 0) _ rfl (st8_blk Z2 _ _ _ _ _ _ _ _) Try.underlying46 rfl (by kernel_rfl)) rfl (by rw [HN.out]; exact PMr.no_ _ _ _ _ rfl (kp_far hKb (st8_kp _ _ _ _ _ _ _ _ _ _) (fun k hk => by omega)))
end Go.Proofs.Ytjcejgolcdgipaa.K7
