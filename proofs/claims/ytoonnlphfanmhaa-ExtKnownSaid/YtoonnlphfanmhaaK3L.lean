/- ExtKnown: its walk. -/
import Derived.Test.YtoonnlphfanmhaaK3K
namespace Go.Proofs.Ytoonnlphfanmhaa.K3
open Go.RowKit Go.Proofs.YtoonnlphfanmhaaW.PrintWords Go.Proofs.YtoonnlphfanmhaaW.PrintLast Go.Proofs.YtoonnlphfanmhaaW.PrintMore

set_option maxHeartbeats 8000000 in
set_option maxRecDepth 100000 in
theorem ExtKnown_any (w : World) : Calls Try.prog 9 #[] w fun e w' => e = .returned (.bool true) ∧ Kp (fun _ => True) w w' := by
  go_enter Try.func9, Try.ntmps9
  go_wp2
  have hPR : PR (w.alloc (.cells #[.int .u16 48862, .int .u16 4096, .int .u16 4111, .int .u16 4112, .int .u16 4095, .int .u16 0, .int .u16 48863, .int .u16 4103] 53)) w.heap.size := by
    intro q hq
    rw [cell_of_row _ _ _ _ _ _ (heap_alloc_new w _)]
    rcases (by omega : q = 0 ∨ q = 1 ∨ q = 2 ∨ q = 3 ∨ q = 4 ∨ q = 5 ∨ q = 6 ∨ q = 7) with rfl | rfl | rfl | rfl | rfl | rfl | rfl | rfl <;> rfl
  generalize hW0 : w.alloc (.cells #[.int .u16 48862, .int .u16 4096, .int .u16 4111, .int .u16 4112, .int .u16 4095, .int .u16 0, .int .u16 48863, .int .u16 4103] 53) = w0 at *
  have hK0 : Kp (fun _ => True) w w0 := hW0 ▸ (Kp.refl _ _).alloc _
  clear hW0
  generalize w.heap.size = gp at *
  have HPR := hd hPR
  clear hPR
  go_loopw [2] (fun nv wr => ∃ n : Nat, n ≤ 256 ∧ nv = .int .i64 n ∧ Kp (fun _ => True) w0 wr) (fun nv _ => 256 - (intOf nv).toNat)
  case atStart => exact ⟨0, by omega, rfl, Kp.refl _ _⟩
  case round =>
    obtain ⟨n, hn, rfl, hK⟩ := hrel
    by_cases hlt : n < 256
    · obtain ⟨q, hq⟩ : ∃ q : Nat, (n : Int) % 8 = q := ⟨n % 8, by omega⟩
      have hq8 : q < 8 := by omega
      have hpc := (HPR.out.kp hK) q hq8
      have hpl := profs_lt q hq8
      generalize profs.getD q 0 = P at *
      obtain ⟨m7, hm7⟩ : ∃ m : Nat, (n : Int) * 3 % 7 = m := ⟨n * 3 % 7, by omega⟩
      have hm7l : m7 < 7 := by omega
      obtain ⟨r, hr⟩ : ∃ m : Nat, (255 : Int) - n = m := ⟨255 - n, by omega⟩
      have hrl : r < 256 := by omega
      obtain ⟨n3, hn3⟩ : ∃ m : Nat, (n : Int) % 3 = m := ⟨n % 3, by omega⟩
      have hn3l : n3 < 3 := by omega
      have e1 : (m7 : Int) % 256 = m7 := by omega
      have e2 : (r : Int) % 256 = r := by omega
      have e3 : (n : Int) % 256 = n := by omega
      have hdn : decide ((n : Int) < 256) = true := decide_eq_true (by omega)
      go_wp2
      simp only [hq, hm7]
      have hs : Sl (wr.alloc (.cells #[.int .u8 (n : Int), .int .u8 (m7 : Int), .int .u8 0, .int .u8 (r : Int), .int .u8 33, .int .u8 7, .int .u8 8, .int .u8 0, .int .u8 243, .int .u8 1, .int .u8 2, .int .u8 3] 5)) (.slice (some ⟨wr.heap.size, 0, none⟩) 12 12) (bv [n, m7, 0, r, 33, 7, 8, 0, 243, 1, 2, 3]) :=
        Sl.litb wr _ [n, m7, 0, r, 33, 7, 8, 0, 243, 1, 2, 3] 12 12 (by simp [bv]) rfl rfl (by simp)
      have hbt : Bts [n, m7, 0, r, 33, 7, 8, 0, 243, 1, 2, 3] := by
        intro b hb
        simp at hb
        omega
      have hbl : [n, m7, 0, r, 33, 7, 8, 0, 243, 1, 2, 3].length = 12 := rfl
      generalize [n, m7, 0, r, 33, 7, 8, 0, 243, 1, 2, 3] = bs at *
      have HBL := hd hbl
      clear hbl
      obtain ⟨w1, hw1⟩ : ∃ w1, w1 = wr.alloc (.cells #[.int .u8 (n : Int), .int .u8 (m7 : Int), .int .u8 0, .int .u8 (r : Int), .int .u8 33, .int .u8 7, .int .u8 8, .int .u8 0, .int .u8 243, .int .u8 1, .int .u8 2, .int .u8 3] 5) := ⟨_, rfl⟩
      rw [← hw1] at hs ⊢
      have hK1 : Kp (fun _ => True) w0 w1 := hw1 ▸ hK.alloc _
      generalize wr.heap.size = gb at *
      clear hw1 hpc hK
      go_loopw [5] (fun kv wr => ∃ k : Nat, k ≤ 15 ∧ kv = .int .i64 k ∧ Kp (fun _ => True) w1 wr) (fun kv _ => 16 - (intOf kv).toNat)
      case atStart => exact ⟨0, by omega, rfl, Kp.refl _ _⟩
      case round =>
        obtain ⟨k, hk, rfl, hKk⟩ := hrel
        by_cases hk12 : k ≤ 12
        · obtain ⟨j, hj⟩ : ∃ j : Nat, (k : Int) / 4 * 4 = j := ⟨k / 4 * 4, by omega⟩
          have hjk : j ≤ k := by omega
          obtain ⟨i, hi⟩ : ∃ i : Nat, i + k = 12 := ⟨12 - k, by omega⟩
          have hi0 : (12 : Int) - k = i := by omega
          have sK : ∀ w', Kp (fun _ => True) w1 w' → Sl w' (.slice (some ⟨gb, 0, none⟩) k 12) (bv (bs.take k)) := fun w' hk' => cutB (hs.all hk') k (by rw [HBL.out]; omega) (by omega)
          have sJ : ∀ w', Kp (fun _ => True) w1 w' → Sl w' (.slice (some ⟨gb, 0, none⟩) j 12) (bv (bs.take j)) := fun w' hk' => cutB (hs.all hk') j (by rw [HBL.out]; omega) (by omega)
          have sD : ∀ w', Kp (fun _ => True) w1 w' → Sl w' (.slice (some ⟨gb, k, none⟩) (12 - k) (12 - k)) (bv (bs.drop k)) := fun w' hk' => by
            have := dropB (hs.all hk') k (12 - k) (12 - k) (by rw [HBL.out]; omega) (Nat.le_refl _)
            rwa [Nat.zero_add] at this
          have lK : (bs.take k).length = k := by rw [List.length_take, HBL.out]; omega
          have lJ : (bs.take j).length = j := by rw [List.length_take, HBL.out]; omega
          have SK := hd sK
          have SJ := hd sJ
          have SD := hd sD
          have LK := hd lK
          have LJ := hd lJ
          clear sK sJ sD lK lJ
          by_cases hk12' : k = 12
          · subst hk12'
            obtain rfl : j = 12 := by omega
            go_wp2_with fail
            refine (reads_all _ P rfl hpl (SK.out _ hKk) (hbt.take _)).mono ?_
            rintro e w2 ⟨rfl, hK2⟩
            replace hK2 := hKk.trans hK2
            go_wp2_with fail
            refine (reads_all (bs := []) _ 48862 rfl (by omega) (Sl.empty _ _ _) Bts.nil).mono ?_
            rintro e w3 ⟨rfl, hK3⟩
            replace hK3 := hK2.trans hK3
            go_wp2_with fail
            refine (reads_all _ 4099 rfl (by omega) (SJ.out _ hK3) (hbt.take _)).mono ?_
            rintro e w4 ⟨rfl, hK4⟩
            replace hK4 := hK3.trans hK4
            go_wp2_with fail
            refine (back_all _ P rfl hpl (els_nil _) rfl fair_nil (SK.out _ hK4) LK.out.symm (hbt.take _) (by rw [LK.out]; omega)).mono ?_
            rintro e w5 ⟨rfl, hK5⟩
            replace hK5 := hK4.trans hK5
            go_wp2_with fail
            refine (back_all _ 48862 rfl (by omega) (els_nil _) rfl fair_nil (SJ.out _ hK5) LJ.out.symm (hbt.take _) (by rw [LJ.out]; omega)).mono ?_
            rintro e w6 ⟨rfl, hK6⟩
            replace hK6 := hK5.trans hK6
            go_wp2
            go_roundw
            case rel => exact ⟨12 + 1 + n3, by omega, by go_num, hK6⟩
            case measure => simp [intOf]; omega
          · have hklt : k < 12 := by omega
            go_wp2_with fail
            refine (reads_all _ P rfl hpl (SK.out _ hKk) (hbt.take _)).mono ?_
            rintro e w2 ⟨rfl, hK2⟩
            replace hK2 := hKk.trans hK2
            go_wp2_with fail
            refine (reads_all _ 48862 rfl (by omega) (SD.out _ hK2) (hbt.drop _)).mono ?_
            rintro e w3 ⟨rfl, hK3⟩
            replace hK3 := hK2.trans hK3
            go_wp2_with fail
            refine (reads_all _ 4099 rfl (by omega) (SJ.out _ hK3) (hbt.take _)).mono ?_
            rintro e w4 ⟨rfl, hK4⟩
            replace hK4 := hK3.trans hK4
            go_wp2_with fail
            refine (back_all _ P rfl hpl (els_nil _) rfl fair_nil (SK.out _ hK4) LK.out.symm (hbt.take _) (by rw [LK.out]; omega)).mono ?_
            rintro e w5 ⟨rfl, hK5⟩
            replace hK5 := hK4.trans hK5
            go_wp2_with fail
            refine (back_all _ 48862 rfl (by omega) (els_nil _) rfl fair_nil (SJ.out _ hK5) LJ.out.symm (hbt.take _) (by rw [LJ.out]; omega)).mono ?_
            rintro e w6 ⟨rfl, hK6⟩
            replace hK6 := hK5.trans hK6
            go_wp2
            go_roundw
            case rel => exact ⟨k + 1 + n3, by omega, by go_num, hK6⟩
            case measure => simp [intOf]; omega
        · go_wp2
          go_roundw
          case rel => exact ⟨n + 1, by omega, by go_num, hK1.trans hKk⟩
          case measure => simp [intOf]; omega
    · have HPR2 := hd (HPR.out.kp hK)
      have hK00 := hK0.trans hK
      clear hK
      obtain ⟨w1, hw1⟩ : ∃ w1, w1 = wr := ⟨_, rfl⟩
      subst hw1
      have hdn : decide ((n : Int) < 256) = false := decide_eq_false (by omega)
      go_wp2
      go_loopw [6] (fun iv wr => ∃ id : Nat, id ≤ 400 ∧ iv = .int .i64 id ∧ Kp (fun _ => True) w1 wr) (fun iv _ => 401 - (intOf iv).toNat)
      case atStart => exact ⟨0, by omega, rfl, Kp.refl _ _⟩
      case round =>
        obtain ⟨id, hid, rfl, hK⟩ := hrel
        by_cases hlt2 : id < 256
        · obtain ⟨st, hst⟩ : ∃ m : Nat, (id : Int) / 16 * 7 = m := ⟨id / 16 * 7, by omega⟩
          have hstl : st ≤ 105 := by omega
          have e1 : (id : Int) % 256 = id := by omega
          have hdi : decide ((id : Int) < 256) = true := decide_eq_true (by omega)
          go_wp2
          have hN7 : ∀ q, q < 7 → (wr.alloc (.cells #[.int .i64 0, .int .i64 1, .int .i64 2, .int .i64 16, .int .i64 17, .int .i64 255, .int .i64 256] 3)).cell? ⟨wr.heap.size, q, none⟩ = some (.int .i64 ((seven.getD q 0 : Nat) : Int)) := by
            intro q hq
            rw [cell_of_row _ _ _ _ _ _ (heap_alloc_new wr _)]
            rcases (by omega : q = 0 ∨ q = 1 ∨ q = 2 ∨ q = 3 ∨ q = 4 ∨ q = 5 ∨ q = 6) with rfl | rfl | rfl | rfl | rfl | rfl | rfl <;> rfl
          obtain ⟨w2, hw2⟩ : ∃ w2, w2 = wr.alloc (.cells #[.int .i64 0, .int .i64 1, .int .i64 2, .int .i64 16, .int .i64 17, .int .i64 255, .int .i64 256] 3) := ⟨_, rfl⟩
          rw [← hw2] at hN7 ⊢
          have hK2 : Kp (fun _ => True) w1 w2 := hw2 ▸ hK.alloc _
          generalize wr.heap.size = gn at *
          clear hw2 hK
          have HN7 := hd hN7
          clear hN7
          go_loopw [89] (fun nv wr => ∃ m : Nat, m ≤ 7 ∧ nv = .int .i64 m ∧ Kp (fun _ => True) w2 wr) (fun nv _ => 7 - (intOf nv).toNat)
          case atStart => exact ⟨0, by omega, rfl, Kp.refl _ _⟩
          case round =>
            obtain ⟨m, hm, rfl, hKm⟩ := hrel
            by_cases hm7 : m < 7
            · have hnc := hKm.cell_some (HN7.out m hm7) trivial
              have hdm : decide ((m : Int) < 7) = true := decide_eq_true (by omega)
              have hnl := seven_le m hm7
              generalize seven.getD m 0 = nn at *
              have hmk := print_make (P := Try.prog) 32 5 .u8 1 (by kernel_rfl) (by kernel_rfl) (by omega) nn (by omega)
              have hW3 : ((wr.alloc (.cells (madeCells #[.int .u8 0] nn) 5)).alloc (.cells #[.int .u8 9] 5)).heap.size = wr.heap.size + 1 + 1 := by simp
              have hE := Els.lit2 (w := (wr.alloc (.cells (madeCells #[.int .u8 0] nn) 5)).alloc (.cells #[.int .u8 9] 5)) id (xs := List.replicate nn 0) (ys := [9]) (by omega) ((Sl.made wr nn (by omega)).alloc _) (Sl.litb (wr.alloc (.cells (madeCells #[.int .u8 0] nn) 5)) _ [9] 1 1 rfl rfl rfl (by simp)) (Bts.rep nn) (by intro b hb; simp at hb; omega) 64
              rw [hW3, show (wr.alloc (.cells (madeCells #[.int .u8 0] nn) 5)).heap.size = wr.heap.size + 1 from by simp] at hE
              have hF2 : Fair [(id, List.replicate nn 0), (3, [9])] := fair_two id nn hlt2 hnl
              have hF1 : Fair [(id, List.replicate nn 0)] := fair_one id nn hlt2 hnl
              go_wp2
              obtain ⟨w3, hw3⟩ : ∃ w3, w3 = ((wr.alloc (.cells (madeCells #[.int .u8 0] nn) 5)).alloc (.cells #[.int .u8 9] 5)).alloc (.cells #[.int .u8 (id : Int), .slice (some ⟨wr.heap.size, 0, none⟩) nn nn, .int .u8 3, .slice (some ⟨wr.heap.size + 1, 0, none⟩) 1 1] 64) := ⟨_, rfl⟩
              rw [← hw3] at hE ⊢
              have hK3 : Kp (fun _ => True) w1 w3 := hw3 ▸ ((((hK2.trans hKm).alloc _).alloc _).alloc _)
              have hK23 : Kp (fun _ => True) w2 w3 := hw3 ▸ (((hKm.alloc _).alloc _).alloc _)
              generalize hE1 : [(id, List.replicate nn 0), (3, [9])] = E1 at *
              generalize hE2 : [(id, List.replicate nn 0)] = E2 at *
              have hl1 : E1.length = 2 := by subst hE1; rfl
              have hl2 : E2.length = 1 := by subst hE2; rfl
              clear hw3 hnc hKm hmk hW3 hE1 hE2
              generalize wr.heap.size + 1 + 1 = ge at *
              have HE1 := hd hE.1
              have HE2 := hd hE.2
              have HF1 := hd hF1
              have HF2 := hd hF2
              have HL1 := hd hl1
              have HL2 := hd hl2
              clear hE hF1 hF2 hl1 hl2
              go_loopw [10] (fun kv wr => ∃ k : Nat, k ≤ 8 ∧ kv = .int .i64 k ∧ Kp (fun _ => True) w3 wr) (fun kv _ => 8 - (intOf kv).toNat)
              case atStart => exact ⟨0, by omega, rfl, Kp.refl _ _⟩
              case round =>
                obtain ⟨k, hk, rfl, hKk⟩ := hrel
                by_cases hk8 : k < 8
                · have c1 := (HPR2.out.kp (hK3.trans hKk)) k hk8
                  have hpl := profs_lt k hk8
                  generalize profs.getD k 0 = P at *
                  have hw8 : IntKind.u8.wrap (id : Int) = id := IntWalk.u8_in _ (by omega)
                  replace hKk := hKk.drew
                  replace c1 : wr.drew.cell? ⟨gp, k, none⟩ = some (.int .u16 (P : Int)) := c1
                  go_wp2_with fail
                  go_region_held3 (fun W => W.cell? ⟨gp, k, none⟩ = some (.int .u16 (P : Int)))
                    (first | exact c1 | exact c2 | exact c3 | exact c4)
                    (first
                      | (go_at_call_of 8 (Value.slice (some ⟨ge, 0, none⟩) 2 2); refine (puts_all _ P rfl hpl _ 3 rfl (HE1.out.all hKk) HL1.out.symm HF2.out).mono ?_; (rintro e w4 ⟨rfl, hK4⟩); have c2 := hK4.cell_some c1 trivial)
                      | (go_at_call_of 8 (Value.slice (some ⟨ge, 0, none⟩) 1 2); refine (puts_all _ P rfl hpl (id : Int) id rfl (HE2.out.all (hKk.trans hK4)) HL2.out.symm HF1.out).mono ?_; (rintro e w5 ⟨rfl, hK5⟩); have c3 := hK5.cell_some c2 trivial)
                      | (go_at_call 7; refine (back_all _ P rfl hpl (HE1.out.all ((hKk.trans hK4).trans hK5)) HL1.out.symm HF2.out (bs := []) (Sl.empty _ _ _) rfl Bts.nil (by simp)).mono ?_; (rintro e w6 ⟨rfl, hK6⟩); have c4 := hK6.cell_some c3 trivial))
                  all_goals
                    go_wp2
                    go_roundw
                    case rel => exact ⟨k + 1, by omega, by go_num, ((hKk.trans hK4).trans hK5).trans hK6⟩
                    case measure => simp [intOf]; omega
                · go_wp2
                  go_roundw
                  case rel => exact ⟨m + 1, by omega, by go_num, hK23.trans hKk⟩
                  case measure => simp [intOf]; omega
            · go_wp2
              go_roundw
              case rel => exact ⟨id + 1 + st, by omega, by go_num, hK2.trans hKm⟩
              case measure => simp [intOf]; omega
        · go_wp2_with fail
          refine (puts_all _ 48862 rfl (by omega) _ 0 rfl (els_nil _) rfl fair_nil).mono ?_
          rintro e w2 ⟨rfl, hK2⟩
          replace hK2 := hK.trans hK2
          go_wp2_with fail
          refine (back_all _ 4096 rfl (by omega) (els_nil _) rfl fair_nil (Sl.empty _ _ _) rfl Bts.nil (by simp)).mono ?_
          rintro e w3 ⟨rfl, hK3⟩
          replace hK3 := hK2.trans hK3
          go_wp2_with fail
          refine (works03_any _).mono ?_
          rintro e w4 ⟨rfl, hK4⟩
          go_wp2
          go_ret
          exact ⟨rfl, hK00.trans (hK3.trans hK4)⟩
end Go.Proofs.Ytoonnlphfanmhaa.K3
