/- Texts of this session, one behind the other, what the row does not use left out: walks and laws over plain data. -/
import Derived.Test.YthgjhdcifdfhoaaPU3
import Derived.Test.YthgjhdcifdfhoaaWWords
import Derived.Laws.Tables

namespace Go.Proofs.Ythgjhdcifdfhoaa.V5
open Go.RowKit Go.Proofs.Ythgjhdcifdfhoaa Go.Proofs.YthgjhdcifdfhoaaW.PrintWords
set_option linter.unusedVariables false
set_option linter.unusedSimpArgs false

set_option maxHeartbeats 2000000 in
set_option maxRecDepth 100000 in
theorem vput_any (w : World) (d : VD) (hok : d.Ok) :
    Calls Try.prog 55 #[.agg (dv d)] w fun e w' => ∃ v', e = .returned v' ∧ w'.ownsRow w.heap.size 5 1 v' (putV d).length (bv (putV d)) ∧ Kp (fun _ => True) w w' := by
  obtain ⟨n, st, part, hp, lg, pic, ht, tl, hi, ti, sy, hk, ky⟩ := d
  have HOK := hd hok
  clear hok
  go_enter Try.func55, Try.ntmps55
  go_wp2_with fail
  refine (new2 _).mono ?_
  rintro e w1 ⟨rfl, hW, hK1, hS1⟩
  have hB1 := (Blk.new w 31 (dv ⟨n, st, part, hp, lg, pic, ht, tl, hi, ti, sy, hk, ky⟩)).kp hK1 trivial
  have hK0 : Kp (fun _ => True) w w1 := ((Kp.refl _ _).alloc _).trans hK1
  have hpe : (w.alloc (.cells (dv ⟨n, st, part, hp, lg, pic, ht, tl, hi, ti, sy, hk, ky⟩) 31)).heap.size = w.heap.size + 1 := by simp
  have hW' : W2 w1 (w.heap.size + 1) (.slice none 0 0) [] := hpe ▸ hW
  have hpl : w.heap.size + 1 < w1.heap.size := hpe ▸ hS1
  have c3 : w1.cell? ⟨w.heap.size, 3, none⟩ = some (.bool hp) := hB1.cell 3
  have c6 : w1.cell? ⟨w.heap.size, 6, none⟩ = some (.bool ht) := hB1.cell 6
  have c8 : w1.cell? ⟨w.heap.size, 8, none⟩ = some (.bool hi) := hB1.cell 8
  have c11 : w1.cell? ⟨w.heap.size, 11, none⟩ = some (.bool hk) := hB1.cell 11
  have key : ∀ b, VP w w.heap.size (w1.alloc (.cells #[.bool b] 4)) (w.heap.size + 1) (.slice none 0 0) [] 0 w.heap.size ⟨n, st, part, hp, lg, pic, ht, tl, hi, ti, sy, hk, ky⟩ w1.heap.size b := fun b =>
    ⟨hW'.alloc _, Nat.le_refl _, hB1.alloc _, ⟨by simp; omega, by omega, by simp [Value.ownBlock]⟩, Blk.new _ _ _, ⟨by simp, by omega, by simp [Value.ownBlock]⟩, by omega, HOK.out,
      ⟨fun g hg => by simp [Value.ownBlock] at hg, (hK0.mono fun _ _ _ => trivial).alloc _, by simp; omega⟩, by omega, Nat.le_refl _⟩
  have KEY := hd key
  clear key hW hW' hB1 hK1 hS1 hpe
  cases hp
  · cases ht
    · cases hi
      · cases hk
        · go_wp2_with fail
          refine (visit_p (KEY.out false) rfl).mono ?_
          rintro e w2 ⟨rfl, v2, D2, q2, h2⟩
          go_wp2_with fail
          refine (out2 h2.wr (by have := h2.len; omega)).mono ?_
          rintro e w3 ⟨v3, rfl, hO, hK3⟩
          go_wp2
          go_ret
          exact ⟨v3, rfl, by have := own_weaken hO h2.lw.size; rw [q2.out] at this; exact this, (h2.lw.kp.all.trans hK3)⟩
        · go_wp2_with fail
          refine (visit_p (KEY.out true) rfl).mono ?_
          rintro e w2 ⟨rfl, v2, D2, q2, h2⟩
          go_wp2_with fail
          refine (out2 h2.wr (by have := h2.len; omega)).mono ?_
          rintro e w3 ⟨v3, rfl, hO, hK3⟩
          go_wp2
          go_ret
          exact ⟨v3, rfl, by have := own_weaken hO h2.lw.size; rw [q2.out] at this; exact this, (h2.lw.kp.all.trans hK3)⟩
      · go_wp2_with fail
        refine (visit_p (KEY.out true) rfl).mono ?_
        rintro e w2 ⟨rfl, v2, D2, q2, h2⟩
        go_wp2_with fail
        refine (out2 h2.wr (by have := h2.len; omega)).mono ?_
        rintro e w3 ⟨v3, rfl, hO, hK3⟩
        go_wp2
        go_ret
        exact ⟨v3, rfl, by have := own_weaken hO h2.lw.size; rw [q2.out] at this; exact this, (h2.lw.kp.all.trans hK3)⟩
    · go_wp2_with fail
      refine (visit_p (KEY.out true) rfl).mono ?_
      rintro e w2 ⟨rfl, v2, D2, q2, h2⟩
      go_wp2_with fail
      refine (out2 h2.wr (by have := h2.len; omega)).mono ?_
      rintro e w3 ⟨v3, rfl, hO, hK3⟩
      go_wp2
      go_ret
      exact ⟨v3, rfl, by have := own_weaken hO h2.lw.size; rw [q2.out] at this; exact this, (h2.lw.kp.all.trans hK3)⟩
  · go_wp2_with fail
    refine (visit_p (KEY.out true) rfl).mono ?_
    rintro e w2 ⟨rfl, v2, D2, q2, h2⟩
    go_wp2_with fail
    refine (out2 h2.wr (by have := h2.len; omega)).mono ?_
    rintro e w3 ⟨v3, rfl, hO, hK3⟩
    go_wp2
    go_ret
    exact ⟨v3, rfl, by have := own_weaken hO h2.lw.size; rw [q2.out] at this; exact this, (h2.lw.kp.all.trans hK3)⟩
theorem blk_setRow {w : World} {g : Nat} {t : TypeId} {old : Array Value} (h : Blk w g t old) (cells : Array Value) : Blk (w.setRow g cells) g t cells := setRow_heap w g old cells t (0, 0) h
theorem kp_setRow (w : World) (g : Nat) (cells : Array Value) : Kp (· ≠ g) w (w.setRow g cells) := by
  refine ⟨rfl, rfl, rfl, ?_, fun k hk _ => ?_⟩
  · simp [World.setRow]
  · simp [World.setRow, Array.getElem?_modify, Ne.symm hk]
theorem dv_one (d : VD) : (dv d).all (·.oneCell') = true := by simp [dv, Value.oneCell']
end Go.Proofs.Ythgjhdcifdfhoaa.V5

namespace Go.Proofs.Ythgjhdcifdfhoaa.V5
open Go.RowKit Go.Proofs.Ythgjhdcifdfhoaa Go.Proofs.YthgjhdcifdfhoaaW.PrintWords
set_option linter.unusedVariables false
set_option linter.unusedSimpArgs false

theorem RS.next_ok {bs : List Nat} {s : RS} {n : Nat} (h : (RS.next bs s n).err = 0) : s.err = 0 ∧ (RS.next bs s n).at_ = s.at_ + n := by
  unfold RS.next at h ⊢
  simp only at h ⊢
  refine ⟨(tErr_zero h).1, ?_⟩
  unfold tAt
  rw [if_pos h, Int.toNat_natCast]
theorem moreR_at {bs : List Nat} {s : RS} (h : (moreR bs s).2.2.2.2.err = 0) : s.err = 0 ∧ (moreR bs s).2.2.2.2.at_ = s.at_ + 8 := by
  obtain ⟨a1, b1⟩ := RS.next_ok (s := RS.next bs (RS.next bs (RS.next bs (RS.next bs s 1) 1) 1) 1) (n := 4) h
  obtain ⟨a2, b2⟩ := RS.next_ok a1
  obtain ⟨a3, b3⟩ := RS.next_ok a2
  obtain ⟨a4, b4⟩ := RS.next_ok a3
  obtain ⟨a5, b5⟩ := RS.next_ok a4
  refine ⟨a5, ?_⟩
  show (RS.next bs (RS.next bs (RS.next bs (RS.next bs (RS.next bs s 1) 1) 1) 1) 4).at_ = _
  omega
theorem picR_at {bs : List Nat} {s : RS} {hp : Bool} (h : (picR bs s hp).2.2.err = 0) : s.err = 0 ∧ (picR bs s hp).2.2.at_ % 8 = s.at_ % 8 := by
  unfold picR at h ⊢
  split at h
  · rename_i hh
    rw [if_pos hh]
    dsimp only at h ⊢
    obtain ⟨a1, b1⟩ := RS.next_ok h
    obtain ⟨a2, b2⟩ := RS.next_ok a1
    refine ⟨a2, ?_⟩
    rw [b1, b2]
    split <;> omega
  · rename_i hh
    rw [if_neg hh]
    exact ⟨h, rfl⟩
theorem tlR_at {bs : List Nat} {s : RS} {ht : Bool} (h : (tlR bs s ht).2.err = 0) : s.err = 0 ∧ (tlR bs s ht).2.at_ % 8 = s.at_ % 8 := by
  unfold tlR at h ⊢
  split at h
  · rename_i hh
    rw [if_pos hh]
    obtain ⟨a1, b1⟩ := RS.next_ok h
    refine ⟨a1, ?_⟩
    show (RS.next bs s 8).at_ % 8 = _
    omega
  · rename_i hh
    rw [if_neg hh]
    exact ⟨h, rfl⟩
theorem tiR_at {bs : List Nat} {s : RS} {b : Bool} (h : (tiR bs s b).2.2.2.err = 0) : s.err = 0 ∧ (tiR bs s b).2.2.2.at_ % 8 = s.at_ % 8 := by
  unfold tiR at h ⊢
  split at h
  · rename_i hh
    rw [if_pos hh]
    obtain ⟨a1, b1⟩ := RS.next_ok h
    obtain ⟨a2, b2⟩ := RS.next_ok a1
    obtain ⟨a3, b3⟩ := RS.next_ok a2
    refine ⟨a3, ?_⟩
    show (RS.next bs (RS.next bs (RS.next bs s 2) 1) 5).at_ % 8 = _
    omega
  · rename_i hh
    rw [if_neg hh]
    exact ⟨h, rfl⟩
theorem vis_at {bs : List Nat} (h : (visR bs ⟨0, 0⟩).2.err = 0) : (visR bs ⟨0, 0⟩).2.at_ % 8 = 0 := by
  have key : ∀ s6 : RS, s6 = RS.next bs (RS.next bs (RS.next bs (RS.next bs (RS.next bs (RS.next bs ⟨0, 0⟩ 1) 1) 1) 1) 1) 3 → s6.err = 0 → s6.at_ = 8 := by
    rintro _ rfl h6
    obtain ⟨a1, b1⟩ := RS.next_ok h6
    obtain ⟨a2, b2⟩ := RS.next_ok a1
    obtain ⟨a3, b3⟩ := RS.next_ok a2
    obtain ⟨a4, b4⟩ := RS.next_ok a3
    obtain ⟨a5, b5⟩ := RS.next_ok a4
    obtain ⟨a6, b6⟩ := RS.next_ok a5
    simp only at b6
    omega
  unfold visR at h ⊢
  simp only at h ⊢
  split at h
  · rename_i hh
    rw [if_pos hh]
    simp only at h ⊢
    obtain ⟨a1, b1⟩ := tiR_at h
    obtain ⟨a2, b2⟩ := tlR_at a1
    obtain ⟨a3, b3⟩ := picR_at a2
    obtain ⟨a4, b4⟩ := moreR_at a3
    have := key _ rfl a4
    omega
  · rename_i hh
    rw [if_neg hh]
    have := key _ rfl h
    dsimp only
    omega
/-- What Parse answers. -/
def pD (bs : List Nat) : VD := match refB bs with | some (d, _) => d | none => VD.zero
def pR (bs : List Nat) : List Nat := match refB bs with | some (_, k) => bs.drop k | none => []
def pE (bs : List Nat) : Int := match refB bs with | some _ => 0 | none => 10
set_option maxHeartbeats 2000000 in
set_option maxRecDepth 100000 in
theorem vplain_any (w : World) (d : VD) :
    Calls Try.prog 51 #[.agg (dv d)] w fun e w' => e = .returned (.agg (dv d.plain)) ∧ Kp (fun _ => True) w w' := by
  obtain ⟨n, st, part, hp, lg, pic, ht, tl, hi, ti, sy, hk, ky⟩ := d
  unfold dv
  go_enter Try.func51, Try.ntmps51
  cases hp <;> cases ht <;> cases hi <;> cases hk
  all_goals
    go_wp2
    refine bodyPost_ret (results_single rfl (.cell (w.heap.size + 1) 31 _ (0, 0) _ rfl (by rw [← show (w.alloc _).heap.size = w.heap.size + 1 from by simp]; exact Blk.new _ _ _) Try.underlying31 rfl (by kernel_rfl) .nil)) rfl ⟨rfl, ((Kp.refl _ _).alloc _).alloc _⟩
end Go.Proofs.Ythgjhdcifdfhoaa.V5

namespace Go.Proofs.Ythgjhdcifdfhoaa.V5
open Go.RowKit Go.Proofs.Ythgjhdcifdfhoaa Go.Proofs.YthgjhdcifdfhoaaW.PrintWords
set_option linter.unusedVariables false
set_option linter.unusedSimpArgs false

theorem pP_of {bs : List Nat} (hb : Bts bs) : (if (visR bs ⟨0, 0⟩).2.err = 0 then some ((visR bs ⟨0, 0⟩).1.plain, (visR bs ⟨0, 0⟩).2.at_ / 8) else none) = refB bs := parV_ref bs hb
set_option maxHeartbeats 2000000 in
set_option maxRecDepth 100000 in
theorem vParse_any {w : World} {v : Value} {bs : List Nat} (hs : Sl w v (bv bs)) (hb : Bts bs) (hl : bs.length ≤ 140737488351232) :
    Calls Try.prog 15 #[v] w fun e w' => ∃ v', e = .returned (.tuple #[.agg (dv (pD bs)), v', .int .i64 (pE bs)]) ∧ w'.ownsRow w.heap.size 5 1 v' (pR bs).length (bv (pR bs)) ∧ Kp (fun _ => True) w w' := by
  have HQ := hd (pP_of hb)
  have HB := hd hb
  go_enter Try.func15, Try.ntmps15
  go_wp2_with fail
  refine (Of_any (hs.alloc _) hb hl).mono ?_
  rintro e w1 ⟨p, v1, rfl, hpw, hR, hv1, hK1⟩
  have hB1 := (Blk.new w 31 (dv VD.zero)).kp hK1 trivial
  have hK0 : Kp (fun _ => True) w w1 := ((Kp.refl _ _).alloc _).trans hK1
  have hpe : (w.alloc (.cells (dv VD.zero) 31)).heap.size = w.heap.size + 1 := by simp
  have hpw' : w.heap.size + 1 ≤ p := hpe ▸ hpw
  have hv1' : ∀ g, v1.ownBlock = some g → w.heap.size + 1 ≤ g := fun g hg => hpe ▸ hv1 g hg
  have hVT : VT (w1.alloc (.cells #[.bool false] 4)) p bs ⟨0, 0⟩ v1 w.heap.size VD.zero w1.heap.size false :=
    ⟨hR.alloc _, ⟨hB1.alloc _, by omega, fun e => by have := hv1' _ e; omega⟩, ⟨Blk.new _ _ _, by have := hR.blk.lt; omega, fun e => by have := hR.vlt _ e; omega⟩, by have := hB1.lt; omega, VD.zero_ok⟩
  have hK2 : Kp (fun _ => True) w (w1.alloc (.cells #[.bool false] 4)) := hK0.alloc _
  have hl1 := hK0.size
  have hbl := hB1.lt
  clear hpw hv1 hB1 hK0 hK1
  go_wp2_with fail
  refine (visit_t hVT).mono ?_
  rintro e w2 ⟨rfl, s, d, b, q, h2, hK3⟩
  have hK4 : Kp (· < w.heap.size) w w2 := (hK2.mono fun _ _ _ => trivial).next hK3 (fun k hk _ => ⟨by omega, by omega, by omega⟩)
  have hM := h2.pd.np
  have hN := h2.pd.nv
  go_wp2_with fail
  refine (rerr_any h2.rd).mono ?_
  rintro e w3 ⟨rfl, rfl⟩
  have hq := HQ.out
  rw [q.out] at hq
  dsimp only at hq
  have hBd := h2.pd.blk
  have cd := hBd.cell
  have fd := hBd.frozen
  by_cases he : s.err = 0
  · have g0 : (s.err != 0) = false := by rw [he]; rfl
    rw [if_pos he] at hq
    have HA := vis_at (bs := bs) (by rw [q.out]; exact he)
    rw [q.out] at HA
    have hle := h2.rd.le
    have e1 : pD bs = d.plain := by unfold pD; rw [← hq]
    have e2 : pR bs = bs.drop (s.at_ / 8) := by unfold pR; rw [← hq]
    have e3 : pE bs = 0 := by unfold pE; rw [← hq]
    have hR3 : Rd w3 p bs s.at_ 0 v1 := he ▸ h2.rd
    have E1 := hd e1
    have E2 := hd e2
    have E3 := hd e3
    have HA8 := hd HA
    have HLE := hd hle
    clear hq e1 e2 e3 HQ HA hle cd fd hBd
    obtain ⟨n, st, part, hp, lg, pic, ht, tl, hi, ti, sy, hk, ky⟩ := d
    have hBd : Blk w3 w.heap.size 31 #[.bool n, .bool st, .int .u8 (part : Int), .bool hp, .bool lg, .int .u16 (pic : Int), .bool ht, .int .u8 (tl : Int), .bool hi, .int .u8 (ti : Int), .bool sy, .bool hk, .int .u8 (ky : Int)] := h2.pd.blk
    have cd := hBd.cell
    go_wp2_with fail
    refine (vplain_any w3 ⟨n, st, part, hp, lg, pic, ht, tl, hi, ti, sy, hk, ky⟩).mono ?_
    rintro e w3b ⟨rfl, hK5⟩
    have E1' := E1.out
    generalize VD.plain _ = dp at E1' ⊢
    clear E1
    have E1 := hd E1'
    clear E1' cd
    obtain ⟨n', st', part', hp', lg', pic', ht', tl', hi', ti', sy', hk', ky'⟩ := dp
    have hR4 := hR3.kp hK5 trivial (fun _ _ => trivial)
    have hB4 := hBd.kp hK5 trivial
    clear hR3 hBd
    have hP := h2.pd.np
    go_wp2_with fail
    refine (Rest_ok hR4 (bs.length - s.at_ / 8) (by have := HA8.out; have := HLE.out; omega)).mono ?_
    rintro e w4 ⟨v', rfl, hO, hR5, hK6⟩
    have hB5 := hB4.kp hK6 hP
    have c5 := hB5.cell
    have f5 := hB5.frozen
    have hZ3 := hK5.size
    have hbl3 := hB4.lt
    have hK7 : Kp (· < w.heap.size) w w4 := (hK4.next hK5 (fun _ _ _ => trivial)).next hK6 (fun k hk _ => by omega)
    have hS : ∀ k, k < w.heap.size → k < w.heap.size → k ≠ w.heap.size := fun k hk _ => by omega
    go_wp2_with (refine wpList_store_row rfl 31 (.tmp 2) (.tmp 18) rfl w.heap.size (dv ⟨n', st', part', hp', lg', pic', ht', tl', hi', ti', sy', hk', ky'⟩) rfl rfl 31 _ hB5 (by kernel_rfl) rfl (dv_one _) ?_)
    have hB6 := blk_setRow hB5 (dv ⟨n', st', part', hp', lg', pic', ht', tl', hi', ti', sy', hk', ky'⟩)
    have hK8 := kp_setRow w4 w.heap.size (dv ⟨n', st', part', hp', lg', pic', ht', tl', hi', ti', sy', hk', ky'⟩)
    refine bodyPost_ret (results_ctt rfl _ _ w.heap.size 31 _ (0, 0) _ rfl hB6 Try.underlying31 rfl (by kernel_rfl)) rfl ⟨v', ?_, ?_, (hK7.next hK8 (fun k hk _ => by omega)).all⟩
    · rw [E1.out, E3.out]; rfl
    · rw [E2.out]
      have hby : bys bs s.at_ (bs.length - s.at_ / 8) = bs.drop (s.at_ / 8) := by
        have := HA8.out
        have h8 : 8 * (s.at_ / 8) = s.at_ := by omega
        have := bys_whole HB.out (s.at_ / 8) (bs.length - s.at_ / 8) (by have := HLE.out; omega)
        rw [h8] at this
        rw [this, List.take_of_length_le (by rw [List.length_drop]; omega)]
      rw [hby] at hO
      rw [List.length_drop]
      exact own_weaken (own_kp hO hK8 (fun g hg _ => by omega)) (by omega)
  · have g0 : (s.err != 0) = true := by rw [bne_iff_ne]; exact he
    rw [if_neg he] at hq
    have e1 : pD bs = VD.zero := by unfold pD; rw [← hq]
    have e2 : pR bs = [] := by unfold pR; rw [← hq]
    have e3 : pE bs = 10 := by unfold pE; rw [← hq]
    have E1 := hd e1
    have E2 := hd e2
    have E3 := hd e3
    clear hq e1 e2 e3 HQ cd fd hBd
    obtain ⟨n, st, part, hp, lg, pic, ht, tl, hi, ti, sy, hk, ky⟩ := d
    have hBd : Blk w3 w.heap.size 31 #[.bool n, .bool st, .int .u8 (part : Int), .bool hp, .bool lg, .int .u16 (pic : Int), .bool ht, .int .u8 (tl : Int), .bool hi, .int .u8 (ti : Int), .bool sy, .bool hk, .int .u8 (ky : Int)] := h2.pd.blk
    have cd := hBd.cell
    have fd := hBd.frozen
    have hS : ∀ k, k < w.heap.size → k < w.heap.size → k ≠ w.heap.size := fun k hk _ => by omega
    go_wp2_with (refine wpList_store_row rfl 31 (.tmp 2) (.tmp 16) rfl w.heap.size (dv VD.zero) rfl rfl 31 _ hBd (by kernel_rfl) rfl (dv_one _) ?_)
    have hB6 := blk_setRow hBd (dv VD.zero)
    have hK8 := kp_setRow w3 w.heap.size (dv VD.zero)
    exact bodyPost_ret (results_ctt rfl _ _ w.heap.size 31 _ (0, 0) _ rfl hB6 Try.underlying31 rfl (by kernel_rfl)) rfl ⟨_, by rw [E1.out, E3.out]; rfl, by rw [E2.out]; exact World.ownsRow_nil _ _ _ _, (hK4.next hK8 (fun k hk _ => by omega)).all⟩
end Go.Proofs.Ythgjhdcifdfhoaa.V5
