/- Texts of this session, one behind the other, what the row does not use left out: walks and laws over plain data. -/
import Derived.Test.YtjcejgolcdgipaaPFP21
import Derived.Test.YtjcejgolcdgipaaPFP22
import Derived.Test.YtjcejgolcdgipaaPFP23
import Derived.Test.YtjcejgolcdgipaaPFP13
import Derived.Test.YtjcejgolcdgipaaPFP20
import Derived.Test.YtjcejgolcdgipaaPFP11
import Derived.Test.YtjcejgolcdgipaaPFP17
import Derived.Test.YtjcejgolcdgipaaPFP7

namespace Go.Proofs.Ytjcejgolcdgipaa.K7
open Go.RowKit Go.Proofs.YtjcejgolcdgipaaW.PrintWords Go.Proofs.YtjcejgolcdgipaaW.PrintLast Go.Proofs.YtjcejgolcdgipaaW.PrintMore
set_option linter.unusedVariables false
set_option linter.unusedSimpArgs false

def toRO (p : Nat × Nat) : S119 := ⟨(p.1 : Int), (p.2 : Int)⟩
def numB (x n : Nat) : List Nat := pack (ofn x (8 * n))
theorem numB_len (x n : Nat) : (numB x n).length = n := by unfold numB; rw [pack_length, ofn_length]; omega
theorem numB_getD (x n i : Nat) (h : i < n) : (numB x n).getD i 0 = x / 256 ^ (n - 1 - i) % 256 := by
  have hs : ofn x (8 * n) = ofn (x / 2 ^ (8 * (n - i))) (8 * i) ++ (ofn (x / 2 ^ (8 * (n - 1 - i))) 8 ++ ofn x (8 * (n - 1 - i))) := by
    have h1 := ofn_split x (8 * i) (8 * (n - i))
    have h2 := ofn_split x 8 (8 * (n - 1 - i))
    rw [show 8 * i + 8 * (n - i) = 8 * n from by omega] at h1
    rw [show 8 + 8 * (n - 1 - i) = 8 * (n - i) from by omega] at h2
    rw [h1, h2]
  have hv := vl_pack (A := ofn (x / 2 ^ (8 * (n - i))) (8 * i)) (B := ofn x (8 * (n - 1 - i))) (x / 2 ^ (8 * (n - 1 - i))) 8 (ofn_dgs _ _) (ofn_dgs _ _)
  rw [ofn_length, ← hs] at hv
  have hb := vl_byte (numB x n) i (Bts.getD (pack_bytes (ofn_dgs x (8 * n))) i)
  have hb' : vl (pack (ofn x (8 * n))) (8 * i) 8 = (numB x n).getD i 0 := hb
  rw [← hb', hv, Nat.pow_mul]
theorem ib_set (l : List Nat) (i : Nat) (x : Nat) : (ib l).set i (x : Int) = ib (l.set i x) := by simp [ib, List.map_set]
theorem num_l (n x : Nat) (hx : x < 18446744073709551616) (hn : n ≤ 8) : ∀ (j : Nat) (out : List Nat), j ≤ n → out.length = n → Ev (fun k => easelref02_Number.l0 k ((x / 256 ^ (n - j) : Nat) : Int) (ib out) ((j : Int) - 1)) (ib ((numB x n).take j ++ out.drop j))
  | 0, out, hj, ho => Ev.step (f := fun _ => some (ib out)) (fun k => by
      rw [easelref02_Number.l0, if_neg (by omega)]) (by
      rw [List.take_zero, List.nil_append, List.drop_zero]; exact Ev.now _)
  | j + 1, out, hj, ho => by
    have hX : x / 256 ^ (n - (j + 1)) < 18446744073709551616 := Nat.lt_of_le_of_lt (Nat.div_le_self _ _) hx
    have hdiv : x / 256 ^ (n - (j + 1)) / 256 = x / 256 ^ (n - j) := by
      rw [Nat.div_div_eq_div_mul, ← Nat.pow_succ, show (n - (j + 1)).succ = n - j from by omega]
    have ih := num_l n x hx hn j (out.set j (x / 256 ^ (n - (j + 1)) % 256)) (by omega) (by rw [List.length_set]; exact ho)
    have hres : (numB x n).take (j + 1) ++ out.drop (j + 1) = (numB x n).take j ++ (out.set j (x / 256 ^ (n - (j + 1)) % 256)).drop j := by
      have h1 : j < (numB x n).length := by rw [numB_len]; omega
      have h2 : j < (out.set j (x / 256 ^ (n - (j + 1)) % 256)).length := by rw [List.length_set]; omega
      rw [List.take_succ_eq_append_getElem h1, List.drop_eq_getElem_cons h2, List.getElem_set_self, List.append_assoc]
      have h3 := numB_getD x n j (by omega)
      rw [List.getD_eq_getElem?_getD, List.getElem?_eq_getElem h1, Option.getD_some, show n - 1 - j = n - (j + 1) from by omega] at h3
      rw [h3, List.drop_set_of_lt (by omega)]
      rfl
    rw [hres]
    refine Ev.step (fun k => ?_) ih
    generalize x / 256 ^ (n - (j + 1)) = X at *
    rw [easelref02_Number.l0, if_pos (by omega), if_pos (by omega), if_pos (by rw [ib_length]; omega)]
    have e1 : IntKind.u64.wrap (Int.tdiv (X : Int) 256) = ((x / 256 ^ (n - j) : Nat) : Int) := by
      rw [Int.tdiv_eq_ediv_of_nonneg (by omega), ← hdiv, IntWalk.u64_in _ (by omega)]; omega
    have e2 : Int.tmod (X : Int) 256 % 256 = ((X % 256 : Nat) : Int) := by
      rw [Int.tmod_eq_emod_of_nonneg (by omega)]; omega
    have e3 : wrap64 (((j + 1 : Nat) : Int) - 1 - 1) = (j : Int) - 1 := by unfold wrap64; omega
    have e4 : (((j + 1 : Nat) : Int) - 1).toNat = j := by omega
    rw [e1, e2, e3, e4, ib_set]
theorem ev_num (n x : Nat) (hx : x < 18446744073709551616) (hn : n ≤ 8) : Ev (fun k => easelref02_Number.f k (x : Int) (n : Int)) (ib (numB x n)) := by
  have h := num_l n x hx hn n (List.replicate n 0) (Nat.le_refl _) (List.length_replicate)
  rw [List.take_of_length_le (by rw [numB_len]; exact Nat.le_refl _), List.drop_of_length_le (by rw [List.length_replicate]; exact Nat.le_refl _), List.append_nil, Nat.sub_self, Nat.pow_zero, Nat.div_one] at h
  refine Ev.congr (fun k => ?_) h
  unfold easelref02_Number.f
  have e1 : wrap64 ((n : Int) - 1) = (n : Int) - 1 := by unfold wrap64; omega
  rw [if_pos (by omega), if_pos (by omega), e1, Int.toNat_natCast]
  congr 1
  simp [ib]
def pairB (l : List (Nat × Nat)) : List Nat := l.flatMap fun x => numB x.1 2 ++ numB x.2 2
def orderB (l : List (Nat × Nat)) : List Nat := l.flatMap fun x => numB x.1 4 ++ [x.2, 0, 0, 0]
def srcB (l : List Nat) : List Nat := l.flatMap fun x => numB x 4
theorem pack_pairs (l : List (Nat × Nat)) : pack (pairsN l) = pairB l := by
  induction l with
  | nil => rfl
  | cons x l ih =>
    rw [show x :: l = [x] ++ l from rfl, pairsN_append, pack_append _ _ (by rw [pairsN_len]; simp), ih]
    have : pairsN [x] = ofn x.1 16 ++ ofn x.2 16 := by simp [pairsN]
    rw [this, pack_append _ _ (by rw [ofn_length])]
    rfl
theorem pack_one (y : Nat) (hy : y < 256) : pack (ofn y 8) = [y] := by
  have h := numB_getD y 1 0 (by decide)
  have hl := numB_len y 1
  have h' : numB y 1 = pack (ofn y 8) := rfl
  rw [← h']
  generalize numB y 1 = L at *
  match L, hl with
  | [a], _ =>
    have : a = y := by simpa [Nat.mod_eq_of_lt hy] using h
    rw [this]
theorem pack_orders (l : List (Nat × Nat)) (h : ∀ x ∈ l, x.2 < 256) : pack (ordersN l) = orderB l := by
  induction l with
  | nil => rfl
  | cons x l ih =>
    have hx := h x (by simp)
    rw [show x :: l = [x] ++ l from rfl, ordersN_append, pack_append _ _ (by rw [ordersN_len]; simp), ih (fun y hy => h y (by simp [hy]))]
    have : ordersN [x] = (ofn x.1 32 ++ ofn x.2 8) ++ ofn 0 24 := by simp [ordersN]
    rw [this, pack_append _ _ (by rw [List.length_append, ofn_length, ofn_length]), pack_append _ _ (by rw [ofn_length]), pack_one _ hx]
    have h0 : pack (ofn 0 24) = [0, 0, 0] := by decide
    rw [h0]
    show numB x.1 4 ++ [x.2] ++ [0, 0, 0] ++ orderB l = _
    simp [orderB]
theorem pack_srcs (l : List Nat) : pack (srcsN l) = srcB l := by
  induction l with
  | nil => rfl
  | cons x l ih =>
    rw [show x :: l = [x] ++ l from rfl, srcsN_append, pack_append _ _ (by rw [srcsN_len]; simp), ih]
    have : srcsN [x] = ofn x 32 := by simp [srcsN]
    rw [this]
    rfl
theorem pack_rate (e m : Nat) (l : List Nat) (he : e ≤ 63) (hm : m < 262144) (hl : l.length ≤ 255) : pack (rateN e m l) = [82, 69, 77, 66, l.length] ++ numB (e * 262144 + m) 3 ++ srcB l := by
  have h24 : ofn e 6 ++ ofn m 18 = ofn (e * 262144 + m) 24 := by
    rw [show 24 = 6 + 18 from rfl, ofn_split, show (e * 262144 + m) / 2 ^ 18 = e from by omega]
    rw [ofn_congr (x := e * 262144 + m) (y := m) (k := 18) (by omega)]
  have hr : rateN e m l = ((ofn rembN 32 ++ ofn l.length 8) ++ ofn (e * 262144 + m) 24) ++ srcsN l := by
    unfold rateN
    rw [← h24]
    simp only [List.append_assoc]
  have h0 : pack (ofn rembN 32) = [82, 69, 77, 66] := by decide
  rw [hr, pack_append _ _ (by rw [List.length_append, List.length_append, ofn_length, ofn_length, ofn_length]), pack_append _ _ (by rw [List.length_append, ofn_length, ofn_length]), pack_append _ _ (by rw [ofn_length]), pack_srcs, pack_one _ (by omega), h0]
  rfl
theorem bodyN_bytes (M : PM) : bodyN M = numB M.sd 4 ++ numB M.md 4 ++ pack (partN M) := by
  unfold bodyN
  rw [pack_append _ _ (by rw [List.length_append, ofn_length, ofn_length]), pack_append _ _ (by rw [ofn_length])]
  rfl
theorem pairB_append (a b : List (Nat × Nat)) : pairB (a ++ b) = pairB a ++ pairB b := by simp [pairB]
theorem orderB_append (a b : List (Nat × Nat)) : orderB (a ++ b) = orderB a ++ orderB b := by simp [orderB]
theorem srcB_append (a b : List Nat) : srcB (a ++ b) = srcB a ++ srcB b := by simp [srcB]
theorem u64_nat (x : Nat) (h : x < 18446744073709551616) : IntKind.u64.wrap (x : Int) = (x : Int) := IntWalk.u64_in _ (by omega)
end Go.Proofs.Ytjcejgolcdgipaa.K7

namespace Go.Proofs.Ytjcejgolcdgipaa.K7
open Go.RowKit Go.Proofs.YtjcejgolcdgipaaW.PrintWords Go.Proofs.YtjcejgolcdgipaaW.PrintLast Go.Proofs.YtjcejgolcdgipaaW.PrintMore
set_option linter.unusedVariables false
set_option linter.unusedSimpArgs false

theorem infoU8_ : (Try.prog.info? 5).map (fun i => (i.zero, i.size, i.bytes)) = some (some (.int .u8 0), 1, 1) := by kernel_rfl
/-- The row that grows; what was there at the start is as it was. -/
structure BO (w0 w : World) (v : Value) (n : Nat) (acc : List Nat) : Prop where
  own : w.ownsRow w0.heap.size 5 1 v n (bv acc)
  bel : Below w0.heap.size w0 w
theorem BO.keep {w0 w w' : World} {v : Value} {n : Nat} {acc : List Nat} (h : BO w0 w v n acc) (hb : Below w.heap.size w w') : BO w0 w' v n acc := ⟨own_kp h.own (kp_of_below hb) (fun _ _ _ => trivial), h.bel.trans (hb.mono h.bel.size)⟩
theorem BO.app {w0 w w' : World} {v v' : Value} {n k : Nat} {acc news : List Nat} (h : BO w0 w v n acc) (ho : w'.ownsRow w0.heap.size 5 1 v' (n + (bv news).length) (bv acc ++ bv news)) (hg : w.grownBy w' v.ownBlock) (hk : n + (bv news).length = k) : BO w0 w' v' k (acc ++ news) := by
  subst hk
  refine ⟨by rw [show bv (acc ++ news) = bv acc ++ bv news from by simp [bv]]; exact ho, h.bel.trans ?_⟩
  exact (Kp.of_grown (F := (· < w0.heap.size)) hg (fun k hk _ e => by have := (h.own.lt k e.symm).1; omega)).to_below h.bel.size (fun _ hk => hk)
theorem num_any (w : World) (x n : Nat) (hx : x < 18446744073709551616) (hn : n ≤ 8) (a b : Int) (ha : a = x) (hb : b = n) : Calls Try.prog 113 #[.int .u64 a, .int .i64 b] w fun e w' => ∃ v, e = .returned v ∧ w'.ownsRow w.heap.size 5 1 v n (bv (numB x n)) ∧ Below w.heap.size w w' := by
  subst ha hb
  obtain ⟨k, hk⟩ := (ev_num n x hx hn).rounds
  refine (easelref02_Number.calls k x n _ w hk).mono ?_
  rintro e w' ⟨v, rfl, hR, hB⟩
  refine ⟨v, rfl, ?_, hB⟩
  have h := Kd.own_of_R hR
  rw [ib_length, numB_len] at h
  rw [show bv (numB x n) = encs (Value.int .u8) (ib (numB x n)) from by simp [bv, ib, encs]]
  exact h
theorem C2p {w : World} {A : Option Addr} {l : List (Nat × Nat)} (h : Kd.C k115 w A l.length (l.map toRP)) (k : Nat) (hk : k < l.length) : ∃ b off, A = some ⟨b, off, none⟩ ∧ w.cell? ⟨b, off + k * 2, none⟩ = some (.int .u16 (l[k].1 : Int)) ∧ w.cell? ⟨b, off + k * 2 + 1, none⟩ = some (.int .u16 (l[k].2 : Int)) := by
  obtain ⟨b, off, e, _, h0, h1⟩ := C2_at rfl _ _ (fun h => k115_open h) h k (toRP l[k]) (by rw [List.getElem?_map, List.getElem?_eq_getElem hk]; rfl) hk
  exact ⟨b, off, e, h0, h1⟩
theorem C2o {w : World} {A : Option Addr} {l : List (Nat × Nat)} (h : Kd.C k119 w A l.length (l.map toRO)) (k : Nat) (hk : k < l.length) : ∃ b off, A = some ⟨b, off, none⟩ ∧ w.cell? ⟨b, off + k * 2, none⟩ = some (.int .u32 (l[k].1 : Int)) ∧ w.cell? ⟨b, off + k * 2 + 1, none⟩ = some (.int .u8 (l[k].2 : Int)) := by
  obtain ⟨b, off, e, _, h0, h1⟩ := C2_at rfl _ _ (fun h => k119_open h) h k (toRO l[k]) (by rw [List.getElem?_map, List.getElem?_eq_getElem hk]; rfl) hk
  exact ⟨b, off, e, h0, h1⟩
theorem C1s {w : World} {A : Option Addr} {l : List Nat} (h : Kd.C (Kd.int .u32) w A l.length (ib l)) (k : Nat) (hk : k < l.length) : ∃ b off, A = some ⟨b, off, none⟩ ∧ w.cell? ⟨b, off + k, none⟩ = some (.int .u32 (l[k] : Int)) := by
  obtain ⟨b, off, e, _, h0⟩ := C1_at h k (l[k] : Int) (by simp [ib, List.getElem?_eq_getElem hk]) hk
  exact ⟨b, off, e, h0⟩
theorem sl_litb (w : World) (cells : Array Value) (bs : List Nat) (n c : Nat) (hc : cells = (bv bs).toArray) (hn : n = bs.length) (hcc : c = bs.length) (hl : bs.length ≤ 100000) : Sl (w.alloc (.cells cells 5)) (.slice (some ⟨w.heap.size, 0, none⟩) n c) (bv bs) := by
  subst hc
  exact Sl.lit w 5 (bv bs) n c (by rw [bv_length]; exact hn) (by rw [bv_length]; exact hcc) (by rw [bv_length]; unfold maxLen; omega)
theorem lit4 (w : World) (x : Nat) : Sl (w.alloc (.cells #[.int .u8 (x : Int), .int .u8 0, .int .u8 0, .int .u8 0] 5)) (.slice (some ⟨w.heap.size, 0, none⟩) 4 4) (bv [x, 0, 0, 0]) := sl_litb w _ _ _ _ rfl rfl rfl (by simp)
theorem lit5 (w : World) (x : Nat) : Sl (w.alloc (.cells #[.int .u8 82, .int .u8 69, .int .u8 77, .int .u8 66, .int .u8 (x : Int)] 5)) (.slice (some ⟨w.heap.size, 0, none⟩) 5 5) (bv [82, 69, 77, 66, x]) := sl_litb w _ _ _ _ rfl rfl rfl (by simp)
section
variable {w : World} (s sd md e m : Nat) {A3 A4 A7 : Option Addr} {c3 c4 c7 : Nat} (P O : List (Nat × Nat)) (S : List Nat)
def tailB : List Nat := if s = 4 then [82, 69, 77, 66, S.length] ++ numB (e * 262144 + m) 3 ++ srcB S else []
set_option maxHeartbeats 8000000 in
set_option maxRecDepth 100000 in
theorem r7body_any (hsd : sd < 4294967296) (hmd : md < 4294967296) (h3 : Kd.C k115 w A3 P.length (P.map toRP)) (h4 : Kd.C k119 w A4 O.length (O.map toRO)) (h7 : Kd.C (Kd.int .u32) w A7 S.length (ib S))
    (l3 : P.length ≤ 1000) (l4 : O.length ≤ 1000) (l7 : S.length ≤ 1000) (x3 : ∀ x ∈ P, x.1 < 65536 ∧ x.2 < 65536) (x4 : ∀ x ∈ O, x.1 < 4294967296 ∧ x.2 < 256) (x7 : ∀ x ∈ S, x < 4294967296) (hs4 : s = 4 → e ≤ 63 ∧ m < 262144 ∧ S.length ≤ 255) :
    Calls Try.prog 73 #[.agg #[.int .u8 (s : Int), .int .u32 (sd : Int), .int .u32 (md : Int), .slice A3 P.length c3, .slice A4 O.length c4, .int .u8 (e : Int), .int .u32 (m : Int), .slice A7 S.length c7]] w fun e_ w' => ∃ v n, e_ = .returned v ∧ w'.ownsRow w.heap.size 5 1 v n (bv (numB sd 4 ++ numB md 4 ++ pairB P ++ orderB O ++ tailB s e m S)) ∧ Below w.heap.size w w' := by
  obtain ⟨w0, hw0⟩ : ∃ w0, w0 = w.alloc (.cells #[.int .u8 (s : Int), .int .u32 (sd : Int), .int .u32 (md : Int), .slice A3 P.length c3, .slice A4 O.length c4, .int .u8 (e : Int), .int .u32 (m : Int), .slice A7 S.length c7] 46) := ⟨_, rfl⟩
  have hB0 : Below w.heap.size w w0 := hw0 ▸ below_alloc' w _
  have bM : Blk w0 w.heap.size 46 #[.int .u8 (s : Int), .int .u32 (sd : Int), .int .u32 (md : Int), .slice A3 P.length c3, .slice A4 O.length c4, .int .u8 (e : Int), .int .u32 (m : Int), .slice A7 S.length c7] := hw0 ▸ Blk.new w _ _
  have hs0 : w.heap.size < w0.heap.size := bM.lt
  have H3 := hd (Kd.C_below h3 hB0)
  have H4 := hd (Kd.C_below h4 hB0)
  have H7 := hd (Kd.C_below h7 hB0)
  have HW0 := hd hw0
  have HB := hd hB0
  clear h3 h4 h7 hw0 hB0
  obtain ⟨i0, hi0, hz0, hz1, hz2⟩ := info_parts infoU8_
  have cM := bM.cell
  have wsd : IntKind.u64.wrap (sd : Int) = (sd : Int) := u64_nat _ (by omega)
  have wmd : IntKind.u64.wrap (md : Int) = (md : Int) := u64_nat _ (by omega)
  go_enter Try.func73, Try.ntmps73
  go_upto_region 1 with (fail)
  rw [← HW0.out]
  clear HW0
  go_wp2_with fail
  refine (num_any _ sd 4 (by omega) (by omega) _ _ rfl rfl).mono ?_
  rintro e_ w1 ⟨v1, rfl, hv1, hb1⟩
  have hO1 : BO w0 w1 v1 4 (numB sd 4) := ⟨hv1, hb1⟩
  clear cM hv1 hb1
  have cM := (bM.kp (kp_of_below hO1.bel) trivial).cell
  go_wp2_with fail
  refine (num_any _ md 4 (by omega) (by omega) _ _ rfl rfl).mono ?_
  rintro e_ w2 ⟨v2, rfl, hv2, hb2⟩
  have hO2 := hO1.keep hb2
  clear cM hO1
  go_wp2_with (at_builtin; refine wpList_apps rfl (.tmp 11) (.tmp 15) 38 rfl w0.heap.size 5 i0 (.int .u8 0) 1 Try.underlying38 hi0 hz0 hz1 hz2 rfl (v1) 4 (bv (numB sd 4)) rfl hO2.own (v2) (bv (numB md 4)) rfl (Sl.of_own hv2) (bv_oneCell _) (by rw [bv_length]; first | omega | (simp only [numB_len]; omega) | (simp only [List.length_cons, List.length_nil]; omega)) (by decide) hO2.bel.size ?_; intro v3 w3 ho3 hg3 _)
  have hO3 := hO2.app ho3 hg3 (k := 8) (by rw [bv_length, numB_len])
  obtain ⟨B3, d3, hv3_⟩ := own_slice hO3.own
  subst hv3_
  clear ho3 hg3 hO2 hv2 hb2 wsd wmd
  go_loopw [3, 4] (fun (vv iv : Value) wr => ∃ (j : Nat) (B : Option Addr) (d : Nat), j ≤ P.length ∧ iv = .int .i64 j ∧ vv = .slice B (8 + 4 * j) d ∧ BO w0 wr vv (8 + 4 * j) (numB sd 4 ++ numB md 4 ++ pairB (P.take j))) (fun _ iv _ => P.length - (intOf iv).toNat)
  case atStart => exact ⟨0, B3, d3, Nat.zero_le _, rfl, rfl, by simpa [pairB] using hO3⟩
  case round =>
    obtain ⟨j, B, d, hj, rfl, rfl, hO⟩ := hrel
    clear hO3
    have cM := (bM.kp (kp_of_below hO.bel) trivial).cell
    by_cases hlt : j < P.length
    · obtain ⟨bx, ox, rfl, cx, cy⟩ := C2p (Kd.C_below H3.out hO.bel) j hlt
      have hx := x3 _ (List.getElem_mem hlt)
      have HT := hd (show numB sd 4 ++ numB md 4 ++ pairB (P.take (j + 1)) = numB sd 4 ++ numB md 4 ++ pairB (P.take j) ++ numB P[j].1 2 ++ numB P[j].2 2 from by rw [List.take_succ_eq_append_getElem hlt, pairB_append]; simp [pairB])
      have HC := hd (fun (W : World) (hb : Below w0.heap.size w0 W) => C2p (Kd.C_below H3.out hb) j hlt)
      generalize hX1 : P[j].1 = X1 at *
      generalize hX2 : P[j].2 = X2 at *
      clear hX1 hX2
      have wx1 : IntKind.u64.wrap (X1 : Int) = (X1 : Int) := u64_nat _ (by omega)
      have wx2 : IntKind.u64.wrap (X2 : Int) = (X2 : Int) := u64_nat _ (by omega)
      go_wp2_with fail
      refine (num_any _ X1 2 (by omega) (by omega) _ _ rfl rfl).mono ?_
      rintro e_ w4 ⟨v4, rfl, hv4, hb4⟩
      have hO4 := hO.keep hb4
      clear cM cx cy
      go_wp2_with (at_builtin; refine wpList_apps rfl (.tmp 24) (.tmp 32) 38 rfl w0.heap.size 5 i0 (.int .u8 0) 1 Try.underlying38 hi0 hz0 hz1 hz2 rfl (.slice B (8 + 4 * j) d) (8 + 4 * j) (bv (numB sd 4 ++ numB md 4 ++ pairB (P.take j))) rfl hO4.own (v4) (bv (numB X1 2)) rfl (Sl.of_own hv4) (bv_oneCell _) (by rw [bv_length]; first | omega | (simp only [numB_len]; omega) | (simp only [List.length_cons, List.length_nil]; omega)) (by decide) hO4.bel.size ?_; intro v5 w5 ho5 hg5 _; have hO5 := hO4.app ho5 hg5 (k := 8 + 4 * j + 2) (by rw [bv_length, numB_len]); have cM5 := (bM.kp (kp_of_below hO5.bel) trivial).cell; obtain ⟨bx5, ox5, he, cx5, cy5⟩ := HC.out _ hO5.bel; injection he with he; injection he with he1 he2; subst he1 he2)
      clear ho5 hg5 hO4 hv4 hb4 hO
      refine (num_any _ X2 2 (by omega) (by omega) _ _ rfl rfl).mono ?_
      rintro e_ w6 ⟨v6, rfl, hv6, hb6⟩
      have hO6 := hO5.keep hb6
      clear cM5 cx5 cy5
      go_wp2_with (at_builtin; refine wpList_apps rfl (.tmp 34) (.tmp 42) 38 rfl w0.heap.size 5 i0 (.int .u8 0) 1 Try.underlying38 hi0 hz0 hz1 hz2 rfl (v5) (8 + 4 * j + 2) (bv (numB sd 4 ++ numB md 4 ++ pairB (P.take j) ++ numB X1 2)) rfl hO6.own (v6) (bv (numB X2 2)) rfl (Sl.of_own hv6) (bv_oneCell _) (by rw [bv_length]; first | omega | (simp only [numB_len]; omega) | (simp only [List.length_cons, List.length_nil]; omega)) (by decide) hO6.bel.size ?_; intro v7 w7 ho7 hg7 _)
      have hO7 := hO6.app ho7 hg7 (k := 8 + 4 * (j + 1)) (by rw [bv_length, numB_len]; omega)
      rw [← HT.out] at hO7
      obtain ⟨B7, d7, hv7⟩ := own_slice hO7.own
      subst hv7
      go_roundw
      case rel => exact ⟨j + 1, B7, d7, by omega, by go_num, rfl, hO7⟩
      case measure => simp [intOf]; omega
    · obtain rfl : j = P.length := by omega
      rw [List.take_of_length_le (Nat.le_refl _)] at hO
      clear hlt hj
      go_wp2
      go_loopw [3, 5] (fun (vv iv : Value) wr => ∃ (j : Nat) (B : Option Addr) (d : Nat), j ≤ O.length ∧ iv = .int .i64 j ∧ vv = .slice B (8 + 4 * P.length + 8 * j) d ∧ BO w0 wr vv (8 + 4 * P.length + 8 * j) (numB sd 4 ++ numB md 4 ++ pairB P ++ orderB (O.take j))) (fun _ iv _ => O.length - (intOf iv).toNat)
      case atStart => exact ⟨0, B, d, Nat.zero_le _, rfl, rfl, by simpa [orderB] using hO⟩
      case round =>
        clear hO cM
        obtain ⟨j, B, d, hj, rfl, rfl, hO⟩ := hrel
        have cM := (bM.kp (kp_of_below hO.bel) trivial).cell
        by_cases hlt : j < O.length
        · obtain ⟨bx, ox, rfl, cx, cy⟩ := C2o (Kd.C_below H4.out hO.bel) j hlt
          have hx := x4 _ (List.getElem_mem hlt)
          have HT := hd (show numB sd 4 ++ numB md 4 ++ pairB P ++ orderB (O.take (j + 1)) = numB sd 4 ++ numB md 4 ++ pairB P ++ orderB (O.take j) ++ numB O[j].1 4 ++ [O[j].2, 0, 0, 0] from by rw [List.take_succ_eq_append_getElem hlt, orderB_append]; simp [orderB])
          have HC := hd (fun (W : World) (hb : Below w0.heap.size w0 W) => C2o (Kd.C_below H4.out hb) j hlt)
          generalize hX1 : O[j].1 = X1 at *
          generalize hX2 : O[j].2 = X2 at *
          clear hX1 hX2
          have wx1 : IntKind.u64.wrap (X1 : Int) = (X1 : Int) := u64_nat _ (by omega)
          have HAc := hd (show (8 + 4 * P.length + 8 * j + 8) * 1 ≤ 140737488355328 by omega)
          generalize hAcc : numB sd 4 ++ numB md 4 ++ pairB P ++ orderB (O.take j) = acc at *
          clear hAcc
          go_wp2_with fail
          refine (num_any _ X1 4 (by omega) (by omega) _ _ rfl rfl).mono ?_
          rintro e_ w4 ⟨v4, rfl, hv4, hb4⟩
          have hO4 := hO.keep hb4
          clear cM cx cy
          go_wp2_with (first
            | (at_builtin; refine wpList_apps rfl (.tmp 51) (.tmp 59) 38 rfl w0.heap.size 5 i0 (.int .u8 0) 1 Try.underlying38 hi0 hz0 hz1 hz2 rfl (.slice B (8 + 4 * P.length + 8 * j) d) (8 + 4 * P.length + 8 * j) (bv acc) rfl hO4.own (v4) (bv (numB X1 4)) rfl (Sl.of_own hv4) (bv_oneCell _) (by rw [bv_length]; first | omega | (simp only [numB_len]; omega) | (simp only [List.length_cons, List.length_nil]; omega)) (by decide) hO4.bel.size ?_; intro v5 w5 ho5 hg5 _; have hO5 := hO4.app ho5 hg5 (k := 8 + 4 * P.length + 8 * j + 4) (by rw [bv_length, numB_len]); have cM5 := (bM.kp (kp_of_below hO5.bel) trivial).cell; obtain ⟨bx5, ox5, he, cx5, cy5⟩ := HC.out _ hO5.bel; injection he with he; injection he with he1 he2; subst he1 he2)
            | (at_builtin; have hO6 := hO5.keep (below_alloc' w5 (.cells #[.int .u8 (X2 : Int), .int .u8 0, .int .u8 0, .int .u8 0] 5)); refine wpList_apps rfl (.tmp 61) (.tmp 68) 38 rfl w0.heap.size 5 i0 (.int .u8 0) 1 Try.underlying38 hi0 hz0 hz1 hz2 rfl (v5) (8 + 4 * P.length + 8 * j + 4) (bv (acc ++ numB X1 4)) rfl hO6.own (.slice (some ⟨w5.heap.size, 0, none⟩) 4 4) (bv [X2, 0, 0, 0]) rfl (lit4 w5 X2) (bv_oneCell _) (by rw [bv_length]; first | omega | (simp only [numB_len]; omega) | (simp only [List.length_cons, List.length_nil]; omega)) (by decide) hO6.bel.size ?_; intro v7 w7 ho7 hg7 _))
          have hO7 := hO6.app ho7 hg7 (k := 8 + 4 * P.length + 8 * (j + 1)) (by rw [bv_length]; simp only [List.length_cons, List.length_nil]; omega)
          rw [← HT.out] at hO7
          obtain ⟨B7, d7, hv7⟩ := own_slice hO7.own
          subst hv7
          go_roundw
          case rel => exact ⟨j + 1, B7, d7, by omega, by go_num, rfl, hO7⟩
          case measure => simp [intOf]; omega
        · obtain rfl : j = O.length := by omega
          rw [List.take_of_length_le (Nat.le_refl _)] at hO
          clear hlt hj
          by_cases h4 : s = 4
          · obtain ⟨he63, hm18, hS255⟩ := hs4 h4
            have g4 : ((s : Int) == 4) = true := by rw [beq_iff_eq]; omega
            have wl : (S.length : Int) % 256 = (S.length : Int) := by omega
            have wl' : IntKind.u8.wrap (S.length : Int) = (S.length : Int) := IntWalk.u8_in _ (by omega)
            have we : IntKind.u64.wrap (e : Int) = (e : Int) := u64_nat _ (by omega)
            have wm : IntKind.u64.wrap (m : Int) = (m : Int) := u64_nat _ (by omega)
            have we2 : IntKind.u64.wrap ((e : Int) * 262144) = ((e * 262144 : Nat) : Int) := by rw [IntWalk.u64_in _ (by omega)]; omega
            have we3 : IntKind.u64.wrap (((e * 262144 : Nat) : Int) + (m : Int)) = ((e * 262144 + m : Nat) : Int) := by rw [IntWalk.u64_in _ (by omega)]; omega
            have HTL := hd (show numB sd 4 ++ numB md 4 ++ pairB P ++ orderB O ++ tailB s e m S = numB sd 4 ++ numB md 4 ++ pairB P ++ orderB O ++ [82, 69, 77, 66, S.length] ++ numB (e * 262144 + m) 3 ++ srcB S by unfold tailB; rw [if_pos h4]; simp only [List.append_assoc])
            clear h4
            generalize hAcc : numB sd 4 ++ numB md 4 ++ pairB P ++ orderB O = acc at *
            have HAcc := hd hAcc
            clear hAcc
            generalize hN : 8 + 4 * P.length + 8 * O.length = n at *
            have hn : n ≤ 20000 := by omega
            clear hN
            go_wp2_with (first
              | (at_builtin; have hO6 := hO.keep (below_alloc' wr (.cells #[.int .u8 82, .int .u8 69, .int .u8 77, .int .u8 66, .int .u8 (S.length : Int)] 5)); refine wpList_apps rfl (.tmp 73) (.tmp 78) 38 rfl w0.heap.size 5 i0 (.int .u8 0) 1 Try.underlying38 hi0 hz0 hz1 hz2 rfl (.slice B n d) n (bv acc) rfl hO6.own (.slice (some ⟨wr.heap.size, 0, none⟩) 5 5) (bv [82, 69, 77, 66, S.length]) rfl (lit5 wr S.length) (bv_oneCell _) (by rw [bv_length]; first | omega | (simp only [numB_len]; omega) | (simp only [List.length_cons, List.length_nil]; omega)) (by decide) hO6.bel.size ?_; intro v7 w7 ho7 hg7 _; have hO7 := hO6.app ho7 hg7 (k := n + 5) (by rw [bv_length]; rfl); have cM7 := (bM.kp (kp_of_below hO7.bel) trivial).cell))
            refine (num_any _ (e * 262144 + m) 3 (by omega) (by omega) _ _ rfl rfl).mono ?_
            rintro e_ w8 ⟨v8, rfl, hv8, hb8⟩
            have hO8 := hO7.keep hb8
            clear cM cM7 ho7 hg7
            go_wp2_with (at_builtin; refine wpList_apps rfl (.tmp 80) (.tmp 89) 38 rfl w0.heap.size 5 i0 (.int .u8 0) 1 Try.underlying38 hi0 hz0 hz1 hz2 rfl (v7) (n + 5) (bv (acc ++ [82, 69, 77, 66, S.length])) rfl hO8.own (v8) (bv (numB (e * 262144 + m) 3)) rfl (Sl.of_own hv8) (bv_oneCell _) (by rw [bv_length]; first | omega | (simp only [numB_len]; omega) | (simp only [List.length_cons, List.length_nil]; omega)) (by decide) hO8.bel.size ?_; intro v9 w9 ho9 hg9 _)
            have hO9 := hO8.app ho9 hg9 (k := n + 8) (by rw [bv_length, numB_len])
            obtain ⟨B9, d9, hv9⟩ := own_slice hO9.own
            subst hv9
            generalize hAcc : acc ++ [82, 69, 77, 66, S.length] ++ numB (e * 262144 + m) 3 = acc2 at *
            clear hAcc ho9 hg9 hO8 hv8 hb8 we wm we2 we3 hO6 hO7
            go_loopw [3, 6] (fun (vv iv : Value) wr => ∃ (j : Nat) (B : Option Addr) (d : Nat), j ≤ S.length ∧ iv = .int .i64 j ∧ vv = .slice B (n + 8 + 4 * j) d ∧ BO w0 wr vv (n + 8 + 4 * j) (acc2 ++ srcB (S.take j))) (fun _ iv _ => S.length - (intOf iv).toNat)
            case atStart => exact ⟨0, B9, d9, Nat.zero_le _, rfl, rfl, by simpa [srcB] using hO9⟩
            case round =>
              clear hO hO9
              obtain ⟨j, B, d, hj, rfl, rfl, hO⟩ := hrel
              have cM := (bM.kp (kp_of_below hO.bel) trivial).cell
              by_cases hlt : j < S.length
              · obtain ⟨bx, ox, rfl, cx⟩ := C1s (Kd.C_below H7.out hO.bel) j hlt
                have hx := x7 _ (List.getElem_mem hlt)
                have HT := hd (show acc2 ++ srcB (S.take (j + 1)) = acc2 ++ srcB (S.take j) ++ numB S[j] 4 from by rw [List.take_succ_eq_append_getElem hlt, srcB_append]; simp [srcB])
                generalize hX1 : S[j] = X1 at *
                clear hX1
                have wx1 : IntKind.u64.wrap (X1 : Int) = (X1 : Int) := u64_nat _ (by omega)
                go_wp2_with fail
                refine (num_any _ X1 4 (by omega) (by omega) _ _ rfl rfl).mono ?_
                rintro e_ w10 ⟨v10, rfl, hv10, hb10⟩
                have hO10 := hO.keep hb10
                clear cM cx
                go_wp2_with (at_builtin; refine wpList_apps rfl (.tmp 98) (.tmp 105) 38 rfl w0.heap.size 5 i0 (.int .u8 0) 1 Try.underlying38 hi0 hz0 hz1 hz2 rfl (.slice B (n + 8 + 4 * j) d) (n + 8 + 4 * j) (bv (acc2 ++ srcB (S.take j))) rfl hO10.own (v10) (bv (numB X1 4)) rfl (Sl.of_own hv10) (bv_oneCell _) (by rw [bv_length]; first | omega | (simp only [numB_len]; omega) | (simp only [List.length_cons, List.length_nil]; omega)) (by decide) hO10.bel.size ?_; intro v11 w11 ho11 hg11 _)
                have hO11 := hO10.app ho11 hg11 (k := n + 8 + 4 * (j + 1)) (by rw [bv_length, numB_len]; omega)
                rw [← HT.out] at hO11
                obtain ⟨B7, d7, hv7⟩ := own_slice hO11.own
                subst hv7
                go_roundw
                case rel => exact ⟨j + 1, B7, d7, by omega, by go_num, rfl, hO11⟩
                case measure => simp [intOf]; omega
              · obtain rfl : j = S.length := by omega
                rw [List.take_of_length_le (Nat.le_refl _)] at hO
                go_wp2
                go_ret
                exact ⟨_, _, rfl, by rw [HAcc.out, HTL.out]; exact own_lo hO.own (by omega), HB.out.trans (hO.bel.mono (by omega))⟩
          · have g4 : ((s : Int) == 4) = false := by rw [beq_eq_false_iff_ne]; omega
            have HTL := hd (show numB sd 4 ++ numB md 4 ++ pairB P ++ orderB O ++ tailB s e m S = numB sd 4 ++ numB md 4 ++ pairB P ++ orderB O by unfold tailB; rw [if_neg h4, List.append_nil])
            clear h4
            go_wp2
            go_ret
            exact ⟨_, _, rfl, by rw [HTL.out]; exact own_lo hO.own (by omega), HB.out.trans (hO.bel.mono (by omega))⟩
end
end Go.Proofs.Ytjcejgolcdgipaa.K7

namespace Go.Proofs.Ytjcejgolcdgipaa.K7
open Go.RowKit Go.Proofs.YtjcejgolcdgipaaW.PrintWords Go.Proofs.YtjcejgolcdgipaaW.PrintLast Go.Proofs.YtjcejgolcdgipaaW.PrintMore
set_option linter.unusedVariables false
set_option linter.unusedSimpArgs false

theorem body_tail {M : PM} (ok : OkPM M) (h : RightR M) : bodyN M = numB M.sd 4 ++ numB M.md 4 ++ pairB M.ps ++ orderB M.os ++ tailB M.sort M.e M.m M.ss := by
  rw [bodyN_bytes]
  unfold tailB
  rcases h with ⟨hs1, _, _, h5, h6, h7, h8⟩ | ⟨hs1, h4, h5, h6, h7, h8⟩ | ⟨hs1, _, _, h4, h6, h7, h8⟩ | ⟨hs1, h4, h5, h6, h7, h8⟩
  · unfold partN
    rw [if_pos hs1, if_neg (by omega), pack_pairs, h5, List.append_nil, show orderB [] = [] from rfl, List.append_nil]
  · unfold partN
    rw [if_neg (by omega), if_pos hs1, if_neg (by omega), h4, h5]
    simp [pairB, orderB, pack_nil]
  · unfold partN
    rw [if_neg (by omega), if_neg (by omega), if_pos hs1, if_neg (by omega), pack_orders _ (fun x hx => (ok.os x hx).2), h4, List.append_nil, show pairB [] = [] from rfl, List.append_nil]
  · unfold partN
    rw [if_neg (by omega), if_neg (by omega), if_neg (by omega), if_pos hs1, pack_rate _ _ _ h6 h7 h8, h4, h5, show pairB [] = [] from rfl, show orderB [] = [] from rfl, List.append_nil, List.append_nil]
section
variable {w : World} (s sd md e m : Nat) {A3 A4 A7 : Option Addr} {c3 c4 c7 : Nat} (P O : List (Nat × Nat)) (S : List Nat)
/-- The message at hand. -/
def mk07 : PM := ⟨s, sd, md, P, O, e, m, S, 0⟩
set_option maxHeartbeats 8000000 in
set_option maxRecDepth 100000 in
theorem r7Put_any (ok : OkPM (mk07 s sd md e m P O S)) (h3 : Kd.C k115 w A3 P.length (P.map toRP)) (h4 : Kd.C k119 w A4 O.length (O.map toRO)) (h7 : Kd.C (Kd.int .u32) w A7 S.length (ib S))
    (l3 : P.length ≤ 1000) (l4 : O.length ≤ 1000) (l7 : S.length ≤ 1000) :
    Calls Try.prog 33 #[.agg #[.int .u8 (s : Int), .int .u32 (sd : Int), .int .u32 (md : Int), .slice A3 P.length c3, .slice A4 O.length c4, .int .u8 (e : Int), .int .u32 (m : Int), .slice A7 S.length c7]] w fun e_ w' => ∃ vb, e_ = .returned (.tuple #[.agg #[.int .u8 ((putN (mk07 s sd md e m P O S)).1 : Int), .int .u8 ((putN (mk07 s sd md e m P O S)).2.1 : Int), vb, .int .u8 0], .int .i64 ((putN (mk07 s sd md e m P O S)).2.2.2 : Int)]) ∧
        w'.ownsRow w.heap.size 5 1 vb (putN (mk07 s sd md e m P O S)).2.2.1.length (bv (putN (mk07 s sd md e m P O S)).2.2.1) ∧ Below w.heap.size w w' := by
  obtain ⟨w1, hw1⟩ : ∃ w1, w1 = (w.alloc (.cells #[.int .u8 (s : Int), .int .u32 (sd : Int), .int .u32 (md : Int), .slice A3 P.length c3, .slice A4 O.length c4, .int .u8 (e : Int), .int .u32 (m : Int), .slice A7 S.length c7] 46)).alloc (.cells #[.int .u8 0, .int .u8 0, .slice none 0 0, .int .u8 0] 41) := ⟨_, rfl⟩
  have hB1 : Below w.heap.size w w1 := hw1 ▸ ((Below.refl _ _).alloc (Nat.le_refl _) _).alloc (by simp) _
  have M1 : Blk w1 w.heap.size 46 #[.int .u8 (s : Int), .int .u32 (sd : Int), .int .u32 (md : Int), .slice A3 P.length c3, .slice A4 O.length c4, .int .u8 (e : Int), .int .u32 (m : Int), .slice A7 S.length c7] := hw1 ▸ (Blk.new w _ _).alloc _
  have Z1 : Blk w1 (w.heap.size + 1) 41 #[.int .u8 0, .int .u8 0, .slice none 0 0, .int .u8 0] := by
    have := Blk.new (w.alloc (.cells #[.int .u8 (s : Int), .int .u32 (sd : Int), .int .u32 (md : Int), .slice A3 P.length c3, .slice A4 O.length c4, .int .u8 (e : Int), .int .u32 (m : Int), .slice A7 S.length c7] 46)) 41 #[.int .u8 0, .int .u8 0, .slice none 0 0, .int .u8 0]
    rw [← hw1, World.size_alloc] at this
    exact this
  have hPN : Hd (putN (mk07 s sd md e m P O S) = if RightL s P.length O.length e m S.length then (cntN s, kndN s, bodyN (mk07 s sd md e m P O S), 0) else (0, 0, [], 2)) := hd (by
    have hi := right_iff ok rfl (by show P.length ≤ _; omega) (by show O.length ≤ _; omega)
    have hl := rightL_iff (mk07 s sd md e m P O S)
    unfold putN
    by_cases hz : RightL s P.length O.length e m S.length
    · rw [if_pos (hi.2 (hl.2 hz)), if_pos hz]; rfl
    · rw [if_neg (fun z => hz (hl.1 (hi.1 z))), if_neg hz])
  have HBT := hd (fun hz : RightL s P.length O.length e m S.length => body_tail ok ((rightL_iff (mk07 s sd md e m P O S)).2 hz))
  have H3 := hd (Kd.C_below h3 hB1)
  have H4 := hd (Kd.C_below h4 hB1)
  have H7 := hd (Kd.C_below h7 hB1)
  have HB := hd hB1
  have HOk := hd ok
  clear h3 h4 h7 hB1 ok
  have c1 := M1.cell
  go_enter Try.func33, Try.ntmps33
  go_upto_region 1 with (fail)
  rw [← hw1]
  clear hw1
  go_wp2_with fail
  refine (r7Right_any s sd md e m P.length O.length S.length (by omega) (by omega) (by omega)).mono ?_
  rintro e_ w2 ⟨rfl, hB2⟩
  replace H3 := hd (Kd.C_below H3.out hB2)
  replace H4 := hd (Kd.C_below H4.out hB2)
  replace H7 := hd (Kd.C_below H7.out hB2)
  have M2 := M1.kp (kp_of_below hB2) trivial
  have Z2 := Z1.kp (kp_of_below hB2) trivial
  replace HB : Hd (Below w.heap.size w w2) := hd (HB.out.trans (hB2.mono HB.out.size))
  clear c1 M1 Z1 hB2
  by_cases hz : RightL s P.length O.length e m S.length
  · rw [decide_eq_true hz]
    have hb := HBT.out hz
    rw [if_pos hz] at hPN
    have hs14 : 1 ≤ s ∧ s ≤ 4 := by unfold RightL at hz; omega
    have hs4 : s = 4 → e ≤ 63 ∧ m < 262144 ∧ S.length ≤ 255 := by unfold RightL at hz; omega
    have HBD := hd hb
    clear hz hb HBT
    obtain ⟨w4, hw4⟩ : ∃ w4, w4 = (w2.alloc (.cells #[.int .u8 0, .int .u8 205, .int .u8 206, .int .u8 206, .int .u8 206] 5)).alloc (.cells #[.int .u8 0, .int .u8 1, .int .u8 1, .int .u8 4, .int .u8 15] 5) := ⟨_, rfl⟩
    have hB4 : Below w2.heap.size w2 w4 := hw4 ▸ ((Below.refl _ _).alloc (Nat.le_refl _) _).alloc (by simp) _
    have bK : Blk w4 w2.heap.size 5 #[.int .u8 0, .int .u8 205, .int .u8 206, .int .u8 206, .int .u8 206] := hw4 ▸ (Blk.new w2 _ _).alloc _
    have bC : Blk w4 (w2.heap.size + 1) 5 #[.int .u8 0, .int .u8 1, .int .u8 1, .int .u8 4, .int .u8 15] := by
      have := Blk.new (w2.alloc (.cells #[.int .u8 0, .int .u8 205, .int .u8 206, .int .u8 206, .int .u8 206] 5)) 5 #[.int .u8 0, .int .u8 1, .int .u8 1, .int .u8 4, .int .u8 15]
      rw [← hw4, World.size_alloc] at this
      exact this
    replace H3 := hd (Kd.C_below H3.out hB4)
    replace H4 := hd (Kd.C_below H4.out hB4)
    replace H7 := hd (Kd.C_below H7.out hB4)
    have M4 := M2.kp (kp_of_below hB4) trivial
    have Z4 := Z2.kp (kp_of_below hB4) trivial
    replace HB : Hd (Below w.heap.size w w4) := hd (HB.out.trans (hB4.mono HB.out.size))
    have hml := M2.lt
    have hzl := Z2.lt
    clear M2 Z2 hB4
    go_upto_region 5 with (fail)
    rw [← hw4]
    clear hw4
    generalize hq : w2.heap.size = q at *
    clear hq w2
    have hD : Below w4.heap.size w4 w4.drew := pw_below_drewN (Below.refl _ _) 1
    have s4 := And.intro M4.drew.cell (And.intro bK.drew.cell bC.drew.cell)
    have n1 : w.heap.size ≠ w.heap.size + 1 := by omega
    have n2 : q ≠ w.heap.size + 1 := by omega
    have n3 : q + 1 ≠ w.heap.size + 1 := by omega
    rcases (by omega : s = 1 ∨ s = 2 ∨ s = 3 ∨ s = 4) with rfl | rfl | rfl | rfl
    · have hs4' := hs4
      go_region_held3 (fun W => (∀ j, W.cell? ⟨w.heap.size, j, none⟩ = #[.int .u8 ((1 : Nat) : Int), .int .u32 (sd : Int), .int .u32 (md : Int), .slice A3 P.length c3, .slice A4 O.length c4, .int .u8 (e : Int), .int .u32 (m : Int), .slice A7 S.length c7][j]?) ∧ (∀ j, W.cell? ⟨q, j, none⟩ = #[.int .u8 0, .int .u8 205, .int .u8 206, .int .u8 206, .int .u8 206][j]?) ∧ (∀ j, W.cell? ⟨q + 1, j, none⟩ = #[.int .u8 0, .int .u8 1, .int .u8 1, .int .u8 4, .int .u8 15][j]?))
        (first | with_reducible exact s9 | exact s4 | exact s5)
        (first
          | (go_at_call 73; refine (r7body_any 1 sd md e m P O S HOk.out.sd HOk.out.md (Kd.C_below H3.out hD) (Kd.C_below H4.out hD) (Kd.C_below H7.out hD) l3 l4 l7 HOk.out.ps HOk.out.os HOk.out.ss hs4').mono ?_; rintro e_ w5 ⟨v5, n5, rfl, ho5, hB5⟩; obtain ⟨A5, c5, hv5⟩ := own_slice ho5; subst hv5; have hB5' : Below w4.heap.size w4 w5 := hD.trans (hB5.mono hD.size); have M5 := M4.kp (kp_of_below hB5') trivial; have Z5 := Z4.kp (kp_of_below hB5') trivial; have bK5 := bK.kp (kp_of_below hB5') trivial; have bC5 := bC.kp (kp_of_below hB5') trivial; have s5 := And.intro M5.cell (And.intro bK5.cell bC5.cell); have f5 := Z5.frozen; have c5_ := Z5.cell; have s9 := And.intro (far4 M5 n1 (.int .u8 1) (.int .u8 205) (.slice A5 n5 c5) (.int .u8 0)).cell (And.intro (far4 bK5 n2 (.int .u8 1) (.int .u8 205) (.slice A5 n5 c5) (.int .u8 0)).cell (far4 bC5 n3 (.int .u8 1) (.int .u8 205) (.slice A5 n5 c5) (.int .u8 0)).cell)))
      all_goals
        have hz5 := Z5.lt
        go_wp2
        refine bodyPost_ret (results_ct rfl _ _ (w.heap.size + 1) 41 _ (0, 0) _ rfl (set4 Z5 _ _ _ _) Try.underlying41 rfl (by kernel_rfl)) rfl ?_
        rw [hPN.out]
        have hbd := HBD.out
        have hq4 := bK.lt
        have hw45 := hB5'.size
        have hww := HB.out.size
        refine ⟨_, rfl, ?_, (kp_far ((kp_of_below HB.out).trans (kp_of_below hB5')) (kp4 _ _ _ _ _ _) (fun k hk => by omega)).to_below (Nat.le_refl _) (fun _ _ => trivial)⟩
        rw [hbd]
        have hn5_ := ho5.1
        rw [bv_length] at hn5_
        have hn5 := (Nat.mul_one n5).symm.trans hn5_.symm
        show World.ownsRow _ _ _ _ (.slice A5 n5 c5) (numB sd 4 ++ numB md 4 ++ pairB P ++ orderB O ++ tailB 1 e m S).length (bv (numB sd 4 ++ numB md 4 ++ pairB P ++ orderB O ++ tailB 1 e m S))
        rw [← hn5]
        exact own_lo (own_kp ho5 (kp4 w5 (w.heap.size + 1) _ _ _ _) (fun g hg _ => Nat.ne_of_gt (by have : w4.drew.heap.size = w4.heap.size := rfl; omega))) (by have : w4.drew.heap.size = w4.heap.size := rfl; omega)
    · have hs4' := hs4
      go_region_held3 (fun W => (∀ j, W.cell? ⟨w.heap.size, j, none⟩ = #[.int .u8 ((2 : Nat) : Int), .int .u32 (sd : Int), .int .u32 (md : Int), .slice A3 P.length c3, .slice A4 O.length c4, .int .u8 (e : Int), .int .u32 (m : Int), .slice A7 S.length c7][j]?) ∧ (∀ j, W.cell? ⟨q, j, none⟩ = #[.int .u8 0, .int .u8 205, .int .u8 206, .int .u8 206, .int .u8 206][j]?) ∧ (∀ j, W.cell? ⟨q + 1, j, none⟩ = #[.int .u8 0, .int .u8 1, .int .u8 1, .int .u8 4, .int .u8 15][j]?))
        (first | with_reducible exact s9 | exact s4 | exact s5)
        (first
          | (go_at_call 73; refine (r7body_any 2 sd md e m P O S HOk.out.sd HOk.out.md (Kd.C_below H3.out hD) (Kd.C_below H4.out hD) (Kd.C_below H7.out hD) l3 l4 l7 HOk.out.ps HOk.out.os HOk.out.ss hs4').mono ?_; rintro e_ w5 ⟨v5, n5, rfl, ho5, hB5⟩; obtain ⟨A5, c5, hv5⟩ := own_slice ho5; subst hv5; have hB5' : Below w4.heap.size w4 w5 := hD.trans (hB5.mono hD.size); have M5 := M4.kp (kp_of_below hB5') trivial; have Z5 := Z4.kp (kp_of_below hB5') trivial; have bK5 := bK.kp (kp_of_below hB5') trivial; have bC5 := bC.kp (kp_of_below hB5') trivial; have s5 := And.intro M5.cell (And.intro bK5.cell bC5.cell); have f5 := Z5.frozen; have c5_ := Z5.cell; have s9 := And.intro (far4 M5 n1 (.int .u8 1) (.int .u8 206) (.slice A5 n5 c5) (.int .u8 0)).cell (And.intro (far4 bK5 n2 (.int .u8 1) (.int .u8 206) (.slice A5 n5 c5) (.int .u8 0)).cell (far4 bC5 n3 (.int .u8 1) (.int .u8 206) (.slice A5 n5 c5) (.int .u8 0)).cell)))
      all_goals
        have hz5 := Z5.lt
        go_wp2
        refine bodyPost_ret (results_ct rfl _ _ (w.heap.size + 1) 41 _ (0, 0) _ rfl (set4 Z5 _ _ _ _) Try.underlying41 rfl (by kernel_rfl)) rfl ?_
        rw [hPN.out]
        have hbd := HBD.out
        have hq4 := bK.lt
        have hw45 := hB5'.size
        have hww := HB.out.size
        refine ⟨_, rfl, ?_, (kp_far ((kp_of_below HB.out).trans (kp_of_below hB5')) (kp4 _ _ _ _ _ _) (fun k hk => by omega)).to_below (Nat.le_refl _) (fun _ _ => trivial)⟩
        rw [hbd]
        have hn5_ := ho5.1
        rw [bv_length] at hn5_
        have hn5 := (Nat.mul_one n5).symm.trans hn5_.symm
        show World.ownsRow _ _ _ _ (.slice A5 n5 c5) (numB sd 4 ++ numB md 4 ++ pairB P ++ orderB O ++ tailB 2 e m S).length (bv (numB sd 4 ++ numB md 4 ++ pairB P ++ orderB O ++ tailB 2 e m S))
        rw [← hn5]
        exact own_lo (own_kp ho5 (kp4 w5 (w.heap.size + 1) _ _ _ _) (fun g hg _ => Nat.ne_of_gt (by have : w4.drew.heap.size = w4.heap.size := rfl; omega))) (by have : w4.drew.heap.size = w4.heap.size := rfl; omega)
    · have hs4' := hs4
      go_region_held3 (fun W => (∀ j, W.cell? ⟨w.heap.size, j, none⟩ = #[.int .u8 ((3 : Nat) : Int), .int .u32 (sd : Int), .int .u32 (md : Int), .slice A3 P.length c3, .slice A4 O.length c4, .int .u8 (e : Int), .int .u32 (m : Int), .slice A7 S.length c7][j]?) ∧ (∀ j, W.cell? ⟨q, j, none⟩ = #[.int .u8 0, .int .u8 205, .int .u8 206, .int .u8 206, .int .u8 206][j]?) ∧ (∀ j, W.cell? ⟨q + 1, j, none⟩ = #[.int .u8 0, .int .u8 1, .int .u8 1, .int .u8 4, .int .u8 15][j]?))
        (first | with_reducible exact s9 | exact s4 | exact s5)
        (first
          | (go_at_call 73; refine (r7body_any 3 sd md e m P O S HOk.out.sd HOk.out.md (Kd.C_below H3.out hD) (Kd.C_below H4.out hD) (Kd.C_below H7.out hD) l3 l4 l7 HOk.out.ps HOk.out.os HOk.out.ss hs4').mono ?_; rintro e_ w5 ⟨v5, n5, rfl, ho5, hB5⟩; obtain ⟨A5, c5, hv5⟩ := own_slice ho5; subst hv5; have hB5' : Below w4.heap.size w4 w5 := hD.trans (hB5.mono hD.size); have M5 := M4.kp (kp_of_below hB5') trivial; have Z5 := Z4.kp (kp_of_below hB5') trivial; have bK5 := bK.kp (kp_of_below hB5') trivial; have bC5 := bC.kp (kp_of_below hB5') trivial; have s5 := And.intro M5.cell (And.intro bK5.cell bC5.cell); have f5 := Z5.frozen; have c5_ := Z5.cell; have s9 := And.intro (far4 M5 n1 (.int .u8 4) (.int .u8 206) (.slice A5 n5 c5) (.int .u8 0)).cell (And.intro (far4 bK5 n2 (.int .u8 4) (.int .u8 206) (.slice A5 n5 c5) (.int .u8 0)).cell (far4 bC5 n3 (.int .u8 4) (.int .u8 206) (.slice A5 n5 c5) (.int .u8 0)).cell)))
      all_goals
        have hz5 := Z5.lt
        go_wp2
        refine bodyPost_ret (results_ct rfl _ _ (w.heap.size + 1) 41 _ (0, 0) _ rfl (set4 Z5 _ _ _ _) Try.underlying41 rfl (by kernel_rfl)) rfl ?_
        rw [hPN.out]
        have hbd := HBD.out
        have hq4 := bK.lt
        have hw45 := hB5'.size
        have hww := HB.out.size
        refine ⟨_, rfl, ?_, (kp_far ((kp_of_below HB.out).trans (kp_of_below hB5')) (kp4 _ _ _ _ _ _) (fun k hk => by omega)).to_below (Nat.le_refl _) (fun _ _ => trivial)⟩
        rw [hbd]
        have hn5_ := ho5.1
        rw [bv_length] at hn5_
        have hn5 := (Nat.mul_one n5).symm.trans hn5_.symm
        show World.ownsRow _ _ _ _ (.slice A5 n5 c5) (numB sd 4 ++ numB md 4 ++ pairB P ++ orderB O ++ tailB 3 e m S).length (bv (numB sd 4 ++ numB md 4 ++ pairB P ++ orderB O ++ tailB 3 e m S))
        rw [← hn5]
        exact own_lo (own_kp ho5 (kp4 w5 (w.heap.size + 1) _ _ _ _) (fun g hg _ => Nat.ne_of_gt (by have : w4.drew.heap.size = w4.heap.size := rfl; omega))) (by have : w4.drew.heap.size = w4.heap.size := rfl; omega)
    · have hs4' := hs4
      go_region_held3 (fun W => (∀ j, W.cell? ⟨w.heap.size, j, none⟩ = #[.int .u8 ((4 : Nat) : Int), .int .u32 (sd : Int), .int .u32 (md : Int), .slice A3 P.length c3, .slice A4 O.length c4, .int .u8 (e : Int), .int .u32 (m : Int), .slice A7 S.length c7][j]?) ∧ (∀ j, W.cell? ⟨q, j, none⟩ = #[.int .u8 0, .int .u8 205, .int .u8 206, .int .u8 206, .int .u8 206][j]?) ∧ (∀ j, W.cell? ⟨q + 1, j, none⟩ = #[.int .u8 0, .int .u8 1, .int .u8 1, .int .u8 4, .int .u8 15][j]?))
        (first | with_reducible exact s9 | exact s4 | exact s5)
        (first
          | (go_at_call 73; refine (r7body_any 4 sd md e m P O S HOk.out.sd HOk.out.md (Kd.C_below H3.out hD) (Kd.C_below H4.out hD) (Kd.C_below H7.out hD) l3 l4 l7 HOk.out.ps HOk.out.os HOk.out.ss hs4').mono ?_; rintro e_ w5 ⟨v5, n5, rfl, ho5, hB5⟩; obtain ⟨A5, c5, hv5⟩ := own_slice ho5; subst hv5; have hB5' : Below w4.heap.size w4 w5 := hD.trans (hB5.mono hD.size); have M5 := M4.kp (kp_of_below hB5') trivial; have Z5 := Z4.kp (kp_of_below hB5') trivial; have bK5 := bK.kp (kp_of_below hB5') trivial; have bC5 := bC.kp (kp_of_below hB5') trivial; have s5 := And.intro M5.cell (And.intro bK5.cell bC5.cell); have f5 := Z5.frozen; have c5_ := Z5.cell; have s9 := And.intro (far4 M5 n1 (.int .u8 15) (.int .u8 206) (.slice A5 n5 c5) (.int .u8 0)).cell (And.intro (far4 bK5 n2 (.int .u8 15) (.int .u8 206) (.slice A5 n5 c5) (.int .u8 0)).cell (far4 bC5 n3 (.int .u8 15) (.int .u8 206) (.slice A5 n5 c5) (.int .u8 0)).cell)))
      all_goals
        have hz5 := Z5.lt
        go_wp2
        refine bodyPost_ret (results_ct rfl _ _ (w.heap.size + 1) 41 _ (0, 0) _ rfl (set4 Z5 _ _ _ _) Try.underlying41 rfl (by kernel_rfl)) rfl ?_
        rw [hPN.out]
        have hbd := HBD.out
        have hq4 := bK.lt
        have hw45 := hB5'.size
        have hww := HB.out.size
        refine ⟨_, rfl, ?_, (kp_far ((kp_of_below HB.out).trans (kp_of_below hB5')) (kp4 _ _ _ _ _ _) (fun k hk => by omega)).to_below (Nat.le_refl _) (fun _ _ => trivial)⟩
        rw [hbd]
        have hn5_ := ho5.1
        rw [bv_length] at hn5_
        have hn5 := (Nat.mul_one n5).symm.trans hn5_.symm
        show World.ownsRow _ _ _ _ (.slice A5 n5 c5) (numB sd 4 ++ numB md 4 ++ pairB P ++ orderB O ++ tailB 4 e m S).length (bv (numB sd 4 ++ numB md 4 ++ pairB P ++ orderB O ++ tailB 4 e m S))
        rw [← hn5]
        exact own_lo (own_kp ho5 (kp4 w5 (w.heap.size + 1) _ _ _ _) (fun g hg _ => Nat.ne_of_gt (by have : w4.drew.heap.size = w4.heap.size := rfl; omega))) (by have : w4.drew.heap.size = w4.heap.size := rfl; omega)
  · rw [decide_eq_false hz]
    rw [if_neg hz] at hPN
    have fZ := Z2.frozen
    have cZ := Z2.cell
    go_wp2
    refine bodyPost_ret (results_ct rfl _ _ (w.heap.size + 1) 41 _ (0, 0) _ rfl (set4 Z2 _ _ _ _) Try.underlying41 rfl (by kernel_rfl)) rfl ?_
    rw [hPN.out]
    exact ⟨_, rfl, World.ownsRow_nil _ _ _ _, (kp_far (kp_of_below HB.out) (kp4 _ _ _ _ _ _) (fun k hk => by omega)).to_below (Nat.le_refl _) (fun _ _ => trivial)⟩
end
/-- A message of the reference's: its numbers have their digits. -/
def ofRP (x : S115) : Nat × Nat := (x.f0.toNat, x.f1.toNat)
def ofRO (x : S119) : Nat × Nat := (x.f0.toNat, x.f1.toNat)
def OkRM (s sd md : Int) (P : List S115) (O : List S119) (e m : Int) (S : List Int) : Prop :=
  (0 ≤ s ∧ s < 256) ∧ (0 ≤ sd ∧ sd < 4294967296) ∧ (0 ≤ md ∧ md < 4294967296) ∧ (∀ x ∈ P, (0 ≤ x.f0 ∧ x.f0 < 65536) ∧ (0 ≤ x.f1 ∧ x.f1 < 65536)) ∧ (∀ x ∈ O, (0 ≤ x.f0 ∧ x.f0 < 4294967296) ∧ (0 ≤ x.f1 ∧ x.f1 < 256)) ∧ (0 ≤ e ∧ e < 256) ∧ (0 ≤ m ∧ m < 4294967296) ∧ OkS S ∧ P.length ≤ 1000 ∧ O.length ≤ 1000 ∧ S.length ≤ 1000
instance (s sd md : Int) (P : List S115) (O : List S119) (e m : Int) (S : List Int) : Decidable (OkRM s sd md P O e m S) := by unfold OkRM; exact inferInstance
def inRM (s sd md : Int) (P : List S115) (O : List S119) (e m : Int) (S : List Int) : PM := mk07 s.toNat sd.toNat md.toNat e.toNat m.toNat (P.map ofRP) (O.map ofRO) (nb S)
theorem rp_back {P : List S115} (h : ∀ x ∈ P, (0 ≤ x.f0 ∧ x.f0 < 65536) ∧ (0 ≤ x.f1 ∧ x.f1 < 65536)) : (P.map ofRP).map toRP = P := by
  rw [List.map_map]
  conv => rhs; rw [← List.map_id P]
  apply List.map_congr_left
  rintro ⟨a, b⟩ hx
  have := h _ hx
  simp only at this
  simp [toRP, ofRP, Int.toNat_of_nonneg this.1.1, Int.toNat_of_nonneg this.2.1]
theorem ro_back {O : List S119} (h : ∀ x ∈ O, (0 ≤ x.f0 ∧ x.f0 < 4294967296) ∧ (0 ≤ x.f1 ∧ x.f1 < 256)) : (O.map ofRO).map toRO = O := by
  rw [List.map_map]
  conv => rhs; rw [← List.map_id O]
  apply List.map_congr_left
  rintro ⟨a, b⟩ hx
  have := h _ hx
  simp only at this
  simp [toRO, ofRO, Int.toNat_of_nonneg this.1.1, Int.toNat_of_nonneg this.2.1]
theorem inRM_ok {s sd md e m : Int} {P : List S115} {O : List S119} {S : List Int} (h : OkRM s sd md P O e m S) : OkPM (inRM s sd md P O e m S) := by
  obtain ⟨h0, h1, h2, h3, h4, h5, h6, h7, _⟩ := h
  refine ⟨?_, ?_, ?_, ?_, ?_⟩
  · show sd.toNat < _; omega
  · show md.toNat < _; omega
  · intro x hx
    obtain ⟨y, hy, rfl⟩ := List.mem_map.1 hx
    have := h3 y hy
    show y.f0.toNat < _ ∧ y.f1.toNat < _
    omega
  · intro x hx
    obtain ⟨y, hy, rfl⟩ := List.mem_map.1 hx
    have := h4 y hy
    show y.f0.toNat < _ ∧ y.f1.toNat < _
    omega
  · intro x hx
    obtain ⟨y, hy, rfl⟩ := List.mem_map.1 hx
    have := h7 y hy
    omega
def r7_Right.f (a0_0 a0_1 a0_2 : Int) (l0_3 : List S115) (l0_4 : List S119) (a0_5 a0_6 : Int) (l0_7 : List Int) : Option Bool :=
  if OkRM a0_0 a0_1 a0_2 l0_3 l0_4 a0_5 a0_6 l0_7 then some (decide (RightR (inRM a0_0 a0_1 a0_2 l0_3 l0_4 a0_5 a0_6 l0_7))) else none
theorem r7_Right.calls (a0_0 : Int) (a0_1 : Int) (a0_2 : Int) (A0_3 : Option Addr) (c0_3 : Nat) (l0_3 : List (S115)) (A0_4 : Option Addr) (c0_4 : Nat) (l0_4 : List (S119)) (a0_5 : Int) (a0_6 : Int) (A0_7 : Option Addr) (c0_7 : Nat) (l0_7 : List Int) (r : Bool) (w : World) (hr0_3 : Kd.C k115 w A0_3 l0_3.length l0_3) (hc0_3 : l0_3.length ≤ c0_3) (hr0_4 : Kd.C k119 w A0_4 l0_4.length l0_4) (hc0_4 : l0_4.length ≤ c0_4) (hr0_7 : Kd.C (Kd.int .u32) w A0_7 l0_7.length l0_7) (hc0_7 : l0_7.length ≤ c0_7) (h : r7_Right.f a0_0 a0_1 a0_2 l0_3 l0_4 a0_5 a0_6 l0_7 = some r) :
    Calls Try.prog 37 #[.agg #[.int .u8 a0_0, .int .u32 a0_1, .int .u32 a0_2, .slice A0_3 l0_3.length c0_3, .slice A0_4 l0_4.length c0_4, .int .u8 a0_5, .int .u32 a0_6, .slice A0_7 l0_7.length c0_7]] w fun e w' => e = .returned (.bool r) ∧ Below w.heap.size w w' := by
  unfold r7_Right.f at h
  split at h
  · rename_i hc
    obtain ⟨h0, h1, h2, h3, h4, h5, h6, h7, h8, h9, h10⟩ := hc
    obtain ⟨x0, rfl⟩ := Int.eq_ofNat_of_zero_le h0.1
    obtain ⟨x1, rfl⟩ := Int.eq_ofNat_of_zero_le h1.1
    obtain ⟨x2, rfl⟩ := Int.eq_ofNat_of_zero_le h2.1
    obtain ⟨x5, rfl⟩ := Int.eq_ofNat_of_zero_le h5.1
    obtain ⟨x6, rfl⟩ := Int.eq_ofNat_of_zero_le h6.1
    injection h with h
    subst h
    have hl := rightL_iff (inRM x0 x1 x2 l0_3 l0_4 x5 x6 l0_7)
    have e : decide (RightR (inRM x0 x1 x2 l0_3 l0_4 x5 x6 l0_7)) = decide (RightL x0 l0_3.length l0_4.length x5 x6 l0_7.length) := decide_eq_decide.2 (by
      rw [hl]
      show RightL x0 (l0_3.map ofRP).length (l0_4.map ofRO).length x5 x6 (nb l0_7).length ↔ _
      rw [List.length_map, List.length_map, nb_length])
    rw [e]
    exact r7Right_any x0 x1 x2 x5 x6 l0_3.length l0_4.length l0_7.length (by omega) (by omega) (by omega)
  · cases h
def r7_Put.f (a0_0 a0_1 a0_2 : Int) (l0_3 : List S115) (l0_4 : List S119) (a0_5 a0_6 : Int) (l0_7 : List Int) : Option (Int × Int × List Int × Int × Int) :=
  if OkRM a0_0 a0_1 a0_2 l0_3 l0_4 a0_5 a0_6 l0_7 then (let M := putN (inRM a0_0 a0_1 a0_2 l0_3 l0_4 a0_5 a0_6 l0_7); some ((M.1 : Int), (M.2.1 : Int), ib M.2.2.1, 0, (M.2.2.2 : Int))) else none
theorem r7_Put.calls (a0_0 : Int) (a0_1 : Int) (a0_2 : Int) (A0_3 : Option Addr) (c0_3 : Nat) (l0_3 : List (S115)) (A0_4 : Option Addr) (c0_4 : Nat) (l0_4 : List (S119)) (a0_5 : Int) (a0_6 : Int) (A0_7 : Option Addr) (c0_7 : Nat) (l0_7 : List Int) (r1 : Int) (r2 : Int) (r3 : List Int) (r4 : Int) (r5 : Int) (w : World) (hr0_3 : Kd.C k115 w A0_3 l0_3.length l0_3) (hc0_3 : l0_3.length ≤ c0_3) (hr0_4 : Kd.C k119 w A0_4 l0_4.length l0_4) (hc0_4 : l0_4.length ≤ c0_4) (hr0_7 : Kd.C (Kd.int .u32) w A0_7 l0_7.length l0_7) (hc0_7 : l0_7.length ≤ c0_7) (h : r7_Put.f a0_0 a0_1 a0_2 l0_3 l0_4 a0_5 a0_6 l0_7 = some (r1, r2, r3, r4, r5)) :
    Calls Try.prog 33 #[.agg #[.int .u8 a0_0, .int .u32 a0_1, .int .u32 a0_2, .slice A0_3 l0_3.length c0_3, .slice A0_4 l0_4.length c0_4, .int .u8 a0_5, .int .u32 a0_6, .slice A0_7 l0_7.length c0_7]] w fun e w' => ∃ v2_ : Value, e = .returned (.tuple #[.agg #[.int .u8 r1, .int .u8 r2, v2_, .int .u8 r4], .int .i64 r5]) ∧ Kd.R (Kd.int .u8) 5 w' w.heap.size (fun _ => True) v2_ r3 ∧ Below w.heap.size w w' := by
  unfold r7_Put.f at h
  split at h
  · rename_i hc
    have ok := inRM_ok hc
    obtain ⟨h0, h1, h2, h3, h4, h5, h6, h7, h8, h9, h10⟩ := hc
    obtain ⟨x0, rfl⟩ := Int.eq_ofNat_of_zero_le h0.1
    obtain ⟨x1, rfl⟩ := Int.eq_ofNat_of_zero_le h1.1
    obtain ⟨x2, rfl⟩ := Int.eq_ofNat_of_zero_le h2.1
    obtain ⟨x5, rfl⟩ := Int.eq_ofNat_of_zero_le h5.1
    obtain ⟨x6, rfl⟩ := Int.eq_ofNat_of_zero_le h6.1
    simp only [Option.some.injEq, Prod.mk.injEq] at h
    obtain ⟨rfl, rfl, rfl, rfl, rfl⟩ := h
    have key := r7Put_any (w := w) (A3 := A0_3) (A4 := A0_4) (A7 := A0_7) (c3 := c0_3) (c4 := c0_4) (c7 := c0_7) x0 x1 x2 x5 x6 (l0_3.map ofRP) (l0_4.map ofRO) (nb l0_7) ok (by rw [rp_back h3, List.length_map]; exact hr0_3) (by rw [ro_back h4, List.length_map]; exact hr0_4) (by rw [ib_nb h7, nb_length]; exact hr0_7) (by rw [List.length_map]; omega) (by rw [List.length_map]; omega) (by rw [nb_length]; omega)
    rw [List.length_map, List.length_map, nb_length] at key
    refine key.mono ?_
    rintro e w' ⟨vb, rfl, ho, hk⟩
    exact ⟨vb, rfl, R_bytes ho, hk⟩
  · cases h
end Go.Proofs.Ytjcejgolcdgipaa.K7

namespace Go.Proofs.Ytjcejgolcdgipaa.K7
open Go.RowKit Go.Proofs.YtjcejgolcdgipaaW.PrintWords Go.Proofs.YtjcejgolcdgipaaW.PrintLast Go.Proofs.YtjcejgolcdgipaaW.PrintMore
set_option linter.unusedVariables false

section
variable (k1 k2 k3 k4 k5 k6 k7 k8 k9 : Nat) (m0 m1 m2 : Int) {A3 A4 A7 : Option Addr} {c3 c4 c7 : Nat} (l3 : List S82) (l4 : List S134) (m5 m6 : Int) (l7 : List Int) (o0 o1 o2 : Int) {B3 B4 B7 : Option Addr} {d3 d4 d7 : Nat} (n3 : List S82) (n4 : List S134) (o5 o6 : Int) (n7 : List Int) (w : World)
set_option maxHeartbeats 8000000 in
set_option maxRecDepth 100000 in
theorem FeedbackPuts_walk (hM : Ms w A3 A4 A7 l3 l4 l7 c3 c4 c7) (hO : Ms w B3 B4 B7 n3 n4 n7 d3 d4 d7)
    (hF1 : easellaw07_few.f m0 m1 m2 l3 l4 m5 m6 l7 = some true) (hF2 : easellaw07_few.f o0 o1 o2 n3 n4 o5 o6 n7 = some true)
    (r3 : List S115) (r4 : List S119) (hR : easellaw07_ref.f k1 m0 m1 m2 l3 l4 m5 m6 l7 = some (m0, m1, m2, r3, r4, m5, m6, l7))
    (p1 p2 : Int) (p3 : List Int) (p4 p5 : Int) (hP : r7_Put.f m0 m1 m2 r3 r4 m5 m6 l7 = some (p1, p2, p3, p4, p5)) (hQ : fb_Put.f m0 m1 m2 l3 l4 m5 m6 l7 = some (p1, p2, p3, p4, p5))
    (hK : p3.length ≤ 1000000) (z : List Int) (hZ : easelkit_Spoil.f k4 p3 = some z)
    (rr : Bool) (hRi : fb_Right.f m0 m1 m2 l3 l4 m5 m6 l7 = some rr) (hRr : r7_Right.f m0 m1 m2 r3 r4 m5 m6 l7 = some rr)
    (ss : Bool) (hSm : feedback_Same.f k6 m0 m1 m2 l3 l4 m5 m6 l7 o0 o1 o2 n3 n4 o5 o6 n7 = some ss) (q3 : List S115) (q4 : List S119) (hRo : easellaw07_ref.f k7 o0 o1 o2 n3 n4 o5 o6 n7 = some (o0, o1, o2, q3, q4, o5, o6, n7)) (hRs : r7_Same.f m0 m1 m2 r3 r4 m5 m6 l7 o0 o1 o2 q3 q4 o5 o6 n7 = some ss)
    (hSS : feedback_Same.f k8 m0 m1 m2 l3 l4 m5 m6 l7 m0 m1 m2 l3 l4 m5 m6 l7 = some true) (rt : Int) (hRa : feedback_Message_Rate.f m0 m1 m2 l3 l4 m5 m6 l7 = some rt) (hRb : easelref07_Rate.f k9 m0 m1 m2 r3 r4 m5 m6 l7 = some rt) (hRS : r7_Same.f m0 m1 m2 r3 r4 m5 m6 l7 m0 m1 m2 r3 r4 m5 m6 l7 = some true) :
    Calls Try.prog 5 #[.agg #[.int .u8 m0, .int .u32 m1, .int .u32 m2, .slice A3 l3.length c3, .slice A4 l4.length c4, .int .u8 m5, .int .u32 m6, .slice A7 l7.length c7], .agg #[.int .u8 o0, .int .u32 o1, .int .u32 o2, .slice B3 n3.length d3, .slice B4 n4.length d4, .int .u8 o5, .int .u32 o6, .slice B7 n7.length d7]] w fun e w' => e = .returned (.bool true) ∧ Below w.heap.size w w' := by
  obtain ⟨w0, hw0⟩ : ∃ w0, w0 = (w.alloc (.cells #[.int .u8 m0, .int .u32 m1, .int .u32 m2, .slice A3 l3.length c3, .slice A4 l4.length c4, .int .u8 m5, .int .u32 m6, .slice A7 l7.length c7] 52)).alloc (.cells #[.int .u8 o0, .int .u32 o1, .int .u32 o2, .slice B3 n3.length d3, .slice B4 n4.length d4, .int .u8 o5, .int .u32 o6, .slice B7 n7.length d7] 52) := ⟨_, rfl⟩
  have hB0 : Below w.heap.size w w0 := hw0 ▸ ((Below.refl _ _).alloc (Nat.le_refl _) _).alloc (by simp) _
  have bM : Blk w0 w.heap.size 52 #[.int .u8 m0, .int .u32 m1, .int .u32 m2, .slice A3 l3.length c3, .slice A4 l4.length c4, .int .u8 m5, .int .u32 m6, .slice A7 l7.length c7] := hw0 ▸ (Blk.new w _ _).alloc _
  have bO : Blk w0 (w.heap.size + 1) 52 #[.int .u8 o0, .int .u32 o1, .int .u32 o2, .slice B3 n3.length d3, .slice B4 n4.length d4, .int .u8 o5, .int .u32 o6, .slice B7 n7.length d7] := hw0 ▸ blk2 w _ _ _
  have HM3 := hd (Kd.C_below hM.r3 hB0)
  have HM4 := hd (Kd.C_below hM.r4 hB0)
  have HM7 := hd (Kd.C_below hM.r7 hB0)
  have HO3 := hd (Kd.C_below hO.r3 hB0)
  have HO4 := hd (Kd.C_below hO.r4 hB0)
  have HO7 := hd (Kd.C_below hO.r7 hB0)
  have hc3 := hM.k3
  have hc4 := hM.k4
  have hc7 := hM.k7
  have hd3 := hO.k3
  have hd4 := hO.k4
  have hd7 := hO.k7
  have HF1 := hd hF1
  have HF2 := hd hF2
  have HR := hd hR
  have HP := hd hP
  have HQ := hd hQ
  have HK := hd hK
  have HZ := hd hZ
  have HRi := hd hRi
  have HRr := hd hRr
  have HSm := hd hSm
  have HRo := hd hRo
  have HRs := hd hRs
  have HSS := hd hSS
  have HRa := hd hRa
  have HRb := hd hRb
  have HRS := hd hRS
  have HW0 := hd hw0
  have HB := hd hB0
  clear hM hO hF1 hF2 hR hP hQ hK hZ hRi hRr hSm hRo hRs hSS hRa hRb hRS hw0 hB0
  have cM := bM.cell
  have cO := bO.cell
  go_enter Try.func5, Try.ntmps5
  go_upto_region 1 with (fail)
  rw [← HW0.out]
  clear HW0 cM cO
  have c_bM := bM.cell
  go_wp2_with fail
  refine (easellaw07_few.calls m0 m1 m2 _ _ l3 _ _ l4 m5 m6 _ _ l7 true _ HM3.out hc3 HM4.out hc4 HM7.out hc7 HF1.out).mono ?_
  rintro e_ w1 ⟨rfl, hB1⟩
  replace HM3 := hd (Kd.C_below HM3.out hB1)
  replace HM4 := hd (Kd.C_below HM4.out hB1)
  replace HM7 := hd (Kd.C_below HM7.out hB1)
  replace HO3 := hd (Kd.C_below HO3.out hB1)
  replace HO4 := hd (Kd.C_below HO4.out hB1)
  replace HO7 := hd (Kd.C_below HO7.out hB1)
  replace bM := bM.kp (kp_of_below hB1) trivial
  replace bO := bO.kp (kp_of_below hB1) trivial
  replace HB := hd (below_next HB.out hB1)
  clear hB1 c_bM
  have c_bO := bO.cell
  go_wp2_with fail
  refine (easellaw07_few.calls o0 o1 o2 _ _ n3 _ _ n4 o5 o6 _ _ n7 true _ HO3.out hd3 HO4.out hd4 HO7.out hd7 HF2.out).mono ?_
  rintro e_ w2 ⟨rfl, hB2⟩
  replace HM3 := hd (Kd.C_below HM3.out hB2)
  replace HM4 := hd (Kd.C_below HM4.out hB2)
  replace HM7 := hd (Kd.C_below HM7.out hB2)
  replace HO3 := hd (Kd.C_below HO3.out hB2)
  replace HO4 := hd (Kd.C_below HO4.out hB2)
  replace HO7 := hd (Kd.C_below HO7.out hB2)
  replace bM := bM.kp (kp_of_below hB2) trivial
  replace bO := bO.kp (kp_of_below hB2) trivial
  replace HB := hd (below_next HB.out hB2)
  clear hB2 c_bO
  have c_bM := bM.cell
  go_wp2_with fail
  refine (easellaw07_ref.calls k1 m0 m1 m2 _ _ l3 _ _ l4 m5 m6 _ _ l7 m0 m1 m2 r3 r4 m5 m6 l7 _ HM3.out hc3 HM4.out hc4 HM7.out hc7 HR.out).mono ?_
  rintro e_ w3 ⟨v3, v4, v7, rfl, hR3, hR4, hR7, hB3⟩
  replace HM3 := hd (Kd.C_below HM3.out hB3)
  replace HM4 := hd (Kd.C_below HM4.out hB3)
  replace HM7 := hd (Kd.C_below HM7.out hB3)
  replace HO3 := hd (Kd.C_below HO3.out hB3)
  replace HO4 := hd (Kd.C_below HO4.out hB3)
  replace HO7 := hd (Kd.C_below HO7.out hB3)
  replace bM := bM.kp (kp_of_below hB3) trivial
  replace bO := bO.kp (kp_of_below hB3) trivial
  replace HB := hd (below_next HB.out hB3)
  clear hB3 c_bM
  obtain ⟨R3, e3, rfl, he3, HR3_⟩ := Kd.R_reads hR3
  have HR3 := hd HR3_
  clear HR3_ hR3
  obtain ⟨R4, e4, rfl, he4, HR4_⟩ := Kd.R_reads hR4
  have HR4 := hd HR4_
  clear HR4_ hR4
  obtain ⟨R7, e7, rfl, he7, HR7_⟩ := Kd.R_reads hR7
  have HR7 := hd HR7_
  clear HR7_ hR7
  go_upto_region 4 with (fail)
  obtain ⟨w4, hw_⟩ : ∃ w4, w4 = w3.alloc (.cells #[.int .u8 m0, .int .u32 m1, .int .u32 m2, .slice R3 r3.length e3, .slice R4 r4.length e4, .int .u8 m5, .int .u32 m6, .slice R7 l7.length e7] 46) := ⟨_, rfl⟩
  rw [← hw_]
  have hA_w4 : Below w3.heap.size w3 w4 := hw_ ▸ below_alloc1 w3 _
  have nbR : Blk w4 w3.heap.size 46 #[.int .u8 m0, .int .u32 m1, .int .u32 m2, .slice R3 r3.length e3, .slice R4 r4.length e4, .int .u8 m5, .int .u32 m6, .slice R7 l7.length e7] := hw_ ▸ Blk.new w3 _ _
  clear hw_
  replace HM3 := hd (Kd.C_below HM3.out hA_w4)
  replace HM4 := hd (Kd.C_below HM4.out hA_w4)
  replace HM7 := hd (Kd.C_below HM7.out hA_w4)
  replace HO3 := hd (Kd.C_below HO3.out hA_w4)
  replace HO4 := hd (Kd.C_below HO4.out hA_w4)
  replace HO7 := hd (Kd.C_below HO7.out hA_w4)
  replace bM := bM.kp (kp_of_below hA_w4) trivial
  replace bO := bO.kp (kp_of_below hA_w4) trivial
  replace HB := hd (below_next HB.out hA_w4)
  replace HR3 := hd (Kd.C_below HR3.out hA_w4)
  replace HR4 := hd (Kd.C_below HR4.out hA_w4)
  replace HR7 := hd (Kd.C_below HR7.out hA_w4)
  clear hA_w4
  have bR := nbR
  clear nbR
  have c_bR := bR.cell
  go_wp2_with fail
  refine (r7_Put.calls m0 m1 m2 _ _ r3 _ _ r4 m5 m6 _ _ l7 p1 p2 p3 p4 p5 _ HR3.out he3 HR4.out he4 HR7.out he7 HP.out).mono ?_
  rintro e_ w5 ⟨vb, rfl, hPb, hB5⟩
  replace HM3 := hd (Kd.C_below HM3.out hB5)
  replace HM4 := hd (Kd.C_below HM4.out hB5)
  replace HM7 := hd (Kd.C_below HM7.out hB5)
  replace HO3 := hd (Kd.C_below HO3.out hB5)
  replace HO4 := hd (Kd.C_below HO4.out hB5)
  replace HO7 := hd (Kd.C_below HO7.out hB5)
  replace bM := bM.kp (kp_of_below hB5) trivial
  replace bO := bO.kp (kp_of_below hB5) trivial
  replace HB := hd (below_next HB.out hB5)
  replace HR3 := hd (Kd.C_below HR3.out hB5)
  replace HR4 := hd (Kd.C_below HR4.out hB5)
  replace HR7 := hd (Kd.C_below HR7.out hB5)
  replace bR := bR.kp (kp_of_below hB5) trivial
  clear hB5 c_bR
  obtain ⟨W3, v3, rfl, hv3, HW3_⟩ := Kd.R_reads hPb
  have HW3 := hd HW3_
  clear HW3_ hPb
  go_upto_region 5 with (fail)
  obtain ⟨w6, hw_⟩ : ∃ w6, w6 = w5.alloc (.cells #[.int .u8 p1, .int .u8 p2, .slice W3 p3.length v3, .int .u8 p4] 41) := ⟨_, rfl⟩
  rw [← hw_]
  have hA_w6 : Below w5.heap.size w5 w6 := hw_ ▸ below_alloc1 w5 _
  have nbW : Blk w6 w5.heap.size 41 #[.int .u8 p1, .int .u8 p2, .slice W3 p3.length v3, .int .u8 p4] := hw_ ▸ Blk.new w5 _ _
  clear hw_
  replace HM3 := hd (Kd.C_below HM3.out hA_w6)
  replace HM4 := hd (Kd.C_below HM4.out hA_w6)
  replace HM7 := hd (Kd.C_below HM7.out hA_w6)
  replace HO3 := hd (Kd.C_below HO3.out hA_w6)
  replace HO4 := hd (Kd.C_below HO4.out hA_w6)
  replace HO7 := hd (Kd.C_below HO7.out hA_w6)
  replace bM := bM.kp (kp_of_below hA_w6) trivial
  replace bO := bO.kp (kp_of_below hA_w6) trivial
  replace HB := hd (below_next HB.out hA_w6)
  replace HR3 := hd (Kd.C_below HR3.out hA_w6)
  replace HR4 := hd (Kd.C_below HR4.out hA_w6)
  replace HR7 := hd (Kd.C_below HR7.out hA_w6)
  replace bR := bR.kp (kp_of_below hA_w6) trivial
  replace HW3 := hd (Kd.C_below HW3.out hA_w6)
  clear hA_w6
  have bW := nbW
  clear nbW
  go_wp2
  go_loopw [8] (fun iv wr => ∃ j : Nat, j ≤ 2 ∧ iv = .int .i64 j ∧ Below w6.heap.size w6 wr) (fun iv _ => 2 - (intOf iv).toNat)
  case atStart => exact ⟨0, by omega, rfl, Below.refl _ _⟩
  case round =>
    obtain ⟨j, hj, rfl, hBr⟩ := hrel
    replace HM3 := hd (Kd.C_below HM3.out hBr)
    replace HM4 := hd (Kd.C_below HM4.out hBr)
    replace HM7 := hd (Kd.C_below HM7.out hBr)
    replace HO3 := hd (Kd.C_below HO3.out hBr)
    replace HO4 := hd (Kd.C_below HO4.out hBr)
    replace HO7 := hd (Kd.C_below HO7.out hBr)
    replace bM := bM.kp (kp_of_below hBr) trivial
    replace bO := bO.kp (kp_of_below hBr) trivial
    replace HB := hd (below_next HB.out hBr)
    replace HR3 := hd (Kd.C_below HR3.out hBr)
    replace HR4 := hd (Kd.C_below HR4.out hBr)
    replace HR7 := hd (Kd.C_below HR7.out hBr)
    replace bR := bR.kp (kp_of_below hBr) trivial
    replace HW3 := hd (Kd.C_below HW3.out hBr)
    replace bW := bW.kp (kp_of_below hBr) trivial
    by_cases hlt : j < 2
    · have HBr := hd (Below.refl wr.heap.size wr)
      have c_bM := bM.cell
      go_wp2_with fail
      refine (fb_Put.calls m0 m1 m2 _ _ l3 _ _ l4 m5 m6 _ _ l7 p1 p2 p3 p4 p5 _ HM3.out hc3 HM4.out hc4 HM7.out hc7 HQ.out).mono ?_
      rintro e_ w7 ⟨vx, rfl, hX, hB7⟩
      replace HM3 := hd (Kd.C_below HM3.out hB7)
      replace HM4 := hd (Kd.C_below HM4.out hB7)
      replace HM7 := hd (Kd.C_below HM7.out hB7)
      replace HO3 := hd (Kd.C_below HO3.out hB7)
      replace HO4 := hd (Kd.C_below HO4.out hB7)
      replace HO7 := hd (Kd.C_below HO7.out hB7)
      replace bM := bM.kp (kp_of_below hB7) trivial
      replace bO := bO.kp (kp_of_below hB7) trivial
      replace HR3 := hd (Kd.C_below HR3.out hB7)
      replace HR4 := hd (Kd.C_below HR4.out hB7)
      replace HR7 := hd (Kd.C_below HR7.out hB7)
      replace bR := bR.kp (kp_of_below hB7) trivial
      replace HW3 := hd (Kd.C_below HW3.out hB7)
      replace bW := bW.kp (kp_of_below hB7) trivial
      replace HBr := hd (below_next HBr.out hB7)
      clear hB7 c_bM
      obtain ⟨P3, u3, rfl, hu3, HP3_⟩ := Kd.R_reads hX
      have HP3 := hd HP3_
      have HX3 := hd hX
      clear HP3_ hX
      go_upto_region 9 with (fail)
      obtain ⟨w8, hw_⟩ : ∃ w8, w8 = w7.alloc (.cells #[.int .u8 p1, .int .u8 p2, .slice P3 p3.length u3, .int .u8 p4] 40) := ⟨_, rfl⟩
      rw [← hw_]
      have hA_w8 : Below w7.heap.size w7 w8 := hw_ ▸ below_alloc1 w7 _
      have nbP : Blk w8 w7.heap.size 40 #[.int .u8 p1, .int .u8 p2, .slice P3 p3.length u3, .int .u8 p4] := hw_ ▸ Blk.new w7 _ _
      clear hw_
      replace HM3 := hd (Kd.C_below HM3.out hA_w8)
      replace HM4 := hd (Kd.C_below HM4.out hA_w8)
      replace HM7 := hd (Kd.C_below HM7.out hA_w8)
      replace HO3 := hd (Kd.C_below HO3.out hA_w8)
      replace HO4 := hd (Kd.C_below HO4.out hA_w8)
      replace HO7 := hd (Kd.C_below HO7.out hA_w8)
      replace bM := bM.kp (kp_of_below hA_w8) trivial
      replace bO := bO.kp (kp_of_below hA_w8) trivial
      replace HR3 := hd (Kd.C_below HR3.out hA_w8)
      replace HR4 := hd (Kd.C_below HR4.out hA_w8)
      replace HR7 := hd (Kd.C_below HR7.out hA_w8)
      replace bR := bR.kp (kp_of_below hA_w8) trivial
      replace HW3 := hd (Kd.C_below HW3.out hA_w8)
      replace bW := bW.kp (kp_of_below hA_w8) trivial
      replace HBr := hd (below_next HBr.out hA_w8)
      replace HX3 := hd (Kd.R_below HX3.out hA_w8)
      replace HP3 := hd (Kd.C_below HP3.out hA_w8)
      clear hA_w8
      have bP := nbP
      clear nbP
      have hne : (p5 != p5) = false := by simp
      have c1 := HP3.out
      have c2 := HW3.out
      have cWa := fun o => (bW.alloc o).cell
      have c_bP := bP.cell
      have c_bW := bW.cell
      go_wp2_with fail
      refine (rtcps_one p1 p2 p3 p4 ((Blk.new w8 _ _).alloc _) (blk2 w8 _ _ _) hu3 (C_alloc _ (C_alloc _ c1)) (C_alloc _ (C_alloc _ c2)) HK.out).mono ?_
      rintro e_ w9 ⟨rfl, hB9_⟩
      have hB9 : Below w8.heap.size w8 w9 := below_next (below_next (below_alloc1 _ _) (below_alloc1 _ _)) hB9_
      clear hB9_ c1 c2 hne cWa
      replace HM3 := hd (Kd.C_below HM3.out hB9)
      replace HM4 := hd (Kd.C_below HM4.out hB9)
      replace HM7 := hd (Kd.C_below HM7.out hB9)
      replace HO3 := hd (Kd.C_below HO3.out hB9)
      replace HO4 := hd (Kd.C_below HO4.out hB9)
      replace HO7 := hd (Kd.C_below HO7.out hB9)
      replace bM := bM.kp (kp_of_below hB9) trivial
      replace bO := bO.kp (kp_of_below hB9) trivial
      replace HR3 := hd (Kd.C_below HR3.out hB9)
      replace HR4 := hd (Kd.C_below HR4.out hB9)
      replace HR7 := hd (Kd.C_below HR7.out hB9)
      replace bR := bR.kp (kp_of_below hB9) trivial
      replace HW3 := hd (Kd.C_below HW3.out hB9)
      replace bW := bW.kp (kp_of_below hB9) trivial
      replace HBr := hd (below_next HBr.out hB9)
      replace HX3 := hd (Kd.R_below HX3.out hB9)
      replace HP3 := hd (Kd.C_below HP3.out hB9)
      replace bP := bP.kp (kp_of_below hB9) trivial
      clear hB9 c_bP c_bW
      have c_bP := bP.cell
      go_wp2_with fail
      refine (easelkit_Spoil.calls k4 (fun _ => True) _ p3 z wr w9 HBr.out HX3.out HZ.out).mono ?_
      rintro e_ w10 ⟨rfl, _, hB10, _⟩
      clear c_bP
      go_wp2
      go_roundw
      case rel => exact ⟨j + 1, by omega, by go_num, below_next hBr hB10⟩
      case measure => simp [intOf]; omega
    · obtain rfl : j = 2 := by omega
      have hD : Below wr.heap.size wr wr.drew := pw_below_drewN (Below.refl _ _) 1
      have hrr : (rr == rr) = true := by simp
      have hss : (ss == ss) = true := by simp
      have hrt : (rt == rt) = true := by simp
      have sh0 : (∀ j, wr.drew.cell? ⟨w.heap.size, j, none⟩ = #[.int .u8 m0, .int .u32 m1, .int .u32 m2, .slice A3 l3.length c3, .slice A4 l4.length c4, .int .u8 m5, .int .u32 m6, .slice A7 l7.length c7][j]?) ∧ (∀ j, wr.drew.cell? ⟨w.heap.size + 1, j, none⟩ = #[.int .u8 o0, .int .u32 o1, .int .u32 o2, .slice B3 n3.length d3, .slice B4 n4.length d4, .int .u8 o5, .int .u32 o6, .slice B7 n7.length d7][j]?) ∧ (∀ j, wr.drew.cell? ⟨w3.heap.size, j, none⟩ = #[.int .u8 m0, .int .u32 m1, .int .u32 m2, .slice R3 r3.length e3, .slice R4 r4.length e4, .int .u8 m5, .int .u32 m6, .slice R7 l7.length e7][j]?) := ⟨bM.drew.cell, bO.drew.cell, bR.drew.cell⟩
      go_wp2_with fail
      go_region_held3 (fun W => (∀ j, W.cell? ⟨w.heap.size, j, none⟩ = #[.int .u8 m0, .int .u32 m1, .int .u32 m2, .slice A3 l3.length c3, .slice A4 l4.length c4, .int .u8 m5, .int .u32 m6, .slice A7 l7.length c7][j]?) ∧ (∀ j, W.cell? ⟨w.heap.size + 1, j, none⟩ = #[.int .u8 o0, .int .u32 o1, .int .u32 o2, .slice B3 n3.length d3, .slice B4 n4.length d4, .int .u8 o5, .int .u32 o6, .slice B7 n7.length d7][j]?) ∧ (∀ j, W.cell? ⟨w3.heap.size, j, none⟩ = #[.int .u8 m0, .int .u32 m1, .int .u32 m2, .slice R3 r3.length e3, .slice R4 r4.length e4, .int .u8 m5, .int .u32 m6, .slice R7 l7.length e7][j]?))
        (first | with_reducible exact sh0 | with_reducible exact sh1 | with_reducible exact sh2 | with_reducible exact sh3 | with_reducible exact sh4 | with_reducible exact sh5 | with_reducible exact sh6 | with_reducible exact sh7 | with_reducible exact sh8 | with_reducible exact sh9 | with_reducible exact sh10 | with_reducible exact sh11)
        (first
          | (go_at_call 36; refine (fb_Right.calls m0 m1 m2 _ _ l3 _ _ l4 m5 m6 _ _ l7 rr _ (Kd.C_below HM3.out hD) hc3 (Kd.C_below HM4.out hD) hc4 (Kd.C_below HM7.out hD) hc7 HRi.out).mono ?_; (rintro e_ wh1 ⟨rfl, hh1⟩); have hcc1 : Below wr.heap.size wr wh1 := below_next hD hh1; have sh1 : (∀ j, wh1.cell? ⟨w.heap.size, j, none⟩ = #[.int .u8 m0, .int .u32 m1, .int .u32 m2, .slice A3 l3.length c3, .slice A4 l4.length c4, .int .u8 m5, .int .u32 m6, .slice A7 l7.length c7][j]?) ∧ (∀ j, wh1.cell? ⟨w.heap.size + 1, j, none⟩ = #[.int .u8 o0, .int .u32 o1, .int .u32 o2, .slice B3 n3.length d3, .slice B4 n4.length d4, .int .u8 o5, .int .u32 o6, .slice B7 n7.length d7][j]?) ∧ (∀ j, wh1.cell? ⟨w3.heap.size, j, none⟩ = #[.int .u8 m0, .int .u32 m1, .int .u32 m2, .slice R3 r3.length e3, .slice R4 r4.length e4, .int .u8 m5, .int .u32 m6, .slice R7 l7.length e7][j]?) := ⟨(bM.kp (kp_of_below hcc1) trivial).cell, (bO.kp (kp_of_below hcc1) trivial).cell, (bR.kp (kp_of_below hcc1) trivial).cell⟩)
          | (go_at_call 37; refine (r7_Right.calls m0 m1 m2 _ _ r3 _ _ r4 m5 m6 _ _ l7 rr _ (Kd.C_below HR3.out hcc1) he3 (Kd.C_below HR4.out hcc1) he4 (Kd.C_below HR7.out hcc1) he7 HRr.out).mono ?_; (rintro e_ wh2 ⟨rfl, hh2⟩); have hcc2 : Below wr.heap.size wr wh2 := below_next hcc1 hh2; have sh2 : (∀ j, wh2.cell? ⟨w.heap.size, j, none⟩ = #[.int .u8 m0, .int .u32 m1, .int .u32 m2, .slice A3 l3.length c3, .slice A4 l4.length c4, .int .u8 m5, .int .u32 m6, .slice A7 l7.length c7][j]?) ∧ (∀ j, wh2.cell? ⟨w.heap.size + 1, j, none⟩ = #[.int .u8 o0, .int .u32 o1, .int .u32 o2, .slice B3 n3.length d3, .slice B4 n4.length d4, .int .u8 o5, .int .u32 o6, .slice B7 n7.length d7][j]?) ∧ (∀ j, wh2.cell? ⟨w3.heap.size, j, none⟩ = #[.int .u8 m0, .int .u32 m1, .int .u32 m2, .slice R3 r3.length e3, .slice R4 r4.length e4, .int .u8 m5, .int .u32 m6, .slice R7 l7.length e7][j]?) := ⟨(bM.kp (kp_of_below hcc2) trivial).cell, (bO.kp (kp_of_below hcc2) trivial).cell, (bR.kp (kp_of_below hcc2) trivial).cell⟩)
          | (go_at_call_of 38 (Value.int IntKind.u8 o0); refine (feedback_Same.calls k6 m0 m1 m2 _ _ l3 _ _ l4 m5 m6 _ _ l7 o0 o1 o2 _ _ n3 _ _ n4 o5 o6 _ _ n7 ss _ (Kd.C_below HM3.out hcc2) hc3 (Kd.C_below HM4.out hcc2) hc4 (Kd.C_below HM7.out hcc2) hc7 (Kd.C_below HO3.out hcc2) hd3 (Kd.C_below HO4.out hcc2) hd4 (Kd.C_below HO7.out hcc2) hd7 HSm.out).mono ?_; (rintro e_ wh3 ⟨rfl, hh3⟩); have hcc3 : Below wr.heap.size wr wh3 := below_next hcc2 hh3; have sh3 : (∀ j, wh3.cell? ⟨w.heap.size, j, none⟩ = #[.int .u8 m0, .int .u32 m1, .int .u32 m2, .slice A3 l3.length c3, .slice A4 l4.length c4, .int .u8 m5, .int .u32 m6, .slice A7 l7.length c7][j]?) ∧ (∀ j, wh3.cell? ⟨w.heap.size + 1, j, none⟩ = #[.int .u8 o0, .int .u32 o1, .int .u32 o2, .slice B3 n3.length d3, .slice B4 n4.length d4, .int .u8 o5, .int .u32 o6, .slice B7 n7.length d7][j]?) ∧ (∀ j, wh3.cell? ⟨w3.heap.size, j, none⟩ = #[.int .u8 m0, .int .u32 m1, .int .u32 m2, .slice R3 r3.length e3, .slice R4 r4.length e4, .int .u8 m5, .int .u32 m6, .slice R7 l7.length e7][j]?) := ⟨(bM.kp (kp_of_below hcc3) trivial).cell, (bO.kp (kp_of_below hcc3) trivial).cell, (bR.kp (kp_of_below hcc3) trivial).cell⟩)
          | (go_at_call_of 27 (Value.int IntKind.u8 o0); refine (easellaw07_ref.calls k7 o0 o1 o2 _ _ n3 _ _ n4 o5 o6 _ _ n7 o0 o1 o2 q3 q4 o5 o6 n7 _ (Kd.C_below HO3.out hcc3) hd3 (Kd.C_below HO4.out hcc3) hd4 (Kd.C_below HO7.out hcc3) hd7 HRo.out).mono ?_; (rintro e_ wh4 ⟨x3, x4, x7, rfl, y3, y4, y7, hh4⟩); obtain ⟨X3, i3, rfl, hi3, X3c⟩ := Kd.R_reads y3; obtain ⟨X4, i4, rfl, hi4, X4c⟩ := Kd.R_reads y4; obtain ⟨X7, i7, rfl, hi7, X7c⟩ := Kd.R_reads y7; have hcc4 : Below wr.heap.size wr wh4 := below_next hcc3 hh4; have sh4 : (∀ j, wh4.cell? ⟨w.heap.size, j, none⟩ = #[.int .u8 m0, .int .u32 m1, .int .u32 m2, .slice A3 l3.length c3, .slice A4 l4.length c4, .int .u8 m5, .int .u32 m6, .slice A7 l7.length c7][j]?) ∧ (∀ j, wh4.cell? ⟨w.heap.size + 1, j, none⟩ = #[.int .u8 o0, .int .u32 o1, .int .u32 o2, .slice B3 n3.length d3, .slice B4 n4.length d4, .int .u8 o5, .int .u32 o6, .slice B7 n7.length d7][j]?) ∧ (∀ j, wh4.cell? ⟨w3.heap.size, j, none⟩ = #[.int .u8 m0, .int .u32 m1, .int .u32 m2, .slice R3 r3.length e3, .slice R4 r4.length e4, .int .u8 m5, .int .u32 m6, .slice R7 l7.length e7][j]?) := ⟨(bM.kp (kp_of_below hcc4) trivial).cell, (bO.kp (kp_of_below hcc4) trivial).cell, (bR.kp (kp_of_below hcc4) trivial).cell⟩)
          | (go_at_call_of 26 (Value.int IntKind.u8 o0); refine (r7_Same.calls m0 m1 m2 _ _ r3 _ _ r4 m5 m6 _ _ l7 o0 o1 o2 _ _ q3 _ _ q4 o5 o6 _ _ n7 ss _ (Kd.C_below HR3.out hcc4) he3 (Kd.C_below HR4.out hcc4) he4 (Kd.C_below HR7.out hcc4) he7 X3c hi3 X4c hi4 X7c hi7 HRs.out).mono ?_; (rintro e_ wh5 ⟨rfl, hh5⟩); have hcc5 : Below wr.heap.size wr wh5 := below_next hcc4 hh5; have sh5 : (∀ j, wh5.cell? ⟨w.heap.size, j, none⟩ = #[.int .u8 m0, .int .u32 m1, .int .u32 m2, .slice A3 l3.length c3, .slice A4 l4.length c4, .int .u8 m5, .int .u32 m6, .slice A7 l7.length c7][j]?) ∧ (∀ j, wh5.cell? ⟨w.heap.size + 1, j, none⟩ = #[.int .u8 o0, .int .u32 o1, .int .u32 o2, .slice B3 n3.length d3, .slice B4 n4.length d4, .int .u8 o5, .int .u32 o6, .slice B7 n7.length d7][j]?) ∧ (∀ j, wh5.cell? ⟨w3.heap.size, j, none⟩ = #[.int .u8 m0, .int .u32 m1, .int .u32 m2, .slice R3 r3.length e3, .slice R4 r4.length e4, .int .u8 m5, .int .u32 m6, .slice R7 l7.length e7][j]?) := ⟨(bM.kp (kp_of_below hcc5) trivial).cell, (bO.kp (kp_of_below hcc5) trivial).cell, (bR.kp (kp_of_below hcc5) trivial).cell⟩)
          | (go_at_call 38; refine (feedback_Same.calls k8 m0 m1 m2 _ _ l3 _ _ l4 m5 m6 _ _ l7 m0 m1 m2 _ _ l3 _ _ l4 m5 m6 _ _ l7 true _ (Kd.C_below HM3.out hcc5) hc3 (Kd.C_below HM4.out hcc5) hc4 (Kd.C_below HM7.out hcc5) hc7 (Kd.C_below HM3.out hcc5) hc3 (Kd.C_below HM4.out hcc5) hc4 (Kd.C_below HM7.out hcc5) hc7 HSS.out).mono ?_; (rintro e_ wh6 ⟨rfl, hh6⟩); have hcc6 : Below wr.heap.size wr wh6 := below_next hcc5 hh6; have sh6 : (∀ j, wh6.cell? ⟨w.heap.size, j, none⟩ = #[.int .u8 m0, .int .u32 m1, .int .u32 m2, .slice A3 l3.length c3, .slice A4 l4.length c4, .int .u8 m5, .int .u32 m6, .slice A7 l7.length c7][j]?) ∧ (∀ j, wh6.cell? ⟨w.heap.size + 1, j, none⟩ = #[.int .u8 o0, .int .u32 o1, .int .u32 o2, .slice B3 n3.length d3, .slice B4 n4.length d4, .int .u8 o5, .int .u32 o6, .slice B7 n7.length d7][j]?) ∧ (∀ j, wh6.cell? ⟨w3.heap.size, j, none⟩ = #[.int .u8 m0, .int .u32 m1, .int .u32 m2, .slice R3 r3.length e3, .slice R4 r4.length e4, .int .u8 m5, .int .u32 m6, .slice R7 l7.length e7][j]?) := ⟨(bM.kp (kp_of_below hcc6) trivial).cell, (bO.kp (kp_of_below hcc6) trivial).cell, (bR.kp (kp_of_below hcc6) trivial).cell⟩)
          | (go_at_call 39; refine (feedback_Message_Rate.calls m0 m1 m2 _ _ l3 _ _ l4 m5 m6 _ _ l7 rt _ (Kd.C_below HM3.out hcc6) hc3 (Kd.C_below HM4.out hcc6) hc4 (Kd.C_below HM7.out hcc6) hc7 HRa.out).mono ?_; (rintro e_ wh7 ⟨rfl, hh7⟩); have hcc7 : Below wr.heap.size wr wh7 := below_next hcc6 hh7; have sh7 : (∀ j, wh7.cell? ⟨w.heap.size, j, none⟩ = #[.int .u8 m0, .int .u32 m1, .int .u32 m2, .slice A3 l3.length c3, .slice A4 l4.length c4, .int .u8 m5, .int .u32 m6, .slice A7 l7.length c7][j]?) ∧ (∀ j, wh7.cell? ⟨w.heap.size + 1, j, none⟩ = #[.int .u8 o0, .int .u32 o1, .int .u32 o2, .slice B3 n3.length d3, .slice B4 n4.length d4, .int .u8 o5, .int .u32 o6, .slice B7 n7.length d7][j]?) ∧ (∀ j, wh7.cell? ⟨w3.heap.size, j, none⟩ = #[.int .u8 m0, .int .u32 m1, .int .u32 m2, .slice R3 r3.length e3, .slice R4 r4.length e4, .int .u8 m5, .int .u32 m6, .slice R7 l7.length e7][j]?) := ⟨(bM.kp (kp_of_below hcc7) trivial).cell, (bO.kp (kp_of_below hcc7) trivial).cell, (bR.kp (kp_of_below hcc7) trivial).cell⟩)
          | (go_at_call 40; refine (easelref07_Rate.calls k9 m0 m1 m2 _ _ r3 _ _ r4 m5 m6 _ _ l7 rt _ (Kd.C_below HR3.out hcc7) he3 (Kd.C_below HR4.out hcc7) he4 (Kd.C_below HR7.out hcc7) he7 HRb.out).mono ?_; (rintro e_ wh8 ⟨rfl, hh8⟩); have hcc8 : Below wr.heap.size wr wh8 := below_next hcc7 hh8; have sh8 : (∀ j, wh8.cell? ⟨w.heap.size, j, none⟩ = #[.int .u8 m0, .int .u32 m1, .int .u32 m2, .slice A3 l3.length c3, .slice A4 l4.length c4, .int .u8 m5, .int .u32 m6, .slice A7 l7.length c7][j]?) ∧ (∀ j, wh8.cell? ⟨w.heap.size + 1, j, none⟩ = #[.int .u8 o0, .int .u32 o1, .int .u32 o2, .slice B3 n3.length d3, .slice B4 n4.length d4, .int .u8 o5, .int .u32 o6, .slice B7 n7.length d7][j]?) ∧ (∀ j, wh8.cell? ⟨w3.heap.size, j, none⟩ = #[.int .u8 m0, .int .u32 m1, .int .u32 m2, .slice R3 r3.length e3, .slice R4 r4.length e4, .int .u8 m5, .int .u32 m6, .slice R7 l7.length e7][j]?) := ⟨(bM.kp (kp_of_below hcc8) trivial).cell, (bO.kp (kp_of_below hcc8) trivial).cell, (bR.kp (kp_of_below hcc8) trivial).cell⟩)
          | (go_at_call 27; refine (easellaw07_ref.calls k1 m0 m1 m2 _ _ l3 _ _ l4 m5 m6 _ _ l7 m0 m1 m2 r3 r4 m5 m6 l7 _ (Kd.C_below HM3.out hcc8) hc3 (Kd.C_below HM4.out hcc8) hc4 (Kd.C_below HM7.out hcc8) hc7 HR.out).mono ?_; (rintro e_ wh9 ⟨x3, x4, x7, rfl, y3', y4', y7', hh9⟩); obtain ⟨Y3, j3, rfl, hj3, Y3c⟩ := Kd.R_reads y3'; obtain ⟨Y4, j4, rfl, hj4, Y4c⟩ := Kd.R_reads y4'; obtain ⟨Y7, j7, rfl, hj7, Y7c⟩ := Kd.R_reads y7'; have hcc9 : Below wr.heap.size wr wh9 := below_next hcc8 hh9; have sh9 : (∀ j, wh9.cell? ⟨w.heap.size, j, none⟩ = #[.int .u8 m0, .int .u32 m1, .int .u32 m2, .slice A3 l3.length c3, .slice A4 l4.length c4, .int .u8 m5, .int .u32 m6, .slice A7 l7.length c7][j]?) ∧ (∀ j, wh9.cell? ⟨w.heap.size + 1, j, none⟩ = #[.int .u8 o0, .int .u32 o1, .int .u32 o2, .slice B3 n3.length d3, .slice B4 n4.length d4, .int .u8 o5, .int .u32 o6, .slice B7 n7.length d7][j]?) ∧ (∀ j, wh9.cell? ⟨w3.heap.size, j, none⟩ = #[.int .u8 m0, .int .u32 m1, .int .u32 m2, .slice R3 r3.length e3, .slice R4 r4.length e4, .int .u8 m5, .int .u32 m6, .slice R7 l7.length e7][j]?) := ⟨(bM.kp (kp_of_below hcc9) trivial).cell, (bO.kp (kp_of_below hcc9) trivial).cell, (bR.kp (kp_of_below hcc9) trivial).cell⟩)
          | (go_at_call 26; refine (r7_Same.calls m0 m1 m2 _ _ r3 _ _ r4 m5 m6 _ _ l7 m0 m1 m2 _ _ r3 _ _ r4 m5 m6 _ _ l7 true _ Y3c hj3 Y4c hj4 Y7c hj7 (Kd.C_below HR3.out hcc9) he3 (Kd.C_below HR4.out hcc9) he4 (Kd.C_below HR7.out hcc9) he7 HRS.out).mono ?_; (rintro e_ wh10 ⟨rfl, hh10⟩); have hcc10 : Below wr.heap.size wr wh10 := below_next hcc9 hh10; have sh10 : (∀ j, wh10.cell? ⟨w.heap.size, j, none⟩ = #[.int .u8 m0, .int .u32 m1, .int .u32 m2, .slice A3 l3.length c3, .slice A4 l4.length c4, .int .u8 m5, .int .u32 m6, .slice A7 l7.length c7][j]?) ∧ (∀ j, wh10.cell? ⟨w.heap.size + 1, j, none⟩ = #[.int .u8 o0, .int .u32 o1, .int .u32 o2, .slice B3 n3.length d3, .slice B4 n4.length d4, .int .u8 o5, .int .u32 o6, .slice B7 n7.length d7][j]?) ∧ (∀ j, wh10.cell? ⟨w3.heap.size, j, none⟩ = #[.int .u8 m0, .int .u32 m1, .int .u32 m2, .slice R3 r3.length e3, .slice R4 r4.length e4, .int .u8 m5, .int .u32 m6, .slice R7 l7.length e7][j]?) := ⟨(bM.kp (kp_of_below hcc10) trivial).cell, (bO.kp (kp_of_below hcc10) trivial).cell, (bR.kp (kp_of_below hcc10) trivial).cell⟩)
          | (go_at_call 13; refine (l7_works.calls true _ rfl).mono ?_; (rintro e_ wh11 ⟨rfl, hh11⟩); have hcc11 : Below wr.heap.size wr wh11 := below_next hcc10 hh11; have sh11 : (∀ j, wh11.cell? ⟨w.heap.size, j, none⟩ = #[.int .u8 m0, .int .u32 m1, .int .u32 m2, .slice A3 l3.length c3, .slice A4 l4.length c4, .int .u8 m5, .int .u32 m6, .slice A7 l7.length c7][j]?) ∧ (∀ j, wh11.cell? ⟨w.heap.size + 1, j, none⟩ = #[.int .u8 o0, .int .u32 o1, .int .u32 o2, .slice B3 n3.length d3, .slice B4 n4.length d4, .int .u8 o5, .int .u32 o6, .slice B7 n7.length d7][j]?) ∧ (∀ j, wh11.cell? ⟨w3.heap.size, j, none⟩ = #[.int .u8 m0, .int .u32 m1, .int .u32 m2, .slice R3 r3.length e3, .slice R4 r4.length e4, .int .u8 m5, .int .u32 m6, .slice R7 l7.length e7][j]?) := ⟨(bM.kp (kp_of_below hcc11) trivial).cell, (bO.kp (kp_of_below hcc11) trivial).cell, (bR.kp (kp_of_below hcc11) trivial).cell⟩))
      all_goals
        go_wp2
        go_ret
        exact ⟨rfl, below_next HB.out hcc11⟩
end
end Go.Proofs.Ytjcejgolcdgipaa.K7
