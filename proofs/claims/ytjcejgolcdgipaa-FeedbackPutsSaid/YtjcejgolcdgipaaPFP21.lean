/- Texts of this session, one behind the other, what the row does not use left out: walks and laws over plain data. -/
import Derived.Test.YtjcejgolcdgipaaPFP13

namespace Go.Proofs.Ytjcejgolcdgipaa.K7
open Go.RowKit Go.Proofs.YtjcejgolcdgipaaW.PrintWords Go.Proofs.YtjcejgolcdgipaaW.PrintLast Go.Proofs.YtjcejgolcdgipaaW.PrintMore
set_option linter.unusedVariables false
set_option linter.unusedSimpArgs false

theorem ext_getD {a b : List Nat} (hl : a.length = b.length) (h : ∀ i, i < a.length → a.getD i 0 = b.getD i 0) : a = b := by
  refine List.ext_getElem hl (fun i h1 h2 => ?_)
  have := h i h1
  rwa [List.getD_eq_getElem?_getD, List.getD_eq_getElem?_getD, List.getElem?_eq_getElem h1, List.getElem?_eq_getElem h2] at this
theorem getD_app_l {a b : List Nat} {i : Nat} (h : i < a.length) : (a ++ b).getD i 0 = a.getD i 0 := by
  rw [List.getD_eq_getElem?_getD, List.getD_eq_getElem?_getD, List.getElem?_append_left h]
theorem getD_app_r {a b : List Nat} {i : Nat} (h : a.length ≤ i) : (a ++ b).getD i 0 = b.getD (i - a.length) 0 := by
  rw [List.getD_eq_getElem?_getD, List.getD_eq_getElem?_getD, List.getElem?_append_right h]
theorem ofn_congr {x y : Nat} : ∀ {k : Nat}, x % 2 ^ k = y % 2 ^ k → ofn x k = ofn y k
  | 0, _ => rfl
  | k + 1, h => by
    rw [Nat.mod_pow_succ, Nat.mod_pow_succ] at h
    have hx := Nat.mod_lt x (Nat.two_pow_pos k)
    have hy := Nat.mod_lt y (Nat.two_pow_pos k)
    have h1 : x % 2 ^ k = y % 2 ^ k := by
      have h' := congrArg (fun z => z % 2 ^ k) h
      simpa [Nat.add_mul_mod_self_left, Nat.mod_mod] using h'
    have h2 : x / 2 ^ k % 2 = y / 2 ^ k % 2 := by
      rw [h1] at h
      have := Nat.add_left_cancel h
      exact Nat.eq_of_mul_eq_mul_left (Nat.two_pow_pos k) this
    rw [ofn, ofn, h2, ofn_congr h1]
theorem ofn_split (x a b : Nat) : ofn x (a + b) = ofn (x / 2 ^ b) a ++ ofn x b := by
  induction a with
  | zero => rw [Nat.zero_add]; rfl
  | succ a ih => rw [show a + 1 + b = (a + b) + 1 from by omega, ofn, ih, ofn, Nat.div_div_eq_div_mul, ← Nat.pow_add, Nat.add_comm b a]; rfl
theorem pack_append (A B : List Nat) (h : A.length % 8 = 0) : pack (A ++ B) = pack A ++ pack B := by
  have hA : (A.length + 7) / 8 = A.length / 8 := by omega
  refine ext_getD (by rw [List.length_append, pack_length, pack_length, pack_length, List.length_append]; omega) (fun i hi => ?_)
  rw [pack_getD]
  by_cases hlt : i < A.length / 8
  · rw [getD_app_l (by rw [pack_length]; omega), pack_getD]
    unfold byteAt
    rw [getD_app_l (by omega), getD_app_l (by omega), getD_app_l (by omega), getD_app_l (by omega), getD_app_l (by omega), getD_app_l (by omega), getD_app_l (by omega), getD_app_l (by omega)]
  · rw [getD_app_r (by rw [pack_length]; omega), pack_getD, pack_length, hA]
    unfold byteAt
    rw [getD_app_r (by omega), getD_app_r (by omega), getD_app_r (by omega), getD_app_r (by omega), getD_app_r (by omega), getD_app_r (by omega), getD_app_r (by omega), getD_app_r (by omega)]
    rw [show 8 * i - A.length = 8 * (i - A.length / 8) from by omega, show 8 * i + 1 - A.length = 8 * (i - A.length / 8) + 1 from by omega, show 8 * i + 2 - A.length = 8 * (i - A.length / 8) + 2 from by omega, show 8 * i + 3 - A.length = 8 * (i - A.length / 8) + 3 from by omega, show 8 * i + 4 - A.length = 8 * (i - A.length / 8) + 4 from by omega, show 8 * i + 5 - A.length = 8 * (i - A.length / 8) + 5 from by omega, show 8 * i + 6 - A.length = 8 * (i - A.length / 8) + 6 from by omega, show 8 * i + 7 - A.length = 8 * (i - A.length / 8) + 7 from by omega]
theorem pairsN_dgs (l : List (Nat × Nat)) : Dgs (pairsN l) := dgs_flat _ (fun x => (ofn_dgs _ _).append (ofn_dgs _ _)) _
theorem ordersN_dgs (l : List (Nat × Nat)) : Dgs (ordersN l) := dgs_flat _ (fun x => ((ofn_dgs _ _).append (ofn_dgs _ _)).append (ofn_dgs _ _)) _
theorem srcsN_dgs (l : List Nat) : Dgs (srcsN l) := dgs_flat _ (fun x => ofn_dgs _ _) _
theorem pairsN_append (a b : List (Nat × Nat)) : pairsN (a ++ b) = pairsN a ++ pairsN b := by simp [pairsN]
theorem ordersN_append (a b : List (Nat × Nat)) : ordersN (a ++ b) = ordersN a ++ ordersN b := by simp [ordersN]
theorem srcsN_append (a b : List Nat) : srcsN (a ++ b) = srcsN a ++ srcsN b := by simp [srcsN]
theorem pairsN_len (l : List (Nat × Nat)) : (pairsN l).length = 32 * l.length := flat_len _ 32 (fun x => by rw [List.length_append, ofn_length, ofn_length]) l
theorem ordersN_len (l : List (Nat × Nat)) : (ordersN l).length = 64 * l.length := flat_len _ 64 (fun x => by simp [ofn_length]) l
theorem srcsN_len (l : List Nat) : (srcsN l).length = 32 * l.length := flat_len _ 32 (fun x => ofn_length _ _) l
theorem take_get_drop {α : Type} (l : List α) (j : Nat) (h : j < l.length) : l = l.take j ++ ([l[j]] ++ l.drop (j + 1)) := by
  conv => lhs; rw [← List.take_append_drop j l, List.drop_eq_getElem_cons h]
  rfl
theorem tPairs_pack (A : List Nat) (l : List (Nat × Nat)) (hA : Dgs A) (h : ∀ x ∈ l, x.1 < 65536 ∧ x.2 < 65536) : ∀ j, j ≤ l.length → tPairs (pack (A ++ pairsN l)) A.length j = l.take j
  | 0, _ => rfl
  | j + 1, hj => by
    have hlt : j < l.length := hj
    have hx := h _ (List.getElem_mem hlt)
    rw [tPairs, tPairs_pack A l hA h j (by omega), List.take_succ_eq_append_getElem hlt]
    have hs : pairsN l = pairsN (l.take j) ++ (ofn l[j].1 16 ++ (ofn l[j].2 16 ++ pairsN (l.drop (j + 1)))) := by
      conv => lhs; rw [take_get_drop l j hlt, pairsN_append, pairsN_append]
      rw [← List.append_assoc (ofn _ 16)]
      congr 2
    have hlen : (A ++ pairsN (l.take j)).length = A.length + 32 * j := by rw [List.length_append, pairsN_len, List.length_take]; omega
    have hA1 : Dgs (A ++ pairsN (l.take j)) := hA.append (pairsN_dgs _)
    have v1 := vl_pack (A := A ++ pairsN (l.take j)) (B := ofn l[j].2 16 ++ pairsN (l.drop (j + 1))) l[j].1 16 hA1 ((ofn_dgs _ _).append (pairsN_dgs _))
    have v2 := vl_pack (A := (A ++ pairsN (l.take j)) ++ ofn l[j].1 16) (B := pairsN (l.drop (j + 1))) l[j].2 16 (hA1.append (ofn_dgs _ _)) (pairsN_dgs _)
    rw [List.length_append, ofn_length, hlen] at v2
    rw [hlen] at v1
    rw [List.append_assoc A] at v1
    rw [List.append_assoc (A ++ _), List.append_assoc A] at v2
    rw [hs, v1, v2, Nat.mod_eq_of_lt (by omega), Nat.mod_eq_of_lt (by omega)]
theorem tOrders_pack (A : List Nat) (l : List (Nat × Nat)) (hA : Dgs A) (h : ∀ x ∈ l, x.1 < 4294967296 ∧ x.2 < 256) : ∀ j, j ≤ l.length → tOrders (pack (A ++ ordersN l)) A.length j = l.take j
  | 0, _ => rfl
  | j + 1, hj => by
    have hlt : j < l.length := hj
    have hx := h _ (List.getElem_mem hlt)
    rw [tOrders, tOrders_pack A l hA h j (by omega), List.take_succ_eq_append_getElem hlt]
    have hs : ordersN l = ordersN (l.take j) ++ (ofn l[j].1 32 ++ (ofn l[j].2 8 ++ (ofn 0 24 ++ ordersN (l.drop (j + 1))))) := by
      conv => lhs; rw [take_get_drop l j hlt, ordersN_append, ordersN_append]
      rw [← List.append_assoc (ofn _ 8), ← List.append_assoc (ofn _ 32)]
      congr 2
    have hlen : (A ++ ordersN (l.take j)).length = A.length + 64 * j := by rw [List.length_append, ordersN_len, List.length_take]; omega
    have hA1 : Dgs (A ++ ordersN (l.take j)) := hA.append (ordersN_dgs _)
    have v1 := vl_pack (A := A ++ ordersN (l.take j)) (B := ofn l[j].2 8 ++ (ofn 0 24 ++ ordersN (l.drop (j + 1)))) l[j].1 32 hA1 ((ofn_dgs _ _).append ((ofn_dgs _ _).append (ordersN_dgs _)))
    have v2 := vl_pack (A := (A ++ ordersN (l.take j)) ++ ofn l[j].1 32) (B := ofn 0 24 ++ ordersN (l.drop (j + 1))) l[j].2 8 (hA1.append (ofn_dgs _ _)) ((ofn_dgs _ _).append (ordersN_dgs _))
    rw [List.length_append, ofn_length, hlen] at v2
    rw [hlen] at v1
    rw [List.append_assoc A] at v1
    rw [List.append_assoc (A ++ _), List.append_assoc A] at v2
    rw [hs, v1, v2, Nat.mod_eq_of_lt (by omega), Nat.mod_eq_of_lt (by omega)]
theorem tSrc_pack (A : List Nat) (l : List Nat) (hA : Dgs A) (h : ∀ x ∈ l, x < 4294967296) : ∀ j, j ≤ l.length → tSrc (pack (A ++ srcsN l)) A.length j = l.take j
  | 0, _ => rfl
  | j + 1, hj => by
    have hlt : j < l.length := hj
    have hx := h _ (List.getElem_mem hlt)
    rw [tSrc, tSrc_pack A l hA h j (by omega), List.take_succ_eq_append_getElem hlt]
    have hs : srcsN l = srcsN (l.take j) ++ (ofn l[j] 32 ++ srcsN (l.drop (j + 1))) := by
      conv => lhs; rw [take_get_drop l j hlt, srcsN_append, srcsN_append]
      congr 2
    have hlen : (A ++ srcsN (l.take j)).length = A.length + 32 * j := by rw [List.length_append, srcsN_len, List.length_take]; omega
    have v1 := vl_pack (A := A ++ srcsN (l.take j)) (B := srcsN (l.drop (j + 1))) l[j] 32 (hA.append (srcsN_dgs _)) (srcsN_dgs _)
    rw [hlen] at v1
    rw [List.append_assoc A] at v1
    rw [hs, v1, Nat.mod_eq_of_lt (by omega)]
/-- A message whose numbers have their digits. -/
structure OkPM (M : PM) : Prop where
  sd : M.sd < 4294967296
  md : M.md < 4294967296
  ps : ∀ x ∈ M.ps, x.1 < 65536 ∧ x.2 < 65536
  os : ∀ x ∈ M.os, x.1 < 4294967296 ∧ x.2 < 256
  ss : ∀ x ∈ M.ss, x < 4294967296
theorem vl_head (X Y R : List Nat) (x y : Nat) (hx : x < 4294967296) (hy : y < 4294967296) (hR : Dgs R) : vl (pack (ofn x 32 ++ ofn y 32 ++ R)) 0 32 = x ∧ vl (pack (ofn x 32 ++ ofn y 32 ++ R)) 32 32 = y := by
  have v1 := vl_pack (A := []) (B := ofn y 32 ++ R) x 32 Dgs.nil ((ofn_dgs _ _).append hR)
  have v2 := vl_pack (A := ofn x 32) (B := R) y 32 (ofn_dgs _ _) hR
  rw [List.nil_append, List.length_nil, ← List.append_assoc] at v1
  rw [ofn_length, ← List.append_assoc] at v2
  exact ⟨by rw [v1, Nat.mod_eq_of_lt (by omega)], by rw [v2, Nat.mod_eq_of_lt (by omega)]⟩
theorem sortOf_of (s : Nat) (h1 : 1 ≤ s) (h4 : s ≤ 4) : sortOf (kndN s) (cntN s) = s := by
  rcases (by omega : s = 1 ∨ s = 2 ∨ s = 3 ∨ s = 4) with rfl | rfl | rfl | rfl <;> rfl
/-- Whether a message is right, as the document says it. -/
def RightR (M : PM) : Prop :=
  (M.sort = 1 ∧ 1 ≤ M.ps.length ∧ 2 + M.ps.length ≤ 65535 ∧ M.os = [] ∧ M.e = 0 ∧ M.m = 0 ∧ M.ss = []) ∨
  (M.sort = 2 ∧ M.ps = [] ∧ M.os = [] ∧ M.e = 0 ∧ M.m = 0 ∧ M.ss = []) ∨
  (M.sort = 3 ∧ 1 ≤ M.os.length ∧ 2 + 2 * M.os.length ≤ 65535 ∧ M.ps = [] ∧ M.e = 0 ∧ M.m = 0 ∧ M.ss = []) ∨
  (M.sort = 4 ∧ M.ps = [] ∧ M.os = [] ∧ M.e ≤ 63 ∧ M.m < 262144 ∧ M.ss.length ≤ 255)
instance (M : PM) : Decidable (RightR M) := by unfold RightR; exact inferInstance
theorem body1 {M : PM} (hs : M.sort = 1) : bodyN M = pack (ofn M.sd 32 ++ ofn M.md 32 ++ pairsN M.ps) := by unfold bodyN partN; rw [if_pos hs]
theorem body2 {M : PM} (hs : M.sort = 2) : bodyN M = pack (ofn M.sd 32 ++ ofn M.md 32 ++ []) := by unfold bodyN partN; rw [if_neg (by omega), if_pos hs]
theorem body3 {M : PM} (hs : M.sort = 3) : bodyN M = pack (ofn M.sd 32 ++ ofn M.md 32 ++ ordersN M.os) := by unfold bodyN partN; rw [if_neg (by omega), if_neg (by omega), if_pos hs]
theorem body4 {M : PM} (hs : M.sort = 4) : bodyN M = pack (ofn M.sd 32 ++ ofn M.md 32 ++ rateN M.e M.m M.ss) := by unfold bodyN partN; rw [if_neg (by omega), if_neg (by omega), if_neg (by omega)]
theorem head_len (x y : Nat) (R : List Nat) : (ofn x 32 ++ ofn y 32 ++ R).length = 64 + R.length := by rw [List.length_append, List.length_append, ofn_length, ofn_length]
theorem len1 {M : PM} (hs : M.sort = 1) : (bodyN M).length = 8 + 4 * M.ps.length := by rw [body1 hs, pack_length, head_len, pairsN_len]; omega
theorem len2 {M : PM} (hs : M.sort = 2) : (bodyN M).length = 8 := by rw [body2 hs, pack_length, head_len]; rfl
theorem len3 {M : PM} (hs : M.sort = 3) : (bodyN M).length = 8 + 8 * M.os.length := by rw [body3 hs, pack_length, head_len, ordersN_len]; omega
theorem rate_len (e m : Nat) (l : List Nat) : (rateN e m l).length = 64 + 32 * l.length := by
  simp only [rateN, List.length_append, ofn_length, srcsN_len]; omega
theorem len4 {M : PM} (hs : M.sort = 4) : (bodyN M).length = 16 + 4 * M.ss.length := by rw [body4 hs, pack_length, head_len, rate_len]; omega
theorem PM.ne_no {M : PM} (n : Nat) (h : M.sort ≠ 0) : PM.no n ≠ M := by
  rintro rfl
  exact h rfl
/-- What a written message is read as. -/
theorem back1 {M : PM} (ok : OkPM M) (hs : M.sort = 1) : parse1 (bodyN M) = if 0 < M.ps.length then ⟨1, M.sd, M.md, M.ps, [], 0, 0, [], 0⟩ else PM.no 63 := by
  have hl := len1 hs
  unfold parse1
  by_cases h0 : 0 < M.ps.length
  · rw [if_pos ⟨by omega, by omega⟩, if_pos h0, hl, show (8 + 4 * M.ps.length - 8) / 4 = M.ps.length from by omega, body1 hs]
    obtain ⟨v1, v2⟩ := vl_head [] [] (pairsN M.ps) M.sd M.md ok.sd ok.md (pairsN_dgs _)
    have v3 := tPairs_pack (ofn M.sd 32 ++ ofn M.md 32) M.ps ((ofn_dgs _ _).append (ofn_dgs _ _)) ok.ps M.ps.length (Nat.le_refl _)
    rw [List.length_append, ofn_length, ofn_length, List.take_length] at v3
    rw [v1, v2, v3]
  · rw [if_neg (by omega), if_neg h0]
theorem back2 {M : PM} (ok : OkPM M) (hs : M.sort = 2) : parse2 (bodyN M) = ⟨2, M.sd, M.md, [], [], 0, 0, [], 0⟩ := by
  unfold parse2
  rw [if_pos (len2 hs), body2 hs]
  obtain ⟨v1, v2⟩ := vl_head [] [] [] M.sd M.md ok.sd ok.md Dgs.nil
  rw [v1, v2]
theorem back3 {M : PM} (ok : OkPM M) (hs : M.sort = 3) : parse3 (bodyN M) = if 0 < M.os.length then ⟨3, M.sd, M.md, [], M.os, 0, 0, [], 0⟩ else PM.no 63 := by
  have hl := len3 hs
  unfold parse3
  by_cases h0 : 0 < M.os.length
  · rw [if_pos ⟨by omega, by omega⟩, if_pos h0, hl, show (8 + 8 * M.os.length - 8) / 8 = M.os.length from by omega, body3 hs]
    obtain ⟨v1, v2⟩ := vl_head [] [] (ordersN M.os) M.sd M.md ok.sd ok.md (ordersN_dgs _)
    have v3 := tOrders_pack (ofn M.sd 32 ++ ofn M.md 32) M.os ((ofn_dgs _ _).append (ofn_dgs _ _)) ok.os M.os.length (Nat.le_refl _)
    rw [List.length_append, ofn_length, ofn_length, List.take_length] at v3
    rw [v1, v2, v3]
  · rw [if_neg (by omega), if_neg h0]
theorem back4 {M : PM} (ok : OkPM M) (hs : M.sort = 4) (hn : M.ss.length ≤ 255) : parse4 (bodyN M) = ⟨4, M.sd, M.md, [], [], M.e % 64, M.m % 262144, M.ss, 0⟩ := by
  have hl := len4 hs
  have hb := body4 hs
  obtain ⟨v1, v2⟩ := vl_head [] [] (rateN M.e M.m M.ss) M.sd M.md ok.sd ok.md (rateN_dgs _ _ _)
  have hH : Dgs (ofn M.sd 32 ++ ofn M.md 32) := (ofn_dgs _ _).append (ofn_dgs _ _)
  have hHl : (ofn M.sd 32 ++ ofn M.md 32).length = 64 := by rw [List.length_append, ofn_length, ofn_length]
  generalize ofn M.sd 32 ++ ofn M.md 32 = H at *
  have hS := srcsN_dgs M.ss
  have v3 := vl_pack (A := H) (B := ofn M.ss.length 8 ++ (ofn M.e 6 ++ (ofn M.m 18 ++ srcsN M.ss))) rembN 32 hH ((ofn_dgs _ _).append ((ofn_dgs _ _).append ((ofn_dgs _ _).append hS)))
  have v4 := vl_pack (A := H ++ ofn rembN 32) (B := ofn M.e 6 ++ (ofn M.m 18 ++ srcsN M.ss)) M.ss.length 8 (hH.append (ofn_dgs _ _)) ((ofn_dgs _ _).append ((ofn_dgs _ _).append hS))
  have v5 := vl_pack (A := (H ++ ofn rembN 32) ++ ofn M.ss.length 8) (B := ofn M.m 18 ++ srcsN M.ss) M.e 6 ((hH.append (ofn_dgs _ _)).append (ofn_dgs _ _)) ((ofn_dgs _ _).append hS)
  have v6 := vl_pack (A := ((H ++ ofn rembN 32) ++ ofn M.ss.length 8) ++ ofn M.e 6) (B := srcsN M.ss) M.m 18 (((hH.append (ofn_dgs _ _)).append (ofn_dgs _ _)).append (ofn_dgs _ _)) hS
  have v7 := tSrc_pack ((((H ++ ofn rembN 32) ++ ofn M.ss.length 8) ++ ofn M.e 6) ++ ofn M.m 18) M.ss ((((hH.append (ofn_dgs _ _)).append (ofn_dgs _ _)).append (ofn_dgs _ _)).append (ofn_dgs _ _)) ok.ss M.ss.length (Nat.le_refl _)
  simp only [List.length_append, ofn_length, hHl, List.append_assoc, List.take_length] at v3 v4 v5 v6 v7
  unfold rateN at hb v1 v2
  rw [← hb] at v1 v2 v3 v4 v5 v6 v7
  have hrem : rembN % 2 ^ 32 = rembN := Nat.mod_eq_of_lt (by decide)
  have h8 : M.ss.length % 2 ^ 8 = M.ss.length := Nat.mod_eq_of_lt (by omega)
  have hR : Rem (bodyN M) := ⟨by omega, by rw [v3, hrem], by rw [hl, show vl (bodyN M) 96 8 = M.ss.length from by rw [← h8, ← v4]]⟩
  unfold parse4
  rw [if_pos hR, v1, v2, show vl (bodyN M) 96 8 = M.ss.length from by rw [← h8, ← v4], show vl (bodyN M) 104 6 = M.e % 2 ^ 6 from by rw [← v5], show vl (bodyN M) 110 18 = M.m % 2 ^ 18 from by rw [← v6]]
  rw [show tSrc (bodyN M) 128 M.ss.length = M.ss from v7]
theorem pm_eq {a b : PM} : a = b ↔ a.sort = b.sort ∧ a.sd = b.sd ∧ a.md = b.md ∧ a.ps = b.ps ∧ a.os = b.os ∧ a.e = b.e ∧ a.m = b.m ∧ a.ss = b.ss ∧ a.err = b.err := by
  constructor
  · rintro rfl; exact ⟨rfl, rfl, rfl, rfl, rfl, rfl, rfl, rfl, rfl⟩
  · rintro ⟨h1, h2, h3, h4, h5, h6, h7, h8, h9⟩
    cases a; cases b; simp_all
theorem right_iff {M : PM} (ok : OkPM M) (h0 : M.err = 0) (hp : M.ps.length ≤ 16000) (ho : M.os.length ≤ 16000) : rightN M = true ↔ RightR M := by
  unfold rightN
  by_cases hs : 1 ≤ M.sort ∧ M.sort ≤ 4 ∧ M.ss.length ≤ 255
  · rw [decide_eq_true hs, Bool.true_and, Bool.and_eq_true, decide_eq_true_iff, decide_eq_true_iff]
    obtain ⟨h1, h4, h5⟩ := hs
    unfold parseP
    rw [sortOf_of M.sort h1 h4]
    unfold RightR
    rcases (by omega : M.sort = 1 ∨ M.sort = 2 ∨ M.sort = 3 ∨ M.sort = 4) with hs | hs | hs | hs
    · rw [hs]
      simp only [back1 ok hs, len1 hs]
      by_cases hz : 0 < M.ps.length
      · rw [if_pos hz, pm_eq]
        simp only [hs, h0]
        constructor
        · rintro ⟨⟨_, _, _, _, q5, q6, q7, q8, _⟩, q9⟩
          exact .inl ⟨trivial, by omega, by omega, q5.symm, q6.symm, q7.symm, q8.symm⟩
        · rintro (⟨_, _, q3, q5, q6, q7, q8⟩ | ⟨q, _⟩ | ⟨q, _⟩ | ⟨q, _⟩)
          · exact ⟨⟨trivial, trivial, trivial, trivial, q5.symm, q6.symm, q7.symm, q8.symm, trivial⟩, by omega, by omega⟩
          all_goals exact absurd q (by decide)
      · rw [if_neg hz]
        constructor
        · rintro ⟨q, _⟩
          exact absurd q (PM.ne_no _ (by omega))
        · rintro (⟨_, q, _⟩ | ⟨q, _⟩ | ⟨q, _⟩ | ⟨q, _⟩)
          · omega
          all_goals exact absurd q (by decide)
    · rw [hs]
      simp only [back2 ok hs, len2 hs]
      rw [pm_eq]
      simp only [hs, h0]
      constructor
      · rintro ⟨⟨_, _, _, q4, q5, q6, q7, q8, _⟩, q9⟩
        exact .inr (.inl ⟨trivial, q4.symm, q5.symm, q6.symm, q7.symm, q8.symm⟩)
      · rintro (⟨q, _⟩ | ⟨_, q4, q5, q6, q7, q8⟩ | ⟨q, _⟩ | ⟨q, _⟩)
        · exact absurd q (by decide)
        · exact ⟨⟨trivial, trivial, trivial, q4.symm, q5.symm, q6.symm, q7.symm, q8.symm, trivial⟩, by omega, by omega⟩
        all_goals exact absurd q (by decide)
    · rw [hs]
      simp only [back3 ok hs, len3 hs]
      by_cases hz : 0 < M.os.length
      · rw [if_pos hz, pm_eq]
        simp only [hs, h0]
        constructor
        · rintro ⟨⟨_, _, _, q4, _, q6, q7, q8, _⟩, q9⟩
          exact .inr (.inr (.inl ⟨trivial, by omega, by omega, q4.symm, q6.symm, q7.symm, q8.symm⟩))
        · rintro (⟨q, _⟩ | ⟨q, _⟩ | ⟨_, _, q3, q4, q6, q7, q8⟩ | ⟨q, _⟩)
          · exact absurd q (by decide)
          · exact absurd q (by decide)
          · exact ⟨⟨trivial, trivial, trivial, q4.symm, trivial, q6.symm, q7.symm, q8.symm, trivial⟩, by omega, by omega⟩
          · exact absurd q (by decide)
      · rw [if_neg hz]
        constructor
        · rintro ⟨q, _⟩
          exact absurd q (PM.ne_no _ (by omega))
        · rintro (⟨q, _⟩ | ⟨q, _⟩ | ⟨_, q, _⟩ | ⟨q, _⟩)
          · exact absurd q (by decide)
          · exact absurd q (by decide)
          · omega
          · exact absurd q (by decide)
    · rw [hs]
      simp only [back4 ok hs h5, len4 hs]
      rw [pm_eq]
      simp only [hs, h0]
      constructor
      · rintro ⟨⟨_, _, _, q4, q5, q6, q7, _, _⟩, q9⟩
        exact .inr (.inr (.inr ⟨trivial, q4.symm, q5.symm, by omega, by omega, h5⟩))
      · rintro (⟨q, _⟩ | ⟨q, _⟩ | ⟨q, _⟩ | ⟨_, q4, q5, q6, q7, _⟩)
        · exact absurd q (by decide)
        · exact absurd q (by decide)
        · exact absurd q (by decide)
        · exact ⟨⟨trivial, trivial, trivial, q4.symm, q5.symm, by omega, by omega, trivial, trivial⟩, by omega, by omega⟩
  · rw [decide_eq_false hs, Bool.false_and]
    constructor
    · intro h; cases h
    · rintro (⟨q, _, _, _, _, _, q8⟩ | ⟨q, _, _, _, _, q8⟩ | ⟨q, _, _, _, _, _, q8⟩ | ⟨q, _, _, _, _, q8⟩)
      · exact absurd ⟨by omega, by omega, by rw [q8]; decide⟩ hs
      · exact absurd ⟨by omega, by omega, by rw [q8]; decide⟩ hs
      · exact absurd ⟨by omega, by omega, by rw [q8]; decide⟩ hs
      · exact absurd ⟨by omega, by omega, q8⟩ hs
end Go.Proofs.Ytjcejgolcdgipaa.K7

namespace Go.Proofs.Ytjcejgolcdgipaa.K7
open Go.RowKit Go.Proofs.YtjcejgolcdgipaaW.PrintWords Go.Proofs.YtjcejgolcdgipaaW.PrintLast Go.Proofs.YtjcejgolcdgipaaW.PrintMore
set_option linter.unusedVariables false
set_option linter.unusedSimpArgs false

/-- Whether a message is right, by its numbers and the lengths of its rows. -/
def RightL (s p o e m l : Nat) : Prop :=
  (s = 1 ∧ 1 ≤ p ∧ 2 + p ≤ 65535 ∧ o = 0 ∧ e = 0 ∧ m = 0 ∧ l = 0) ∨ (s = 2 ∧ p = 0 ∧ o = 0 ∧ e = 0 ∧ m = 0 ∧ l = 0) ∨
  (s = 3 ∧ 1 ≤ o ∧ 2 + 2 * o ≤ 65535 ∧ p = 0 ∧ e = 0 ∧ m = 0 ∧ l = 0) ∨ (s = 4 ∧ p = 0 ∧ o = 0 ∧ e ≤ 63 ∧ m < 262144 ∧ l ≤ 255)
instance (s p o e m l : Nat) : Decidable (RightL s p o e m l) := by unfold RightL; exact inferInstance
theorem rightL_iff (M : PM) : RightR M ↔ RightL M.sort M.ps.length M.os.length M.e M.m M.ss.length := by
  unfold RightR RightL
  simp only [List.length_eq_zero_iff]
section
variable {w : World} (s sd md e m : Nat) {A3 A4 A7 : Option Addr} {c3 c4 c7 : Nat} (p o_ l : Nat)
set_option maxHeartbeats 8000000 in
set_option maxRecDepth 100000 in
theorem r7Right_any (hp : p ≤ 1000000) (ho : o_ ≤ 1000000) (hl : l ≤ 1000000) :
    Calls Try.prog 37 #[.agg #[.int .u8 (s : Int), .int .u32 (sd : Int), .int .u32 (md : Int), .slice A3 p c3, .slice A4 o_ c4, .int .u8 (e : Int), .int .u32 (m : Int), .slice A7 l c7]] w fun e_ w' => e_ = .returned (.bool (decide (RightL s p o_ e m l))) ∧ Below w.heap.size w w' := by
  go_enter Try.func37, Try.ntmps37
  by_cases h1 : s = 1
  · have n1 : ((s : Int) == 1) = true := by rw [beq_iff_eq]; omega
    have m1 : ((s : Int) != 1) = false := by rw [bne_eq_false_iff_eq]; omega
    have n2 : ((s : Int) == 2) = false := by rw [beq_eq_false_iff_ne]; omega
    have m2 : ((s : Int) != 2) = true := by rw [bne_iff_ne]; omega
    have n3 : ((s : Int) == 3) = false := by rw [beq_eq_false_iff_ne]; omega
    have m3 : ((s : Int) != 3) = true := by rw [bne_iff_ne]; omega
    have n4 : ((s : Int) == 4) = false := by rw [beq_eq_false_iff_ne]; omega
    have m4 : ((s : Int) != 4) = true := by rw [bne_iff_ne]; omega
    by_cases zo : o_ = 0
    · have g1_o_ : decide ((0 : Int) < (o_ : Int)) = false := decide_eq_false (by omega)
      have g2_o_ : decide (0 < o_) = false := decide_eq_false (by omega)
      by_cases ze : e = 0
      · have g1_e : decide ((0 : Int) < (e : Int)) = false := decide_eq_false (by omega)
        have g2_e : decide (0 < e) = false := decide_eq_false (by omega)
        by_cases zm : m = 0
        · have g1_m : decide ((0 : Int) < (m : Int)) = false := decide_eq_false (by omega)
          have g2_m : decide (0 < m) = false := decide_eq_false (by omega)
          by_cases zl : l = 0
          · have g1_l : decide ((0 : Int) < (l : Int)) = false := decide_eq_false (by omega)
            have g2_l : decide (0 < l) = false := decide_eq_false (by omega)
            by_cases zp : 1 ≤ p
            · have g3_p : decide ((1 : Int) ≤ (p : Int)) = true := decide_eq_true (by omega)
              have g4_p : decide (1 ≤ p) = true := decide_eq_true (by omega)
              have wq : IntKind.i64.wrap (2 + (p : Int)) = 2 + (p : Int) := IntWalk.i64_in _ (by omega)
              by_cases zq : 2 + p ≤ 65535
              · have HR := hd (show decide (RightL s p o_ e m l) = true from decide_eq_true (by unfold RightL; omega))
                have gq : decide (2 + (p : Int) ≤ 65535) = true := decide_eq_true (by omega)
                go_wp2
                go_ret
                exact ⟨by rw [HR.out]; rfl, (Below.refl _ _).alloc (Nat.le_refl _) _⟩
              · have HR := hd (show decide (RightL s p o_ e m l) = false from decide_eq_false (by unfold RightL; omega))
                have gq : decide (2 + (p : Int) ≤ 65535) = false := decide_eq_false (by omega)
                go_wp2
                go_ret
                exact ⟨by rw [HR.out]; rfl, (Below.refl _ _).alloc (Nat.le_refl _) _⟩
            · have g3_p : decide ((1 : Int) ≤ (p : Int)) = false := decide_eq_false (by omega)
              have g4_p : decide (1 ≤ p) = false := decide_eq_false (by omega)
              have HR := hd (show decide (RightL s p o_ e m l) = false from decide_eq_false (by unfold RightL; omega))
              go_wp2
              go_ret
              exact ⟨by rw [HR.out]; rfl, (Below.refl _ _).alloc (Nat.le_refl _) _⟩
          · have g1_l : decide ((0 : Int) < (l : Int)) = true := decide_eq_true (by omega)
            have g2_l : decide (0 < l) = true := decide_eq_true (by omega)
            have HR := hd (show decide (RightL s p o_ e m l) = false from decide_eq_false (by unfold RightL; omega))
            go_wp2
            go_ret
            exact ⟨by rw [HR.out]; rfl, (Below.refl _ _).alloc (Nat.le_refl _) _⟩
        · have g1_m : decide ((0 : Int) < (m : Int)) = true := decide_eq_true (by omega)
          have g2_m : decide (0 < m) = true := decide_eq_true (by omega)
          have HR := hd (show decide (RightL s p o_ e m l) = false from decide_eq_false (by unfold RightL; omega))
          go_wp2
          go_ret
          exact ⟨by rw [HR.out]; rfl, (Below.refl _ _).alloc (Nat.le_refl _) _⟩
      · have g1_e : decide ((0 : Int) < (e : Int)) = true := decide_eq_true (by omega)
        have g2_e : decide (0 < e) = true := decide_eq_true (by omega)
        have HR := hd (show decide (RightL s p o_ e m l) = false from decide_eq_false (by unfold RightL; omega))
        go_wp2
        go_ret
        exact ⟨by rw [HR.out]; rfl, (Below.refl _ _).alloc (Nat.le_refl _) _⟩
    · have g1_o_ : decide ((0 : Int) < (o_ : Int)) = true := decide_eq_true (by omega)
      have g2_o_ : decide (0 < o_) = true := decide_eq_true (by omega)
      have HR := hd (show decide (RightL s p o_ e m l) = false from decide_eq_false (by unfold RightL; omega))
      go_wp2
      go_ret
      exact ⟨by rw [HR.out]; rfl, (Below.refl _ _).alloc (Nat.le_refl _) _⟩
  · have n1 : ((s : Int) == 1) = false := by rw [beq_eq_false_iff_ne]; omega
    have m1 : ((s : Int) != 1) = true := by rw [bne_iff_ne]; omega
    by_cases zp : p = 0
    · have g1_p : decide ((0 : Int) < (p : Int)) = false := decide_eq_false (by omega)
      have g2_p : decide (0 < p) = false := decide_eq_false (by omega)
      by_cases h3 : s = 3
      · have n2 : ((s : Int) == 2) = false := by rw [beq_eq_false_iff_ne]; omega
        have m2 : ((s : Int) != 2) = true := by rw [bne_iff_ne]; omega
        have n3 : ((s : Int) == 3) = true := by rw [beq_iff_eq]; omega
        have m3 : ((s : Int) != 3) = false := by rw [bne_eq_false_iff_eq]; omega
        have n4 : ((s : Int) == 4) = false := by rw [beq_eq_false_iff_ne]; omega
        have m4 : ((s : Int) != 4) = true := by rw [bne_iff_ne]; omega
        by_cases ze : e = 0
        · have g1_e : decide ((0 : Int) < (e : Int)) = false := decide_eq_false (by omega)
          have g2_e : decide (0 < e) = false := decide_eq_false (by omega)
          by_cases zm : m = 0
          · have g1_m : decide ((0 : Int) < (m : Int)) = false := decide_eq_false (by omega)
            have g2_m : decide (0 < m) = false := decide_eq_false (by omega)
            by_cases zl : l = 0
            · have g1_l : decide ((0 : Int) < (l : Int)) = false := decide_eq_false (by omega)
              have g2_l : decide (0 < l) = false := decide_eq_false (by omega)
              by_cases zo : 1 ≤ o_
              · have g3_o_ : decide ((1 : Int) ≤ (o_ : Int)) = true := decide_eq_true (by omega)
                have g4_o_ : decide (1 ≤ o_) = true := decide_eq_true (by omega)
                have wr : IntKind.i64.wrap (2 * (o_ : Int)) = 2 * (o_ : Int) := IntWalk.i64_in _ (by omega)
                have wq : IntKind.i64.wrap (2 + 2 * (o_ : Int)) = 2 + 2 * (o_ : Int) := IntWalk.i64_in _ (by omega)
                by_cases zq : 2 + 2 * o_ ≤ 65535
                · have HR := hd (show decide (RightL s p o_ e m l) = true from decide_eq_true (by unfold RightL; omega))
                  have gq : decide (2 + 2 * (o_ : Int) ≤ 65535) = true := decide_eq_true (by omega)
                  go_wp2
                  go_ret
                  exact ⟨by rw [HR.out]; rfl, (Below.refl _ _).alloc (Nat.le_refl _) _⟩
                · have HR := hd (show decide (RightL s p o_ e m l) = false from decide_eq_false (by unfold RightL; omega))
                  have gq : decide (2 + 2 * (o_ : Int) ≤ 65535) = false := decide_eq_false (by omega)
                  go_wp2
                  go_ret
                  exact ⟨by rw [HR.out]; rfl, (Below.refl _ _).alloc (Nat.le_refl _) _⟩
              · have g3_o_ : decide ((1 : Int) ≤ (o_ : Int)) = false := decide_eq_false (by omega)
                have g4_o_ : decide (1 ≤ o_) = false := decide_eq_false (by omega)
                have HR := hd (show decide (RightL s p o_ e m l) = false from decide_eq_false (by unfold RightL; omega))
                go_wp2
                go_ret
                exact ⟨by rw [HR.out]; rfl, (Below.refl _ _).alloc (Nat.le_refl _) _⟩
            · have g1_l : decide ((0 : Int) < (l : Int)) = true := decide_eq_true (by omega)
              have g2_l : decide (0 < l) = true := decide_eq_true (by omega)
              have HR := hd (show decide (RightL s p o_ e m l) = false from decide_eq_false (by unfold RightL; omega))
              go_wp2
              go_ret
              exact ⟨by rw [HR.out]; rfl, (Below.refl _ _).alloc (Nat.le_refl _) _⟩
          · have g1_m : decide ((0 : Int) < (m : Int)) = true := decide_eq_true (by omega)
            have g2_m : decide (0 < m) = true := decide_eq_true (by omega)
            have HR := hd (show decide (RightL s p o_ e m l) = false from decide_eq_false (by unfold RightL; omega))
            go_wp2
            go_ret
            exact ⟨by rw [HR.out]; rfl, (Below.refl _ _).alloc (Nat.le_refl _) _⟩
        · have g1_e : decide ((0 : Int) < (e : Int)) = true := decide_eq_true (by omega)
          have g2_e : decide (0 < e) = true := decide_eq_true (by omega)
          have HR := hd (show decide (RightL s p o_ e m l) = false from decide_eq_false (by unfold RightL; omega))
          go_wp2
          go_ret
          exact ⟨by rw [HR.out]; rfl, (Below.refl _ _).alloc (Nat.le_refl _) _⟩
      · have n3 : ((s : Int) == 3) = false := by rw [beq_eq_false_iff_ne]; omega
        have m3 : ((s : Int) != 3) = true := by rw [bne_iff_ne]; omega
        by_cases zo : o_ = 0
        · have g1_o_ : decide ((0 : Int) < (o_ : Int)) = false := decide_eq_false (by omega)
          have g2_o_ : decide (0 < o_) = false := decide_eq_false (by omega)
          by_cases h4 : s = 4
          · have n2 : ((s : Int) == 2) = false := by rw [beq_eq_false_iff_ne]; omega
            have m2 : ((s : Int) != 2) = true := by rw [bne_iff_ne]; omega
            have n4 : ((s : Int) == 4) = true := by rw [beq_iff_eq]; omega
            have m4 : ((s : Int) != 4) = false := by rw [bne_eq_false_iff_eq]; omega
            by_cases ze : e ≤ 63
            · have ge : decide ((e : Int) ≤ 63) = true := decide_eq_true (by omega)
              have ge' : decide (e ≤ 63) = true := decide_eq_true (by omega)
              by_cases zm : m < 262144
              · have gm : decide ((m : Int) < 262144) = true := decide_eq_true (by omega)
                have gm' : decide (m < 262144) = true := decide_eq_true (by omega)
                by_cases zl : l ≤ 255
                · have HR := hd (show decide (RightL s p o_ e m l) = true from decide_eq_true (by unfold RightL; omega))
                  have gl : decide ((l : Int) ≤ 255) = true := decide_eq_true (by omega)
                  have gl' : decide (l ≤ 255) = true := decide_eq_true (by omega)
                  go_wp2
                  go_ret
                  exact ⟨by rw [HR.out]; rfl, (Below.refl _ _).alloc (Nat.le_refl _) _⟩
                · have HR := hd (show decide (RightL s p o_ e m l) = false from decide_eq_false (by unfold RightL; omega))
                  have gl : decide ((l : Int) ≤ 255) = false := decide_eq_false (by omega)
                  have gl' : decide (l ≤ 255) = false := decide_eq_false (by omega)
                  go_wp2
                  go_ret
                  exact ⟨by rw [HR.out]; rfl, (Below.refl _ _).alloc (Nat.le_refl _) _⟩
              · have HR := hd (show decide (RightL s p o_ e m l) = false from decide_eq_false (by unfold RightL; omega))
                have gm : decide ((m : Int) < 262144) = false := decide_eq_false (by omega)
                have gm' : decide (m < 262144) = false := decide_eq_false (by omega)
                go_wp2
                go_ret
                exact ⟨by rw [HR.out]; rfl, (Below.refl _ _).alloc (Nat.le_refl _) _⟩
            · have HR := hd (show decide (RightL s p o_ e m l) = false from decide_eq_false (by unfold RightL; omega))
              have ge : decide ((e : Int) ≤ 63) = false := decide_eq_false (by omega)
              have ge' : decide (e ≤ 63) = false := decide_eq_false (by omega)
              go_wp2
              go_ret
              exact ⟨by rw [HR.out]; rfl, (Below.refl _ _).alloc (Nat.le_refl _) _⟩
          · have n4 : ((s : Int) == 4) = false := by rw [beq_eq_false_iff_ne]; omega
            have m4 : ((s : Int) != 4) = true := by rw [bne_iff_ne]; omega
            by_cases ze : e = 0
            · have g1_e : decide ((0 : Int) < (e : Int)) = false := decide_eq_false (by omega)
              have g2_e : decide (0 < e) = false := decide_eq_false (by omega)
              by_cases zm : m = 0
              · have g1_m : decide ((0 : Int) < (m : Int)) = false := decide_eq_false (by omega)
                have g2_m : decide (0 < m) = false := decide_eq_false (by omega)
                by_cases zl : l = 0
                · have g1_l : decide ((0 : Int) < (l : Int)) = false := decide_eq_false (by omega)
                  have g2_l : decide (0 < l) = false := decide_eq_false (by omega)
                  by_cases z2 : s = 2
                  · have n2 : ((s : Int) == 2) = true := by rw [beq_iff_eq]; omega
                    have m2 : ((s : Int) != 2) = false := by rw [bne_eq_false_iff_eq]; omega
                    have HR := hd (show decide (RightL s p o_ e m l) = true from decide_eq_true (by unfold RightL; omega))
                    go_wp2
                    go_ret
                    exact ⟨by rw [HR.out]; rfl, (Below.refl _ _).alloc (Nat.le_refl _) _⟩
                  · have n2 : ((s : Int) == 2) = false := by rw [beq_eq_false_iff_ne]; omega
                    have m2 : ((s : Int) != 2) = true := by rw [bne_iff_ne]; omega
                    have HR := hd (show decide (RightL s p o_ e m l) = false from decide_eq_false (by unfold RightL; omega))
                    go_wp2
                    go_ret
                    exact ⟨by rw [HR.out]; rfl, (Below.refl _ _).alloc (Nat.le_refl _) _⟩
                · have g1_l : decide ((0 : Int) < (l : Int)) = true := decide_eq_true (by omega)
                  have g2_l : decide (0 < l) = true := decide_eq_true (by omega)
                  have HR := hd (show decide (RightL s p o_ e m l) = false from decide_eq_false (by unfold RightL; omega))
                  go_wp2
                  go_ret
                  exact ⟨by rw [HR.out]; rfl, (Below.refl _ _).alloc (Nat.le_refl _) _⟩
              · have g1_m : decide ((0 : Int) < (m : Int)) = true := decide_eq_true (by omega)
                have g2_m : decide (0 < m) = true := decide_eq_true (by omega)
                have HR := hd (show decide (RightL s p o_ e m l) = false from decide_eq_false (by unfold RightL; omega))
                go_wp2
                go_ret
                exact ⟨by rw [HR.out]; rfl, (Below.refl _ _).alloc (Nat.le_refl _) _⟩
            · have g1_e : decide ((0 : Int) < (e : Int)) = true := decide_eq_true (by omega)
              have g2_e : decide (0 < e) = true := decide_eq_true (by omega)
              have HR := hd (show decide (RightL s p o_ e m l) = false from decide_eq_false (by unfold RightL; omega))
              go_wp2
              go_ret
              exact ⟨by rw [HR.out]; rfl, (Below.refl _ _).alloc (Nat.le_refl _) _⟩
        · have g1_o_ : decide ((0 : Int) < (o_ : Int)) = true := decide_eq_true (by omega)
          have g2_o_ : decide (0 < o_) = true := decide_eq_true (by omega)
          have HR := hd (show decide (RightL s p o_ e m l) = false from decide_eq_false (by unfold RightL; omega))
          go_wp2
          go_ret
          exact ⟨by rw [HR.out]; rfl, (Below.refl _ _).alloc (Nat.le_refl _) _⟩
    · have g1_p : decide ((0 : Int) < (p : Int)) = true := decide_eq_true (by omega)
      have g2_p : decide (0 < p) = true := decide_eq_true (by omega)
      have HR := hd (show decide (RightL s p o_ e m l) = false from decide_eq_false (by unfold RightL; omega))
      go_wp2
      go_ret
      exact ⟨by rw [HR.out]; rfl, (Below.refl _ _).alloc (Nat.le_refl _) _⟩
end
end Go.Proofs.Ytjcejgolcdgipaa.K7
