/- Texts of this session, one behind the other, what the row does not use left out: walks and laws over plain data. -/
import Derived.Test.YthgjhdcifdfhoaaPU2

namespace Go.Proofs.Ythgjhdcifdfhoaa.V5
open Go.RowKit Go.Proofs.Ythgjhdcifdfhoaa
set_option linter.unusedVariables false
set_option linter.unusedSimpArgs false

def bt (x : Bool) : Nat := if x = true then 1 else 0
theorem bt_lt (x : Bool) : bt x < 2 := by unfold bt; split <;> decide
/-- The digits that visit puts. -/
def digV (d : VD) : List Nat :=
  let more := d.hp || d.ht || d.hi || d.hk
  [bt more, 0, bt d.n, bt d.st, 0] ++ ofn d.part 3 ++
  (if more = true then [bt d.hp, bt d.ht, bt d.hi, bt d.hk] ++ ofn 0 4 ++
    (if d.hp = true then [bt d.lg] ++ ofn d.pic (if d.lg = true then 15 else 7) else []) ++
    (if d.ht = true then ofn d.tl 8 else []) ++
    (if (d.hi || d.hk) = true then ofn d.ti 2 ++ [bt d.sy] ++ ofn d.ky 5 else []) else [])
def putV (d : VD) : List Nat := pack (digV d)
/-- The same by bytes. -/
def putB (d : VD) : List Nat :=
  let more := d.hp || d.ht || d.hi || d.hk
  (bt more * 128 + bt d.n * 32 + bt d.st * 16 + d.part % 8) ::
  (if more = true then (bt d.hp * 128 + bt d.ht * 64 + bt d.hi * 32 + bt d.hk * 16) ::
    ((if d.hp = true then (if d.lg = true then [128 + d.pic % 32768 / 256, d.pic % 256] else [d.pic % 128]) else []) ++
     (if d.ht = true then [d.tl % 256] else []) ++
     (if (d.hi || d.hk) = true then [d.ti % 4 * 64 + bt d.sy * 32 + d.ky % 32] else [])) else [])
theorem dgs_cons {x : Nat} {l : List Nat} (hx : x < 2) (hl : Dgs l) : Dgs (x :: l) := fun d h => by
  rcases List.mem_cons.1 h with h | h
  · rw [h]; exact hx
  · exact hl d h
theorem ofn_dgs (x k : Nat) : Dgs (ofn x k) := fun d hd => ofn_lt x k d hd
theorem ext_getD {a b : List Nat} (hl : a.length = b.length) (h : ∀ i, i < a.length → a.getD i 0 = b.getD i 0) : a = b := by
  refine List.ext_getElem hl (fun i h1 h2 => ?_)
  have := h i h1
  rwa [List.getD_eq_getElem?_getD, List.getD_eq_getElem?_getD, List.getElem?_eq_getElem h1, List.getElem?_eq_getElem h2] at this
theorem getD_app_l {a b : List Nat} {i : Nat} (h : i < a.length) : (a ++ b).getD i 0 = a.getD i 0 := by
  rw [List.getD_eq_getElem?_getD, List.getD_eq_getElem?_getD, List.getElem?_append_left h]
theorem getD_app_r {a b : List Nat} {i : Nat} (h : a.length ≤ i) : (a ++ b).getD i 0 = b.getD (i - a.length) 0 := by
  rw [List.getD_eq_getElem?_getD, List.getD_eq_getElem?_getD, List.getElem?_append_right h]
theorem pack_append (A B : List Nat) (h : A.length % 8 = 0) : pack (A ++ B) = pack A ++ pack B := by
  have hA : (A.length + 7) / 8 = A.length / 8 := by omega
  refine ext_getD (by rw [List.length_append, pack_length, pack_length, pack_length, List.length_append]; omega) (fun i hi => ?_)
  rw [pack_getD]
  by_cases hlt : i < A.length / 8
  · rw [getD_app_l (by rw [pack_length]; omega), pack_getD]
    unfold byteAt
    rw [getD_app_l (by omega), getD_app_l (by omega), getD_app_l (by omega), getD_app_l (by omega), getD_app_l (by omega), getD_app_l (by omega), getD_app_l (by omega), getD_app_l (by omega)]
  · rw [getD_app_r (by rw [pack_length]; omega), pack_getD, pack_length, hA]
    unfold byteAt
    rw [getD_app_r (by omega), getD_app_r (by omega), getD_app_r (by omega), getD_app_r (by omega), getD_app_r (by omega), getD_app_r (by omega), getD_app_r (by omega), getD_app_r (by omega)]
    rw [show 8 * i - A.length = 8 * (i - A.length / 8) from by omega, show 8 * i + 1 - A.length = 8 * (i - A.length / 8) + 1 from by omega, show 8 * i + 2 - A.length = 8 * (i - A.length / 8) + 2 from by omega, show 8 * i + 3 - A.length = 8 * (i - A.length / 8) + 3 from by omega, show 8 * i + 4 - A.length = 8 * (i - A.length / 8) + 4 from by omega, show 8 * i + 5 - A.length = 8 * (i - A.length / 8) + 5 from by omega, show 8 * i + 6 - A.length = 8 * (i - A.length / 8) + 6 from by omega, show 8 * i + 7 - A.length = 8 * (i - A.length / 8) + 7 from by omega]
/-- One byte of digits. -/
theorem pack8 (x : Nat) : pack (ofn x 8) = [x % 256] := by
  have h := vl_pack (A := []) (B := []) x 8 Dgs.nil Dgs.nil
  rw [List.nil_append, List.append_nil] at h
  have hl : (pack (ofn x 8)).length = 1 := by rw [pack_length, ofn_length]
  have hb := vl_byte (pack (ofn x 8)) 0 (Bts.getD (pack_bytes (ofn_dgs x 8)) 0)
  generalize pack (ofn x 8) = L at *
  match L, hl with
  | [a], _ =>
    have : a = x % 2 ^ 8 := by
      rw [← h]
      show a = vl [a] 0 8
      exact hb.symm
    rw [this]
theorem ofn_split (x a b : Nat) : ofn x (a + b) = ofn (x / 2 ^ b) a ++ ofn x b := by
  induction a with
  | zero => rw [Nat.zero_add]; rfl
  | succ a ih => rw [show a + 1 + b = (a + b) + 1 from by omega, ofn, ih, ofn, Nat.div_div_eq_div_mul, ← Nat.pow_add, Nat.add_comm b a]; rfl
theorem ofn_congr {x y : Nat} : ∀ {k : Nat}, x % 2 ^ k = y % 2 ^ k → ofn x k = ofn y k
  | 0, _ => rfl
  | k + 1, h => by
    rw [Nat.mod_pow_succ, Nat.mod_pow_succ] at h
    have hx := Nat.mod_lt x (Nat.two_pow_pos k)
    have hy := Nat.mod_lt y (Nat.two_pow_pos k)
    have h1 : x % 2 ^ k = y % 2 ^ k := by
      have h' := congrArg (fun z => z % 2 ^ k) h
      simpa [Nat.add_mul_mod_self_left, Nat.mod_mod] using h'
    have h2 : x / 2 ^ k % 2 = y / 2 ^ k % 2 := by
      rw [h1] at h
      have := Nat.add_left_cancel h
      exact Nat.eq_of_mul_eq_mul_left (Nat.two_pow_pos k) this
    rw [ofn, ofn, h2, ofn_congr h1]
theorem d0 (a b c p : Nat) (ha : a < 2) (hb : b < 2) (hc : c < 2) : [a, 0, b, c, 0] ++ ofn p 3 = ofn (a * 128 + b * 32 + c * 16 + p % 8) 8 := by
  rw [show (8 : Nat) = 5 + 3 from rfl, ofn_split, ofn_congr (x := a * 128 + b * 32 + c * 16 + p % 8) (y := p) (k := 3) (by omega)]
  congr 1
  simp only [ofn]
  refine List.cons_eq_cons.2 ⟨by omega, List.cons_eq_cons.2 ⟨by omega, List.cons_eq_cons.2 ⟨by omega, List.cons_eq_cons.2 ⟨by omega, List.cons_eq_cons.2 ⟨by omega, rfl⟩⟩⟩⟩⟩
theorem d1 (a b c e : Nat) (ha : a < 2) (hb : b < 2) (hc : c < 2) (he : e < 2) : [a, b, c, e] ++ ofn 0 4 = ofn (a * 128 + b * 64 + c * 32 + e * 16) 8 := by
  rw [show (8 : Nat) = 4 + 4 from rfl, ofn_split, ofn_congr (x := a * 128 + b * 64 + c * 32 + e * 16) (y := 0) (k := 4) (by omega)]
  congr 1
  simp only [ofn]
  refine List.cons_eq_cons.2 ⟨by omega, List.cons_eq_cons.2 ⟨by omega, List.cons_eq_cons.2 ⟨by omega, List.cons_eq_cons.2 ⟨by omega, rfl⟩⟩⟩⟩
theorem d7 (p : Nat) : [bt false] ++ ofn p 7 = ofn (p % 128) 8 := by
  rw [show (8 : Nat) = 1 + 7 from rfl, ofn_split, ofn_congr (x := p % 128) (y := p) (k := 7) (by omega)]
  congr 1
  simp only [ofn, bt]
  exact List.cons_eq_cons.2 ⟨by simp only [Bool.false_eq_true, if_false]; omega, rfl⟩
theorem d15 (p : Nat) : [bt true] ++ ofn p 15 = ofn (128 + p % 32768 / 256) 8 ++ ofn (p % 256) 8 := by
  rw [show (15 : Nat) = 7 + 8 from rfl, ofn_split, ofn_congr (x := p) (y := p % 256) (k := 8) (by omega), ← List.append_assoc]
  congr 1
  rw [show (8 : Nat) = 1 + 7 from rfl, ofn_split (128 + p % 32768 / 256) 1 7, ofn_congr (x := p / 2 ^ (1 + 7)) (y := 128 + p % 32768 / 256) (k := 7) (by omega)]
  congr 1
  simp only [ofn, bt]
  exact List.cons_eq_cons.2 ⟨by simp only [if_true]; omega, rfl⟩
theorem d8 (t y k : Nat) (hy : y < 2) : ofn t 2 ++ [y] ++ ofn k 5 = ofn (t % 4 * 64 + y * 32 + k % 32) 8 := by
  rw [show (8 : Nat) = 3 + 5 from rfl, ofn_split, ofn_congr (x := t % 4 * 64 + y * 32 + k % 32) (y := k) (k := 5) (by omega)]
  congr 1
  simp only [ofn, List.cons_append, List.nil_append]
  refine List.cons_eq_cons.2 ⟨by omega, List.cons_eq_cons.2 ⟨by omega, List.cons_eq_cons.2 ⟨by omega, rfl⟩⟩⟩
theorem b0_lt (a b c p : Nat) (ha : a < 2) (hb : b < 2) (hc : c < 2) : (a * 128 + b * 32 + c * 16 + p % 8) % 256 = a * 128 + b * 32 + c * 16 + p % 8 := by omega
theorem putV_eq (d : VD) : putV d = putB d := by
  unfold putV digV putB
  have h1 := bt_lt (d.hp || d.ht || d.hi || d.hk)
  have h2 := bt_lt d.n
  have h3 := bt_lt d.st
  have h4 := bt_lt d.hp
  have h5 := bt_lt d.ht
  have h6 := bt_lt d.hi
  have h7 := bt_lt d.hk
  have h8 := bt_lt d.sy
  simp only
  rw [d0 _ _ _ _ h1 h2 h3, pack_append _ _ (by rw [ofn_length]), pack8, b0_lt _ _ _ _ h1 h2 h3]
  show _ :: pack _ = _
  refine List.cons_eq_cons.2 ⟨rfl, ?_⟩
  by_cases hm : (d.hp || d.ht || d.hi || d.hk) = true
  · rw [if_pos hm, if_pos hm, d1 _ _ _ _ h4 h5 h6 h7, List.append_assoc, List.append_assoc, pack_append _ _ (by rw [ofn_length]), pack8, Nat.mod_eq_of_lt (by omega)]
    show _ :: pack _ = _
    refine List.cons_eq_cons.2 ⟨rfl, ?_⟩
    have hP : pack (if d.hp = true then [bt d.lg] ++ ofn d.pic (if d.lg = true then 15 else 7) else []) = (if d.hp = true then (if d.lg = true then [128 + d.pic % 32768 / 256, d.pic % 256] else [d.pic % 128]) else []) ∧ (if d.hp = true then [bt d.lg] ++ ofn d.pic (if d.lg = true then 15 else 7) else []).length % 8 = 0 := by
      cases d.hp
      · simp only [Bool.false_eq_true, if_false]
        exact ⟨pack_nil, rfl⟩
      · simp only [if_true]
        cases d.lg
        · simp only [Bool.false_eq_true, if_false]
          rw [d7, pack8, ofn_length]
          exact ⟨by rw [Nat.mod_eq_of_lt (by omega)], rfl⟩
        · simp only [if_true]
          rw [d15, pack_append _ _ (by rw [ofn_length]), pack8, pack8, List.length_append, ofn_length, ofn_length]
          exact ⟨by rw [Nat.mod_eq_of_lt (show 128 + d.pic % 32768 / 256 < 256 by omega), Nat.mod_mod]; rfl, rfl⟩
    have hT : pack (if d.ht = true then ofn d.tl 8 else []) = (if d.ht = true then [d.tl % 256] else []) ∧ (if d.ht = true then ofn d.tl 8 else []).length % 8 = 0 := by
      cases d.ht
      · simp only [Bool.false_eq_true, if_false]
        exact ⟨pack_nil, rfl⟩
      · simp only [if_true]
        rw [pack8, ofn_length]
        exact ⟨rfl, rfl⟩
    have hI : pack (if (d.hi || d.hk) = true then ofn d.ti 2 ++ [bt d.sy] ++ ofn d.ky 5 else []) = (if (d.hi || d.hk) = true then [d.ti % 4 * 64 + bt d.sy * 32 + d.ky % 32] else []) := by
      cases (d.hi || d.hk)
      · simp only [Bool.false_eq_true, if_false]
        exact pack_nil
      · simp only [if_true]
        rw [d8 _ _ _ h8, pack8, Nat.mod_eq_of_lt (by omega)]
    rw [pack_append _ _ hP.2, pack_append _ _ hT.2, hP.1, hT.1, hI, List.append_assoc]
  · rw [if_neg hm, if_neg hm]
    rfl
/-- A descriptor as it comes back. -/
def VD.trunc (d : VD) : VD :=
  { d with part := d.part % 8, lg := d.hp && d.lg, pic := if d.hp = true then (if d.lg = true then d.pic % 32768 else d.pic % 128) else 0, tl := if d.ht = true then d.tl % 256 else 0, ti := if d.hi = true then d.ti % 4 else 0, sy := d.hi && d.sy, ky := if d.hk = true then d.ky % 32 else 0 }
theorem has_b (a b c e p : Nat) (ha : a < 2) (hb : b < 2) (hc : c < 2) (he : e < 2) (hp : p < 16) : hasB (a * 128 + b * 64 + c * 32 + e * 16 + p) 128 = decide (a = 1) ∧ hasB (a * 128 + b * 64 + c * 32 + e * 16 + p) 64 = decide (b = 1) ∧ hasB (a * 128 + b * 64 + c * 32 + e * 16 + p) 32 = decide (c = 1) ∧ hasB (a * 128 + b * 64 + c * 32 + e * 16 + p) 16 = decide (e = 1) := by
  unfold hasB
  refine ⟨decide_eq_decide.2 ?_, decide_eq_decide.2 ?_, decide_eq_decide.2 ?_, decide_eq_decide.2 ?_⟩ <;> omega
theorem bt_dec (x : Bool) : decide (bt x = 1) = x := by cases x <;> rfl
theorem ref_put (d : VD) : refB (putB d) = some (d.trunc, (putB d).length) := by
  obtain ⟨n, st, part, hp, lg, pic, ht, tl, hi, ti, sy, hk, ky⟩ := d
  have q0 := has_b (bt (hp || ht || hi || hk)) 0 (bt n) (bt st) (part % 8) (bt_lt _) (by decide) (bt_lt _) (bt_lt _) (by omega)
  have q1 := has_b (bt hp) (bt ht) (bt hi) (bt hk) 0 (bt_lt _) (bt_lt _) (bt_lt _) (bt_lt _) (by decide)
  simp only [Nat.zero_mul, Nat.add_zero, bt_dec] at q0 q1
  have m8 : (bt (hp || ht || hi || hk) * 128 + bt n * 32 + bt st * 16 + part % 8) % 8 = part % 8 := by omega
  unfold refB putB VD.trunc
  simp only [List.getD_cons_zero, List.getD_cons_succ, List.length_cons, q0.1, q0.2.2.1, q0.2.2.2, m8]
  rw [if_neg (by omega)]
  by_cases hm : (hp || ht || hi || hk) = true
  · rw [if_pos hm]
    simp only [hm, if_true, List.getD_cons_zero, List.length_cons, q1.1, q1.2.1, q1.2.2.1, q1.2.2.2]
    have hty : bt sy < 2 := bt_lt _
    have e1 : (ti % 4 * 64 + bt sy * 32 + ky % 32) / 64 = ti % 4 := by omega
    have e2 : hasB (ti % 4 * 64 + bt sy * 32 + ky % 32) 32 = sy := by
      unfold hasB
      have : (ti % 4 * 64 + bt sy * 32 + ky % 32) / 32 % 2 = bt sy := by omega
      rw [this, bt_dec]
    have e3 : (ti % 4 * 64 + bt sy * 32 + ky % 32) % 32 = ky % 32 := by omega
    have f1 : hasB (128 + pic % 32768 / 256) 128 = true := by unfold hasB; exact decide_eq_true (by omega)
    have f2 : (128 + pic % 32768 / 256) % 128 * 256 + pic % 256 = pic % 32768 := by omega
    have f3 : hasB (pic % 128) 128 = false := by unfold hasB; exact decide_eq_false (by omega)
    have f4 : pic % 128 % 128 = pic % 128 := by omega
    generalize 128 + pic % 32768 / 256 = u at *
    generalize ti % 4 * 64 + bt sy * 32 + ky % 32 = v at *
    clear q0 q1 m8 hm
    cases hp <;> cases lg <;> cases ht <;> cases hi <;> cases hk <;> simp [picB, tlB, tiB, VD.zero, e1, e2, e3, f1, f2, f3, f4]
  · rw [if_neg hm]
    simp only [Bool.or_eq_true, not_or, Bool.not_eq_true] at hm
    obtain ⟨⟨⟨rfl, rfl⟩, rfl⟩, rfl⟩ := hm
    rfl
end Go.Proofs.Ythgjhdcifdfhoaa.V5

namespace Go.Proofs.Ythgjhdcifdfhoaa.V5
open Go.RowKit Go.Proofs.Ythgjhdcifdfhoaa
set_option linter.unusedVariables false
set_option linter.unusedSimpArgs false

/-- Of numbers that the types hold. -/
def VD.Ok (d : VD) : Prop := d.part < 256 ∧ d.pic < 65536 ∧ d.tl < 256 ∧ d.ti < 256 ∧ d.ky < 256
/-- The document's Right. -/
def rightV (d : VD) : Bool :=
  (!(decide (7 < d.part) || decide (32767 < d.pic) || (!d.lg && decide (127 < d.pic)) || decide (3 < d.ti) || decide (31 < d.ky))) &&
  (d.hp || (!d.lg && decide (d.pic = 0))) && (d.ht || decide (d.tl = 0)) && (d.hi || (decide (d.ti = 0) && !d.sy)) && (d.hk || decide (d.ky = 0))
theorem right_iff (d : VD) (h : d.Ok) : rightV d = true ↔ d.trunc = d := by
  obtain ⟨n, st, part, hp, lg, pic, ht, tl, hi, ti, sy, hk, ky⟩ := d
  obtain ⟨_, _, h3, _, _⟩ := h
  simp only at h3
  unfold rightV VD.trunc
  simp only [VD.mk.injEq]
  cases hp <;> cases lg <;> cases ht <;> cases hi <;> cases sy <;> cases hk <;> simp <;> omega
theorem put_len (d : VD) : (putB d).length = if (d.hp || d.ht || d.hi || d.hk) = true then 2 + (if d.hp = true then (if d.lg = true then 2 else 1) else 0) + (if d.ht = true then 1 else 0) + (if (d.hi || d.hk) = true then 1 else 0) else 1 := by
  unfold putB
  cases d.hp <;> cases d.lg <;> cases d.ht <;> cases d.hi <;> cases d.hk <;> rfl
/-- Of right numbers, what is put is what the document says. -/
def VD.anew (d : VD) (pic tl ti : Nat) (sy : Bool) : VD := { d with hp := true, lg := true, pic := pic % 32768, ht := true, tl := tl, hi := true, ti := ti % 4, sy := sy }
end Go.Proofs.Ythgjhdcifdfhoaa.V5

namespace Go.Proofs.Ythgjhdcifdfhoaa.V5
open Go.RowKit Go.Proofs.Ythgjhdcifdfhoaa
set_option linter.unusedVariables false
set_option linter.unusedSimpArgs false

/-- The parts of a descriptor, as they lie in memory. -/
def dv (d : VD) : Array Value := #[.bool d.n, .bool d.st, .int .u8 (d.part : Int), .bool d.hp, .bool d.lg, .int .u16 (d.pic : Int), .bool d.ht, .int .u8 (d.tl : Int), .bool d.hi, .int .u8 (d.ti : Int), .bool d.sy, .bool d.hk, .int .u8 (d.ky : Int)]
theorem dv_size (d : VD) : (dv d).size = 13 := rfl
/-- A reader, a descriptor and the mark 'more' in memory. -/
structure VT (w : World) (p : Nat) (bs : List Nat) (s : RS) (v : Value) (g : Nat) (d : VD) (m : Nat) (b : Bool) : Prop where
  rd : Rd w p bs s.at_ s.err v
  pd : Pt w p v g 31 (dv d)
  pm : Pt w p v m 4 #[.bool b]
  ne : g ≠ m
  ok : d.Ok
theorem Pt.tkp {F : Nat → Prop} {w w' : World} {p m : Nat} {v : Value} {T : TypeId} {cs : Array Value} (h : Pt w p v m T cs) (hk : Kp F w w') (hF : F m) : Pt w' p v m T cs := ⟨h.blk.kp hk hF, h.np, h.nv⟩
theorem kp3 {p g m : Nat} {a b c : World} (h : Kp (fun k => k ≠ p ∧ k ≠ g ∧ k ≠ m) a b) (k : Kp (fun k => k ≠ p ∧ k ≠ g ∧ k ≠ m) b c) : Kp (fun k => k ≠ p ∧ k ≠ g ∧ k ≠ m) a c := h.trans k
theorem kpd {F : Nat → Prop} {a b : World} (h : Kp F a.drew b) : Kp F a b := ⟨h.os, h.tape, h.output, h.size, h.block⟩
theorem tVal16 (bs : List Nat) (s : RS) (n : Nat) (hn : n ≤ 16) : RS.val bs s n < 65536 := by
  unfold RS.val tVal
  split
  · have := vl_lt bs s.at_ (n : Int).toNat
    have : 2 ^ (n : Int).toNat ≤ 2 ^ 16 := Nat.pow_le_pow_right (by decide) (by omega)
    omega
  · decide
theorem tVal8 (bs : List Nat) (s : RS) (n : Nat) (hn : n ≤ 8) : RS.val bs s n < 256 := by
  unfold RS.val tVal
  split
  · have := vl_lt bs s.at_ (n : Int).toNat
    have : 2 ^ (n : Int).toNat ≤ 2 ^ 8 := Nat.pow_le_pow_right (by decide) (by omega)
    omega
  · decide
section
variable {w : World} {p : Nat} {bs : List Nat} {s : RS} {v : Value} {g m : Nat} {d : VD} {b : Bool}
theorem VT.flag (h : VT w p bs s v g d m b) {i : Nat} {f : Bool → VD} (hf : ∀ x, (dv d).setIfInBounds i (.bool x) = dv (f x)) (hi : i < 13) (hok : ∀ x, (f x).Ok) :
    Calls Try.prog 131 #[.agg #[.pointer (some ⟨p, 0, none⟩)], .pointer (some ⟨g, i, none⟩)] w fun e w' => e = .returned (.tuple #[]) ∧ ∃ x s', Hd (decide (RS.val bs s 1 = 1) = x ∧ RS.next bs s 1 = s') ∧ VT w' p bs s' v g (f x) m b ∧ Kp (fun k => k ≠ p ∧ k ≠ g ∧ k ≠ m) w w' := by
  refine (tflag_any h.rd h.pd (by rw [dv_size]; exact hi)).mono ?_
  rintro e w' ⟨rfl, hR, hP, hK⟩
  refine ⟨rfl, _, _, hd ⟨rfl, rfl⟩, ⟨hR, ?_, h.pm.tkp hK ⟨h.pm.np, h.ne.symm⟩, h.ne, hok _⟩, hK.mono fun k hk _ => ⟨hk.1, hk.2.1⟩⟩
  have := hf (decide (RS.val bs s 1 = 1))
  exact this ▸ hP
theorem VT.more (h : VT w p bs s v g d m b) :
    Calls Try.prog 131 #[.agg #[.pointer (some ⟨p, 0, none⟩)], .pointer (some ⟨m, 0, none⟩)] w fun e w' => e = .returned (.tuple #[]) ∧ ∃ x s', Hd (decide (RS.val bs s 1 = 1) = x ∧ RS.next bs s 1 = s') ∧ VT w' p bs s' v g d m x ∧ Kp (fun k => k ≠ p ∧ k ≠ g ∧ k ≠ m) w w' := by
  refine (tflag_any h.rd h.pm (Nat.lt_succ_self 0)).mono ?_
  rintro e w' ⟨rfl, hR, hP, hK⟩
  exact ⟨rfl, _, _, hd ⟨rfl, rfl⟩, ⟨hR, h.pd.tkp hK ⟨h.pd.np, h.ne⟩, hP, h.ne, h.ok⟩, hK.mono fun k hk _ => ⟨hk.1, hk.2.2⟩⟩
theorem VT.spare (h : VT w p bs s v g d m b) (c : Int) (n : Nat) (hc : c = n) (hn : n ≤ 16) :
    Calls Try.prog 91 #[.iface 100 (.agg #[.pointer (some ⟨p, 0, none⟩)]), .int .i64 c] w fun e w' => e = .returned (.tuple #[]) ∧ ∃ s', Hd (RS.next bs s n = s' ∧ RS.next bs s n = s') ∧ VT w' p bs s' v g d m b ∧ Kp (fun k => k ≠ p ∧ k ≠ g ∧ k ≠ m) w w' := by
  subst hc
  refine (spare_t h.rd n (by omega)).mono ?_
  rintro e w' ⟨rfl, hR, hK⟩
  exact ⟨rfl, _, hd ⟨rfl, rfl⟩, ⟨hR, h.pd.tkp hK h.pd.np, h.pm.tkp hK h.pm.np, h.ne, h.ok⟩, hK.mono fun k hk _ => hk.1⟩
theorem VT.byte (h : VT w p bs s v g d m b) {i c : Nat} {f : Nat → VD} (hc : (dv d)[i]? = some (.int .u8 c)) (hc8 : c < 256) (hf : ∀ x : Nat, (dv d).setIfInBounds i (.int .u8 (x : Int)) = dv (f x)) (hi : i < 13) (hok : ∀ x, x < 256 → (f x).Ok) (a : Int) (n : Nat) (ha : a = n) (hn : n ≤ 8) :
    Calls Try.prog 92 #[.iface 100 (.agg #[.pointer (some ⟨p, 0, none⟩)]), .pointer (some ⟨g, i, none⟩), .int .i64 a] w fun e w' => e = .returned (.tuple #[]) ∧ ∃ x s', Hd (RS.val bs s n = x ∧ RS.next bs s n = s') ∧ VT w' p bs s' v g (f x) m b ∧ Kp (fun k => k ≠ p ∧ k ≠ g ∧ k ≠ m) w w' := by
  subst ha
  refine (byteOf_t h.rd h.pd (by rw [dv_size]; exact hi) c hc hc8 n (by omega)).mono ?_
  rintro e w' ⟨rfl, hR, hP, hK⟩
  refine ⟨rfl, _, _, hd ⟨rfl, rfl⟩, ⟨hR, ?_, h.pm.tkp hK ⟨h.pm.np, h.ne.symm⟩, h.ne, hok _ (tVal8 bs s n hn)⟩, hK.mono fun k hk _ => ⟨hk.1, hk.2.1⟩⟩
  have := hf (RS.val bs s n)
  exact this ▸ hP
theorem VT.num (h : VT w p bs s v g d m b) {i : Nat} {f : Nat → VD} (hf : ∀ x : Nat, (dv d).setIfInBounds i (.int .u16 (x : Int)) = dv (f x)) (hi : i < 13) (hok : ∀ x, x < 65536 → (f x).Ok) (a : Int) (n : Nat) (ha : a = n) (hn : n ≤ 16) :
    Calls Try.prog 132 #[.agg #[.pointer (some ⟨p, 0, none⟩)], .pointer (some ⟨g, i, none⟩), .int .i64 a] w fun e w' => e = .returned (.tuple #[]) ∧ ∃ x s', Hd (RS.val bs s n = x ∧ RS.next bs s n = s') ∧ VT w' p bs s' v g (f x) m b ∧ Kp (fun k => k ≠ p ∧ k ≠ g ∧ k ≠ m) w w' := by
  subst ha
  refine (tnum_any h.rd h.pd (by rw [dv_size]; exact hi) n (by omega)).mono ?_
  rintro e w' ⟨rfl, hR, hP, hK⟩
  refine ⟨rfl, _, _, hd ⟨rfl, rfl⟩, ⟨hR, ?_, h.pm.tkp hK ⟨h.pm.np, h.ne.symm⟩, h.ne, hok _ (tVal16 bs s n hn)⟩, hK.mono fun k hk _ => ⟨hk.1, hk.2.1⟩⟩
  have := hf (RS.val bs s n)
  exact this ▸ hP
theorem VT.drew (h : VT w p bs s v g d m b) : VT w.drew p bs s v g d m b := ⟨h.rd.drewN 1, ⟨h.pd.blk.drew, h.pd.np, h.pd.nv⟩, ⟨h.pm.blk.drew, h.pm.np, h.pm.nv⟩, h.ne, h.ok⟩
end
theorem RS.more1 {bs : List Nat} {s : RS} {x : Bool} (h : decide (RS.val bs s 1 = 1) = x) : (RS.val bs s 1 = 1) = (x = true) := by subst h; simp
theorem nil_tflag (a : Addr) (w : World) : (nilAhead 304 100 (.agg #[.pointer (some a)]) "easel/vp8.flag").run Try.prog w = .ok (some false) w := by kernel_rfl
theorem nil_tnum (a : Addr) (w : World) : (nilAhead 304 100 (.agg #[.pointer (some a)]) "easel/vp8.number").run Try.prog w = .ok (some false) w := by kernel_rfl
theorem VD.zero_ok : VD.zero.Ok := ⟨by decide, by decide, by decide, by decide, by decide⟩
set_option maxHeartbeats 4000000 in
set_option maxRecDepth 100000 in
theorem visit_t {w : World} {p : Nat} {bs : List Nat} {s0 : RS} {v : Value} {g m : Nat} {b : Bool} (h0 : VT w p bs s0 v g VD.zero m b) :
    Calls Try.prog 49 #[.pointer (some ⟨g, 0, none⟩), .iface 100 (.agg #[.pointer (some ⟨p, 0, none⟩)]), .pointer (some ⟨m, 0, none⟩)] w fun e w' => e = .returned (.tuple #[]) ∧ ∃ s' d' b', Hd (visR bs s0 = (d', s')) ∧ VT w' p bs s' v g d' m b' ∧ Kp (fun k => k ≠ p ∧ k ≠ g ∧ k ≠ m) w w' := by
  have hM1 := meth_tnum ⟨p, 0, none⟩
  have hM2 := meth_tflag ⟨p, 0, none⟩
  have hN1 := nil_tnum ⟨p, 0, none⟩
  have hN2 := nil_tflag ⟨p, 0, none⟩
  have K : Hd (Kp (fun k => k ≠ p ∧ k ≠ g ∧ k ≠ m) w w) := hd (Kp.refl _ _)
  go_enter Try.func49, Try.ntmps49
  go_wp2_with fail
  refine (h0.more).mono ?_
  rintro e w1 ⟨rfl, x1, s1, q1, h1, k_⟩
  replace K := hd (kp3 K.out k_)
  clear k_
  go_wp2_with fail
  refine (h1.spare 1 1 rfl (by decide)).mono ?_
  rintro e w2 ⟨rfl, s2, q2, h2, k_⟩
  replace K := hd (kp3 K.out k_)
  clear k_ h1
  go_wp2_with fail
  go_still_tail 7, (by kernel_rfl)
  go_wp2_with fail
  refine (h2.drew.flag (i := 0) (f := fun x => (⟨x, false, 0, false, false, 0, false, 0, false, 0, false, false, 0⟩ : VD)) (fun _ => rfl) (by decide) (fun _ => h2.drew.ok)).mono ?_
  rintro e w3 ⟨rfl, x3, s3, q3, h3, k_⟩
  replace K := hd (kp3 K.out (kpd k_))
  clear k_ h2
  go_wp2_with fail
  go_still_tail 7, (by kernel_rfl)
  go_wp2_with fail
  refine (h3.drew.flag (i := 1) (f := fun x => (⟨x3, x, 0, false, false, 0, false, 0, false, 0, false, false, 0⟩ : VD)) (fun _ => rfl) (by decide) (fun _ => h3.drew.ok)).mono ?_
  rintro e w4 ⟨rfl, x4, s4, q4, h4, k_⟩
  replace K := hd (kp3 K.out (kpd k_))
  clear k_ h3
  go_wp2_with fail
  refine (h4.spare 1 1 rfl (by decide)).mono ?_
  rintro e w5 ⟨rfl, s5, q5, h5, k_⟩
  replace K := hd (kp3 K.out k_)
  clear k_ h4
  go_wp2_with fail
  refine (h5.byte (i := 2) (c := 0) (f := fun x => (⟨x3, x4, x, false, false, 0, false, 0, false, 0, false, false, 0⟩ : VD)) rfl h5.ok.1 (fun _ => rfl) (by decide) (fun x hx => ⟨hx, h5.ok.2.1, h5.ok.2.2.1, h5.ok.2.2.2.1, h5.ok.2.2.2.2⟩) 3 3 rfl (by decide)).mono ?_
  rintro e w6 ⟨rfl, x6, s6, q6, h6, k_⟩
  replace K := hd (kp3 K.out k_)
  clear k_ h5
  have c_b : w6.cell? ⟨m, 0, none⟩ = some (.bool x1) := h6.pm.blk.cell 0
  cases x1
  ·
    go_wp2
    first | go_end0 | refine bodyPost_ret (results_none rfl _ _ _) rfl ?_
    refine ⟨rfl, s6, (⟨x3, x4, x6, false, false, 0, false, 0, false, 0, false, false, 0⟩ : VD), false, hd ?_, h6, K.out⟩
    clear K h6 c_b
    simp only [visR, moreR, picR, tlR, tiR, VD.zero, RS.more1 q1.out.1, q1.out.1, q1.out.2, q2.out.1, q2.out.2, q3.out.1, q3.out.2, q4.out.1, q4.out.2, q5.out.1, q5.out.2, q6.out.1, q6.out.2, Bool.false_eq_true, Bool.or_true, Bool.true_or, Bool.or_false, Bool.or_self, if_true, if_false]
  ·
    go_wp2_with fail
    go_still_tail 7, (by kernel_rfl)
    go_wp2_with fail
    refine (h6.drew.flag (i := 3) (f := fun x => (⟨x3, x4, x6, x, false, 0, false, 0, false, 0, false, false, 0⟩ : VD)) (fun _ => rfl) (by decide) (fun _ => h6.drew.ok)).mono ?_
    rintro e w7 ⟨rfl, x7, s7, q7, h7, k_⟩
    replace K := hd (kp3 K.out (kpd k_))
    clear k_ h6 c_b
    go_wp2_with fail
    go_still_tail 7, (by kernel_rfl)
    go_wp2_with fail
    refine (h7.drew.flag (i := 6) (f := fun x => (⟨x3, x4, x6, x7, false, 0, x, 0, false, 0, false, false, 0⟩ : VD)) (fun _ => rfl) (by decide) (fun _ => h7.drew.ok)).mono ?_
    rintro e w8 ⟨rfl, x8, s8, q8, h8, k_⟩
    replace K := hd (kp3 K.out (kpd k_))
    clear k_ h7
    go_wp2_with fail
    go_still_tail 7, (by kernel_rfl)
    go_wp2_with fail
    refine (h8.drew.flag (i := 8) (f := fun x => (⟨x3, x4, x6, x7, false, 0, x8, 0, x, 0, false, false, 0⟩ : VD)) (fun _ => rfl) (by decide) (fun _ => h8.drew.ok)).mono ?_
    rintro e w9 ⟨rfl, x9, s9, q9, h9, k_⟩
    replace K := hd (kp3 K.out (kpd k_))
    clear k_ h8
    go_wp2_with fail
    go_still_tail 7, (by kernel_rfl)
    go_wp2_with fail
    refine (h9.drew.flag (i := 11) (f := fun x => (⟨x3, x4, x6, x7, false, 0, x8, 0, x9, 0, false, x, 0⟩ : VD)) (fun _ => rfl) (by decide) (fun _ => h9.drew.ok)).mono ?_
    rintro e w10 ⟨rfl, x10, s10, q10, h10, k_⟩
    replace K := hd (kp3 K.out (kpd k_))
    clear k_ h9
    go_wp2_with fail
    refine (h10.spare 4 4 rfl (by decide)).mono ?_
    rintro e w11 ⟨rfl, s11, q11, h11, k_⟩
    replace K := hd (kp3 K.out k_)
    clear k_ h10
    have c_hp : w11.cell? ⟨g, 3, none⟩ = some (.bool x7) := h11.pd.blk.cell 3
    have c_ht : w11.cell? ⟨g, 6, none⟩ = some (.bool x8) := h11.pd.blk.cell 6
    have c_hi : w11.cell? ⟨g, 8, none⟩ = some (.bool x9) := h11.pd.blk.cell 8
    have c_hk : w11.cell? ⟨g, 11, none⟩ = some (.bool x10) := h11.pd.blk.cell 11
    cases x7
    ·
      cases x8
      ·
        cases x9
        ·
          cases x10
          ·
            go_wp2
            first | go_end0 | refine bodyPost_ret (results_none rfl _ _ _) rfl ?_
            refine ⟨rfl, s11, (⟨x3, x4, x6, false, false, 0, false, 0, false, 0, false, false, 0⟩ : VD), true, hd ?_, h11, K.out⟩
            clear K h11 c_hp c_ht c_hi c_hk
            simp only [visR, moreR, picR, tlR, tiR, VD.zero, RS.more1 q1.out.1, q1.out.1, q1.out.2, q2.out.1, q2.out.2, q3.out.1, q3.out.2, q4.out.1, q4.out.2, q5.out.1, q5.out.2, q6.out.1, q6.out.2, q7.out.1, q7.out.2, q8.out.1, q8.out.2, q9.out.1, q9.out.2, q10.out.1, q10.out.2, q11.out.1, q11.out.2, Bool.false_eq_true, Bool.or_true, Bool.true_or, Bool.or_false, Bool.or_self, if_true, if_false]
          ·
            go_wp2_with fail
            refine (h11.byte (i := 9) (c := 0) (f := fun x => (⟨x3, x4, x6, false, false, 0, false, 0, false, x, false, true, 0⟩ : VD)) rfl h11.ok.2.2.2.1 (fun _ => rfl) (by decide) (fun x hx => ⟨h11.ok.1, h11.ok.2.1, h11.ok.2.2.1, hx, h11.ok.2.2.2.2⟩) 2 2 rfl (by decide)).mono ?_
            rintro e w12 ⟨rfl, x12, s12, q12, h12, k_⟩
            replace K := hd (kp3 K.out k_)
            clear k_ h11 c_hp c_ht c_hi c_hk
            go_wp2_with fail
            go_still_tail 7, (by kernel_rfl)
            go_wp2_with fail
            refine (h12.drew.flag (i := 10) (f := fun x => (⟨x3, x4, x6, false, false, 0, false, 0, false, x12, x, true, 0⟩ : VD)) (fun _ => rfl) (by decide) (fun _ => h12.drew.ok)).mono ?_
            rintro e w13 ⟨rfl, x13, s13, q13, h13, k_⟩
            replace K := hd (kp3 K.out (kpd k_))
            clear k_ h12
            go_wp2_with fail
            refine (h13.byte (i := 12) (c := 0) (f := fun x => (⟨x3, x4, x6, false, false, 0, false, 0, false, x12, x13, true, x⟩ : VD)) rfl h13.ok.2.2.2.2 (fun _ => rfl) (by decide) (fun x hx => ⟨h13.ok.1, h13.ok.2.1, h13.ok.2.2.1, h13.ok.2.2.2.1, hx⟩) 5 5 rfl (by decide)).mono ?_
            rintro e w14 ⟨rfl, x14, s14, q14, h14, k_⟩
            replace K := hd (kp3 K.out k_)
            clear k_ h13
            go_wp2
            first | go_end0 | refine bodyPost_ret (results_none rfl _ _ _) rfl ?_
            refine ⟨rfl, s14, (⟨x3, x4, x6, false, false, 0, false, 0, false, x12, x13, true, x14⟩ : VD), true, hd ?_, h14, K.out⟩
            clear K h14
            simp only [visR, moreR, picR, tlR, tiR, VD.zero, RS.more1 q1.out.1, q1.out.1, q1.out.2, q2.out.1, q2.out.2, q3.out.1, q3.out.2, q4.out.1, q4.out.2, q5.out.1, q5.out.2, q6.out.1, q6.out.2, q7.out.1, q7.out.2, q8.out.1, q8.out.2, q9.out.1, q9.out.2, q10.out.1, q10.out.2, q11.out.1, q11.out.2, q12.out.1, q12.out.2, q13.out.1, q13.out.2, q14.out.1, q14.out.2, Bool.false_eq_true, Bool.or_true, Bool.true_or, Bool.or_false, Bool.or_self, if_true, if_false]
        ·
          go_wp2_with fail
          refine (h11.byte (i := 9) (c := 0) (f := fun x => (⟨x3, x4, x6, false, false, 0, false, 0, true, x, false, x10, 0⟩ : VD)) rfl h11.ok.2.2.2.1 (fun _ => rfl) (by decide) (fun x hx => ⟨h11.ok.1, h11.ok.2.1, h11.ok.2.2.1, hx, h11.ok.2.2.2.2⟩) 2 2 rfl (by decide)).mono ?_
          rintro e w12 ⟨rfl, x12, s12, q12, h12, k_⟩
          replace K := hd (kp3 K.out k_)
          clear k_ h11 c_hp c_ht c_hi c_hk
          go_wp2_with fail
          go_still_tail 7, (by kernel_rfl)
          go_wp2_with fail
          refine (h12.drew.flag (i := 10) (f := fun x => (⟨x3, x4, x6, false, false, 0, false, 0, true, x12, x, x10, 0⟩ : VD)) (fun _ => rfl) (by decide) (fun _ => h12.drew.ok)).mono ?_
          rintro e w13 ⟨rfl, x13, s13, q13, h13, k_⟩
          replace K := hd (kp3 K.out (kpd k_))
          clear k_ h12
          go_wp2_with fail
          refine (h13.byte (i := 12) (c := 0) (f := fun x => (⟨x3, x4, x6, false, false, 0, false, 0, true, x12, x13, x10, x⟩ : VD)) rfl h13.ok.2.2.2.2 (fun _ => rfl) (by decide) (fun x hx => ⟨h13.ok.1, h13.ok.2.1, h13.ok.2.2.1, h13.ok.2.2.2.1, hx⟩) 5 5 rfl (by decide)).mono ?_
          rintro e w14 ⟨rfl, x14, s14, q14, h14, k_⟩
          replace K := hd (kp3 K.out k_)
          clear k_ h13
          go_wp2
          first | go_end0 | refine bodyPost_ret (results_none rfl _ _ _) rfl ?_
          refine ⟨rfl, s14, (⟨x3, x4, x6, false, false, 0, false, 0, true, x12, x13, x10, x14⟩ : VD), true, hd ?_, h14, K.out⟩
          clear K h14
          simp only [visR, moreR, picR, tlR, tiR, VD.zero, RS.more1 q1.out.1, q1.out.1, q1.out.2, q2.out.1, q2.out.2, q3.out.1, q3.out.2, q4.out.1, q4.out.2, q5.out.1, q5.out.2, q6.out.1, q6.out.2, q7.out.1, q7.out.2, q8.out.1, q8.out.2, q9.out.1, q9.out.2, q10.out.1, q10.out.2, q11.out.1, q11.out.2, q12.out.1, q12.out.2, q13.out.1, q13.out.2, q14.out.1, q14.out.2, Bool.false_eq_true, Bool.or_true, Bool.true_or, Bool.or_false, Bool.or_self, if_true, if_false]
      ·
        go_wp2_with fail
        refine (h11.byte (i := 7) (c := 0) (f := fun x => (⟨x3, x4, x6, false, false, 0, true, x, x9, 0, false, x10, 0⟩ : VD)) rfl h11.ok.2.2.1 (fun _ => rfl) (by decide) (fun x hx => ⟨h11.ok.1, h11.ok.2.1, hx, h11.ok.2.2.2.1, h11.ok.2.2.2.2⟩) 8 8 rfl (by decide)).mono ?_
        rintro e w12 ⟨rfl, x12, s12, q12, h12, k_⟩
        replace K := hd (kp3 K.out k_)
        clear k_ h11 c_hp c_ht c_hi c_hk
        have c_hi : w12.cell? ⟨g, 8, none⟩ = some (.bool x9) := h12.pd.blk.cell 8
        have c_hk : w12.cell? ⟨g, 11, none⟩ = some (.bool x10) := h12.pd.blk.cell 11
        cases x9
        ·
          cases x10
          ·
            go_wp2
            first | go_end0 | refine bodyPost_ret (results_none rfl _ _ _) rfl ?_
            refine ⟨rfl, s12, (⟨x3, x4, x6, false, false, 0, true, x12, false, 0, false, false, 0⟩ : VD), true, hd ?_, h12, K.out⟩
            clear K h12 c_hi c_hk
            simp only [visR, moreR, picR, tlR, tiR, VD.zero, RS.more1 q1.out.1, q1.out.1, q1.out.2, q2.out.1, q2.out.2, q3.out.1, q3.out.2, q4.out.1, q4.out.2, q5.out.1, q5.out.2, q6.out.1, q6.out.2, q7.out.1, q7.out.2, q8.out.1, q8.out.2, q9.out.1, q9.out.2, q10.out.1, q10.out.2, q11.out.1, q11.out.2, q12.out.1, q12.out.2, Bool.false_eq_true, Bool.or_true, Bool.true_or, Bool.or_false, Bool.or_self, if_true, if_false]
          ·
            go_wp2_with fail
            refine (h12.byte (i := 9) (c := 0) (f := fun x => (⟨x3, x4, x6, false, false, 0, true, x12, false, x, false, true, 0⟩ : VD)) rfl h12.ok.2.2.2.1 (fun _ => rfl) (by decide) (fun x hx => ⟨h12.ok.1, h12.ok.2.1, h12.ok.2.2.1, hx, h12.ok.2.2.2.2⟩) 2 2 rfl (by decide)).mono ?_
            rintro e w13 ⟨rfl, x13, s13, q13, h13, k_⟩
            replace K := hd (kp3 K.out k_)
            clear k_ h12 c_hi c_hk
            go_wp2_with fail
            go_still_tail 7, (by kernel_rfl)
            go_wp2_with fail
            refine (h13.drew.flag (i := 10) (f := fun x => (⟨x3, x4, x6, false, false, 0, true, x12, false, x13, x, true, 0⟩ : VD)) (fun _ => rfl) (by decide) (fun _ => h13.drew.ok)).mono ?_
            rintro e w14 ⟨rfl, x14, s14, q14, h14, k_⟩
            replace K := hd (kp3 K.out (kpd k_))
            clear k_ h13
            go_wp2_with fail
            refine (h14.byte (i := 12) (c := 0) (f := fun x => (⟨x3, x4, x6, false, false, 0, true, x12, false, x13, x14, true, x⟩ : VD)) rfl h14.ok.2.2.2.2 (fun _ => rfl) (by decide) (fun x hx => ⟨h14.ok.1, h14.ok.2.1, h14.ok.2.2.1, h14.ok.2.2.2.1, hx⟩) 5 5 rfl (by decide)).mono ?_
            rintro e w15 ⟨rfl, x15, s15, q15, h15, k_⟩
            replace K := hd (kp3 K.out k_)
            clear k_ h14
            go_wp2
            first | go_end0 | refine bodyPost_ret (results_none rfl _ _ _) rfl ?_
            refine ⟨rfl, s15, (⟨x3, x4, x6, false, false, 0, true, x12, false, x13, x14, true, x15⟩ : VD), true, hd ?_, h15, K.out⟩
            clear K h15
            simp only [visR, moreR, picR, tlR, tiR, VD.zero, RS.more1 q1.out.1, q1.out.1, q1.out.2, q2.out.1, q2.out.2, q3.out.1, q3.out.2, q4.out.1, q4.out.2, q5.out.1, q5.out.2, q6.out.1, q6.out.2, q7.out.1, q7.out.2, q8.out.1, q8.out.2, q9.out.1, q9.out.2, q10.out.1, q10.out.2, q11.out.1, q11.out.2, q12.out.1, q12.out.2, q13.out.1, q13.out.2, q14.out.1, q14.out.2, q15.out.1, q15.out.2, Bool.false_eq_true, Bool.or_true, Bool.true_or, Bool.or_false, Bool.or_self, if_true, if_false]
        ·
          go_wp2_with fail
          refine (h12.byte (i := 9) (c := 0) (f := fun x => (⟨x3, x4, x6, false, false, 0, true, x12, true, x, false, x10, 0⟩ : VD)) rfl h12.ok.2.2.2.1 (fun _ => rfl) (by decide) (fun x hx => ⟨h12.ok.1, h12.ok.2.1, h12.ok.2.2.1, hx, h12.ok.2.2.2.2⟩) 2 2 rfl (by decide)).mono ?_
          rintro e w13 ⟨rfl, x13, s13, q13, h13, k_⟩
          replace K := hd (kp3 K.out k_)
          clear k_ h12 c_hi c_hk
          go_wp2_with fail
          go_still_tail 7, (by kernel_rfl)
          go_wp2_with fail
          refine (h13.drew.flag (i := 10) (f := fun x => (⟨x3, x4, x6, false, false, 0, true, x12, true, x13, x, x10, 0⟩ : VD)) (fun _ => rfl) (by decide) (fun _ => h13.drew.ok)).mono ?_
          rintro e w14 ⟨rfl, x14, s14, q14, h14, k_⟩
          replace K := hd (kp3 K.out (kpd k_))
          clear k_ h13
          go_wp2_with fail
          refine (h14.byte (i := 12) (c := 0) (f := fun x => (⟨x3, x4, x6, false, false, 0, true, x12, true, x13, x14, x10, x⟩ : VD)) rfl h14.ok.2.2.2.2 (fun _ => rfl) (by decide) (fun x hx => ⟨h14.ok.1, h14.ok.2.1, h14.ok.2.2.1, h14.ok.2.2.2.1, hx⟩) 5 5 rfl (by decide)).mono ?_
          rintro e w15 ⟨rfl, x15, s15, q15, h15, k_⟩
          replace K := hd (kp3 K.out k_)
          clear k_ h14
          go_wp2
          first | go_end0 | refine bodyPost_ret (results_none rfl _ _ _) rfl ?_
          refine ⟨rfl, s15, (⟨x3, x4, x6, false, false, 0, true, x12, true, x13, x14, x10, x15⟩ : VD), true, hd ?_, h15, K.out⟩
          clear K h15
          simp only [visR, moreR, picR, tlR, tiR, VD.zero, RS.more1 q1.out.1, q1.out.1, q1.out.2, q2.out.1, q2.out.2, q3.out.1, q3.out.2, q4.out.1, q4.out.2, q5.out.1, q5.out.2, q6.out.1, q6.out.2, q7.out.1, q7.out.2, q8.out.1, q8.out.2, q9.out.1, q9.out.2, q10.out.1, q10.out.2, q11.out.1, q11.out.2, q12.out.1, q12.out.2, q13.out.1, q13.out.2, q14.out.1, q14.out.2, q15.out.1, q15.out.2, Bool.false_eq_true, Bool.or_true, Bool.true_or, Bool.or_false, Bool.or_self, if_true, if_false]
    ·
      go_wp2_with fail
      go_still_tail 7, (by kernel_rfl)
      go_wp2_with fail
      refine (h11.drew.flag (i := 4) (f := fun x => (⟨x3, x4, x6, true, x, 0, x8, 0, x9, 0, false, x10, 0⟩ : VD)) (fun _ => rfl) (by decide) (fun _ => h11.drew.ok)).mono ?_
      rintro e w12 ⟨rfl, x12, s12, q12, h12, k_⟩
      replace K := hd (kp3 K.out (kpd k_))
      clear k_ h11 c_hp c_ht c_hi c_hk
      have c_lg : w12.cell? ⟨g, 4, none⟩ = some (.bool x12) := h12.pd.blk.cell 4
      have c_ht : w12.cell? ⟨g, 6, none⟩ = some (.bool x8) := h12.pd.blk.cell 6
      have c_hi : w12.cell? ⟨g, 8, none⟩ = some (.bool x9) := h12.pd.blk.cell 8
      have c_hk : w12.cell? ⟨g, 11, none⟩ = some (.bool x10) := h12.pd.blk.cell 11
      cases x12
      ·
        go_wp2_with fail
        go_still_tail 8, (by kernel_rfl)
        go_wp2_with fail
        refine (h12.drew.num (i := 5) (f := fun x => (⟨x3, x4, x6, true, false, x, x8, 0, x9, 0, false, x10, 0⟩ : VD)) (fun _ => rfl) (by decide) (fun x hx => ⟨h12.drew.ok.1, hx, h12.drew.ok.2.2⟩) 7 7 rfl (by decide)).mono ?_
        rintro e w13 ⟨rfl, x13, s13, q13, h13, k_⟩
        replace K := hd (kp3 K.out (kpd k_))
        clear k_ h12 c_lg c_ht c_hi c_hk
        have c_ht : w13.cell? ⟨g, 6, none⟩ = some (.bool x8) := h13.pd.blk.cell 6
        have c_hi : w13.cell? ⟨g, 8, none⟩ = some (.bool x9) := h13.pd.blk.cell 8
        have c_hk : w13.cell? ⟨g, 11, none⟩ = some (.bool x10) := h13.pd.blk.cell 11
        cases x8
        ·
          cases x9
          ·
            cases x10
            ·
              go_wp2
              first | go_end0 | refine bodyPost_ret (results_none rfl _ _ _) rfl ?_
              refine ⟨rfl, s13, (⟨x3, x4, x6, true, false, x13, false, 0, false, 0, false, false, 0⟩ : VD), true, hd ?_, h13, K.out⟩
              clear K h13 c_ht c_hi c_hk
              simp only [visR, moreR, picR, tlR, tiR, VD.zero, RS.more1 q1.out.1, q1.out.1, q1.out.2, q2.out.1, q2.out.2, q3.out.1, q3.out.2, q4.out.1, q4.out.2, q5.out.1, q5.out.2, q6.out.1, q6.out.2, q7.out.1, q7.out.2, q8.out.1, q8.out.2, q9.out.1, q9.out.2, q10.out.1, q10.out.2, q11.out.1, q11.out.2, q12.out.1, q12.out.2, q13.out.1, q13.out.2, Bool.false_eq_true, Bool.or_true, Bool.true_or, Bool.or_false, Bool.or_self, if_true, if_false]
            ·
              go_wp2_with fail
              refine (h13.byte (i := 9) (c := 0) (f := fun x => (⟨x3, x4, x6, true, false, x13, false, 0, false, x, false, true, 0⟩ : VD)) rfl h13.ok.2.2.2.1 (fun _ => rfl) (by decide) (fun x hx => ⟨h13.ok.1, h13.ok.2.1, h13.ok.2.2.1, hx, h13.ok.2.2.2.2⟩) 2 2 rfl (by decide)).mono ?_
              rintro e w14 ⟨rfl, x14, s14, q14, h14, k_⟩
              replace K := hd (kp3 K.out k_)
              clear k_ h13 c_ht c_hi c_hk
              go_wp2_with fail
              go_still_tail 7, (by kernel_rfl)
              go_wp2_with fail
              refine (h14.drew.flag (i := 10) (f := fun x => (⟨x3, x4, x6, true, false, x13, false, 0, false, x14, x, true, 0⟩ : VD)) (fun _ => rfl) (by decide) (fun _ => h14.drew.ok)).mono ?_
              rintro e w15 ⟨rfl, x15, s15, q15, h15, k_⟩
              replace K := hd (kp3 K.out (kpd k_))
              clear k_ h14
              go_wp2_with fail
              refine (h15.byte (i := 12) (c := 0) (f := fun x => (⟨x3, x4, x6, true, false, x13, false, 0, false, x14, x15, true, x⟩ : VD)) rfl h15.ok.2.2.2.2 (fun _ => rfl) (by decide) (fun x hx => ⟨h15.ok.1, h15.ok.2.1, h15.ok.2.2.1, h15.ok.2.2.2.1, hx⟩) 5 5 rfl (by decide)).mono ?_
              rintro e w16 ⟨rfl, x16, s16, q16, h16, k_⟩
              replace K := hd (kp3 K.out k_)
              clear k_ h15
              go_wp2
              first | go_end0 | refine bodyPost_ret (results_none rfl _ _ _) rfl ?_
              refine ⟨rfl, s16, (⟨x3, x4, x6, true, false, x13, false, 0, false, x14, x15, true, x16⟩ : VD), true, hd ?_, h16, K.out⟩
              clear K h16
              simp only [visR, moreR, picR, tlR, tiR, VD.zero, RS.more1 q1.out.1, q1.out.1, q1.out.2, q2.out.1, q2.out.2, q3.out.1, q3.out.2, q4.out.1, q4.out.2, q5.out.1, q5.out.2, q6.out.1, q6.out.2, q7.out.1, q7.out.2, q8.out.1, q8.out.2, q9.out.1, q9.out.2, q10.out.1, q10.out.2, q11.out.1, q11.out.2, q12.out.1, q12.out.2, q13.out.1, q13.out.2, q14.out.1, q14.out.2, q15.out.1, q15.out.2, q16.out.1, q16.out.2, Bool.false_eq_true, Bool.or_true, Bool.true_or, Bool.or_false, Bool.or_self, if_true, if_false]
          ·
            go_wp2_with fail
            refine (h13.byte (i := 9) (c := 0) (f := fun x => (⟨x3, x4, x6, true, false, x13, false, 0, true, x, false, x10, 0⟩ : VD)) rfl h13.ok.2.2.2.1 (fun _ => rfl) (by decide) (fun x hx => ⟨h13.ok.1, h13.ok.2.1, h13.ok.2.2.1, hx, h13.ok.2.2.2.2⟩) 2 2 rfl (by decide)).mono ?_
            rintro e w14 ⟨rfl, x14, s14, q14, h14, k_⟩
            replace K := hd (kp3 K.out k_)
            clear k_ h13 c_ht c_hi c_hk
            go_wp2_with fail
            go_still_tail 7, (by kernel_rfl)
            go_wp2_with fail
            refine (h14.drew.flag (i := 10) (f := fun x => (⟨x3, x4, x6, true, false, x13, false, 0, true, x14, x, x10, 0⟩ : VD)) (fun _ => rfl) (by decide) (fun _ => h14.drew.ok)).mono ?_
            rintro e w15 ⟨rfl, x15, s15, q15, h15, k_⟩
            replace K := hd (kp3 K.out (kpd k_))
            clear k_ h14
            go_wp2_with fail
            refine (h15.byte (i := 12) (c := 0) (f := fun x => (⟨x3, x4, x6, true, false, x13, false, 0, true, x14, x15, x10, x⟩ : VD)) rfl h15.ok.2.2.2.2 (fun _ => rfl) (by decide) (fun x hx => ⟨h15.ok.1, h15.ok.2.1, h15.ok.2.2.1, h15.ok.2.2.2.1, hx⟩) 5 5 rfl (by decide)).mono ?_
            rintro e w16 ⟨rfl, x16, s16, q16, h16, k_⟩
            replace K := hd (kp3 K.out k_)
            clear k_ h15
            go_wp2
            first | go_end0 | refine bodyPost_ret (results_none rfl _ _ _) rfl ?_
            refine ⟨rfl, s16, (⟨x3, x4, x6, true, false, x13, false, 0, true, x14, x15, x10, x16⟩ : VD), true, hd ?_, h16, K.out⟩
            clear K h16
            simp only [visR, moreR, picR, tlR, tiR, VD.zero, RS.more1 q1.out.1, q1.out.1, q1.out.2, q2.out.1, q2.out.2, q3.out.1, q3.out.2, q4.out.1, q4.out.2, q5.out.1, q5.out.2, q6.out.1, q6.out.2, q7.out.1, q7.out.2, q8.out.1, q8.out.2, q9.out.1, q9.out.2, q10.out.1, q10.out.2, q11.out.1, q11.out.2, q12.out.1, q12.out.2, q13.out.1, q13.out.2, q14.out.1, q14.out.2, q15.out.1, q15.out.2, q16.out.1, q16.out.2, Bool.false_eq_true, Bool.or_true, Bool.true_or, Bool.or_false, Bool.or_self, if_true, if_false]
        ·
          go_wp2_with fail
          refine (h13.byte (i := 7) (c := 0) (f := fun x => (⟨x3, x4, x6, true, false, x13, true, x, x9, 0, false, x10, 0⟩ : VD)) rfl h13.ok.2.2.1 (fun _ => rfl) (by decide) (fun x hx => ⟨h13.ok.1, h13.ok.2.1, hx, h13.ok.2.2.2.1, h13.ok.2.2.2.2⟩) 8 8 rfl (by decide)).mono ?_
          rintro e w14 ⟨rfl, x14, s14, q14, h14, k_⟩
          replace K := hd (kp3 K.out k_)
          clear k_ h13 c_ht c_hi c_hk
          have c_hi : w14.cell? ⟨g, 8, none⟩ = some (.bool x9) := h14.pd.blk.cell 8
          have c_hk : w14.cell? ⟨g, 11, none⟩ = some (.bool x10) := h14.pd.blk.cell 11
          cases x9
          ·
            cases x10
            ·
              go_wp2
              first | go_end0 | refine bodyPost_ret (results_none rfl _ _ _) rfl ?_
              refine ⟨rfl, s14, (⟨x3, x4, x6, true, false, x13, true, x14, false, 0, false, false, 0⟩ : VD), true, hd ?_, h14, K.out⟩
              clear K h14 c_hi c_hk
              simp only [visR, moreR, picR, tlR, tiR, VD.zero, RS.more1 q1.out.1, q1.out.1, q1.out.2, q2.out.1, q2.out.2, q3.out.1, q3.out.2, q4.out.1, q4.out.2, q5.out.1, q5.out.2, q6.out.1, q6.out.2, q7.out.1, q7.out.2, q8.out.1, q8.out.2, q9.out.1, q9.out.2, q10.out.1, q10.out.2, q11.out.1, q11.out.2, q12.out.1, q12.out.2, q13.out.1, q13.out.2, q14.out.1, q14.out.2, Bool.false_eq_true, Bool.or_true, Bool.true_or, Bool.or_false, Bool.or_self, if_true, if_false]
            ·
              go_wp2_with fail
              refine (h14.byte (i := 9) (c := 0) (f := fun x => (⟨x3, x4, x6, true, false, x13, true, x14, false, x, false, true, 0⟩ : VD)) rfl h14.ok.2.2.2.1 (fun _ => rfl) (by decide) (fun x hx => ⟨h14.ok.1, h14.ok.2.1, h14.ok.2.2.1, hx, h14.ok.2.2.2.2⟩) 2 2 rfl (by decide)).mono ?_
              rintro e w15 ⟨rfl, x15, s15, q15, h15, k_⟩
              replace K := hd (kp3 K.out k_)
              clear k_ h14 c_hi c_hk
              go_wp2_with fail
              go_still_tail 7, (by kernel_rfl)
              go_wp2_with fail
              refine (h15.drew.flag (i := 10) (f := fun x => (⟨x3, x4, x6, true, false, x13, true, x14, false, x15, x, true, 0⟩ : VD)) (fun _ => rfl) (by decide) (fun _ => h15.drew.ok)).mono ?_
              rintro e w16 ⟨rfl, x16, s16, q16, h16, k_⟩
              replace K := hd (kp3 K.out (kpd k_))
              clear k_ h15
              go_wp2_with fail
              refine (h16.byte (i := 12) (c := 0) (f := fun x => (⟨x3, x4, x6, true, false, x13, true, x14, false, x15, x16, true, x⟩ : VD)) rfl h16.ok.2.2.2.2 (fun _ => rfl) (by decide) (fun x hx => ⟨h16.ok.1, h16.ok.2.1, h16.ok.2.2.1, h16.ok.2.2.2.1, hx⟩) 5 5 rfl (by decide)).mono ?_
              rintro e w17 ⟨rfl, x17, s17, q17, h17, k_⟩
              replace K := hd (kp3 K.out k_)
              clear k_ h16
              go_wp2
              first | go_end0 | refine bodyPost_ret (results_none rfl _ _ _) rfl ?_
              refine ⟨rfl, s17, (⟨x3, x4, x6, true, false, x13, true, x14, false, x15, x16, true, x17⟩ : VD), true, hd ?_, h17, K.out⟩
              clear K h17
              simp only [visR, moreR, picR, tlR, tiR, VD.zero, RS.more1 q1.out.1, q1.out.1, q1.out.2, q2.out.1, q2.out.2, q3.out.1, q3.out.2, q4.out.1, q4.out.2, q5.out.1, q5.out.2, q6.out.1, q6.out.2, q7.out.1, q7.out.2, q8.out.1, q8.out.2, q9.out.1, q9.out.2, q10.out.1, q10.out.2, q11.out.1, q11.out.2, q12.out.1, q12.out.2, q13.out.1, q13.out.2, q14.out.1, q14.out.2, q15.out.1, q15.out.2, q16.out.1, q16.out.2, q17.out.1, q17.out.2, Bool.false_eq_true, Bool.or_true, Bool.true_or, Bool.or_false, Bool.or_self, if_true, if_false]
          ·
            go_wp2_with fail
            refine (h14.byte (i := 9) (c := 0) (f := fun x => (⟨x3, x4, x6, true, false, x13, true, x14, true, x, false, x10, 0⟩ : VD)) rfl h14.ok.2.2.2.1 (fun _ => rfl) (by decide) (fun x hx => ⟨h14.ok.1, h14.ok.2.1, h14.ok.2.2.1, hx, h14.ok.2.2.2.2⟩) 2 2 rfl (by decide)).mono ?_
            rintro e w15 ⟨rfl, x15, s15, q15, h15, k_⟩
            replace K := hd (kp3 K.out k_)
            clear k_ h14 c_hi c_hk
            go_wp2_with fail
            go_still_tail 7, (by kernel_rfl)
            go_wp2_with fail
            refine (h15.drew.flag (i := 10) (f := fun x => (⟨x3, x4, x6, true, false, x13, true, x14, true, x15, x, x10, 0⟩ : VD)) (fun _ => rfl) (by decide) (fun _ => h15.drew.ok)).mono ?_
            rintro e w16 ⟨rfl, x16, s16, q16, h16, k_⟩
            replace K := hd (kp3 K.out (kpd k_))
            clear k_ h15
            go_wp2_with fail
            refine (h16.byte (i := 12) (c := 0) (f := fun x => (⟨x3, x4, x6, true, false, x13, true, x14, true, x15, x16, x10, x⟩ : VD)) rfl h16.ok.2.2.2.2 (fun _ => rfl) (by decide) (fun x hx => ⟨h16.ok.1, h16.ok.2.1, h16.ok.2.2.1, h16.ok.2.2.2.1, hx⟩) 5 5 rfl (by decide)).mono ?_
            rintro e w17 ⟨rfl, x17, s17, q17, h17, k_⟩
            replace K := hd (kp3 K.out k_)
            clear k_ h16
            go_wp2
            first | go_end0 | refine bodyPost_ret (results_none rfl _ _ _) rfl ?_
            refine ⟨rfl, s17, (⟨x3, x4, x6, true, false, x13, true, x14, true, x15, x16, x10, x17⟩ : VD), true, hd ?_, h17, K.out⟩
            clear K h17
            simp only [visR, moreR, picR, tlR, tiR, VD.zero, RS.more1 q1.out.1, q1.out.1, q1.out.2, q2.out.1, q2.out.2, q3.out.1, q3.out.2, q4.out.1, q4.out.2, q5.out.1, q5.out.2, q6.out.1, q6.out.2, q7.out.1, q7.out.2, q8.out.1, q8.out.2, q9.out.1, q9.out.2, q10.out.1, q10.out.2, q11.out.1, q11.out.2, q12.out.1, q12.out.2, q13.out.1, q13.out.2, q14.out.1, q14.out.2, q15.out.1, q15.out.2, q16.out.1, q16.out.2, q17.out.1, q17.out.2, Bool.false_eq_true, Bool.or_true, Bool.true_or, Bool.or_false, Bool.or_self, if_true, if_false]
      ·
        go_wp2_with fail
        go_still_tail 8, (by kernel_rfl)
        go_wp2_with fail
        refine (h12.drew.num (i := 5) (f := fun x => (⟨x3, x4, x6, true, true, x, x8, 0, x9, 0, false, x10, 0⟩ : VD)) (fun _ => rfl) (by decide) (fun x hx => ⟨h12.drew.ok.1, hx, h12.drew.ok.2.2⟩) 15 15 rfl (by decide)).mono ?_
        rintro e w13 ⟨rfl, x13, s13, q13, h13, k_⟩
        replace K := hd (kp3 K.out (kpd k_))
        clear k_ h12 c_lg c_ht c_hi c_hk
        have c_ht : w13.cell? ⟨g, 6, none⟩ = some (.bool x8) := h13.pd.blk.cell 6
        have c_hi : w13.cell? ⟨g, 8, none⟩ = some (.bool x9) := h13.pd.blk.cell 8
        have c_hk : w13.cell? ⟨g, 11, none⟩ = some (.bool x10) := h13.pd.blk.cell 11
        cases x8
        ·
          cases x9
          ·
            cases x10
            ·
              go_wp2
              first | go_end0 | refine bodyPost_ret (results_none rfl _ _ _) rfl ?_
              refine ⟨rfl, s13, (⟨x3, x4, x6, true, true, x13, false, 0, false, 0, false, false, 0⟩ : VD), true, hd ?_, h13, K.out⟩
              clear K h13 c_ht c_hi c_hk
              simp only [visR, moreR, picR, tlR, tiR, VD.zero, RS.more1 q1.out.1, q1.out.1, q1.out.2, q2.out.1, q2.out.2, q3.out.1, q3.out.2, q4.out.1, q4.out.2, q5.out.1, q5.out.2, q6.out.1, q6.out.2, q7.out.1, q7.out.2, q8.out.1, q8.out.2, q9.out.1, q9.out.2, q10.out.1, q10.out.2, q11.out.1, q11.out.2, q12.out.1, q12.out.2, q13.out.1, q13.out.2, Bool.false_eq_true, Bool.or_true, Bool.true_or, Bool.or_false, Bool.or_self, if_true, if_false]
            ·
              go_wp2_with fail
              refine (h13.byte (i := 9) (c := 0) (f := fun x => (⟨x3, x4, x6, true, true, x13, false, 0, false, x, false, true, 0⟩ : VD)) rfl h13.ok.2.2.2.1 (fun _ => rfl) (by decide) (fun x hx => ⟨h13.ok.1, h13.ok.2.1, h13.ok.2.2.1, hx, h13.ok.2.2.2.2⟩) 2 2 rfl (by decide)).mono ?_
              rintro e w14 ⟨rfl, x14, s14, q14, h14, k_⟩
              replace K := hd (kp3 K.out k_)
              clear k_ h13 c_ht c_hi c_hk
              go_wp2_with fail
              go_still_tail 7, (by kernel_rfl)
              go_wp2_with fail
              refine (h14.drew.flag (i := 10) (f := fun x => (⟨x3, x4, x6, true, true, x13, false, 0, false, x14, x, true, 0⟩ : VD)) (fun _ => rfl) (by decide) (fun _ => h14.drew.ok)).mono ?_
              rintro e w15 ⟨rfl, x15, s15, q15, h15, k_⟩
              replace K := hd (kp3 K.out (kpd k_))
              clear k_ h14
              go_wp2_with fail
              refine (h15.byte (i := 12) (c := 0) (f := fun x => (⟨x3, x4, x6, true, true, x13, false, 0, false, x14, x15, true, x⟩ : VD)) rfl h15.ok.2.2.2.2 (fun _ => rfl) (by decide) (fun x hx => ⟨h15.ok.1, h15.ok.2.1, h15.ok.2.2.1, h15.ok.2.2.2.1, hx⟩) 5 5 rfl (by decide)).mono ?_
              rintro e w16 ⟨rfl, x16, s16, q16, h16, k_⟩
              replace K := hd (kp3 K.out k_)
              clear k_ h15
              go_wp2
              first | go_end0 | refine bodyPost_ret (results_none rfl _ _ _) rfl ?_
              refine ⟨rfl, s16, (⟨x3, x4, x6, true, true, x13, false, 0, false, x14, x15, true, x16⟩ : VD), true, hd ?_, h16, K.out⟩
              clear K h16
              simp only [visR, moreR, picR, tlR, tiR, VD.zero, RS.more1 q1.out.1, q1.out.1, q1.out.2, q2.out.1, q2.out.2, q3.out.1, q3.out.2, q4.out.1, q4.out.2, q5.out.1, q5.out.2, q6.out.1, q6.out.2, q7.out.1, q7.out.2, q8.out.1, q8.out.2, q9.out.1, q9.out.2, q10.out.1, q10.out.2, q11.out.1, q11.out.2, q12.out.1, q12.out.2, q13.out.1, q13.out.2, q14.out.1, q14.out.2, q15.out.1, q15.out.2, q16.out.1, q16.out.2, Bool.false_eq_true, Bool.or_true, Bool.true_or, Bool.or_false, Bool.or_self, if_true, if_false]
          ·
            go_wp2_with fail
            refine (h13.byte (i := 9) (c := 0) (f := fun x => (⟨x3, x4, x6, true, true, x13, false, 0, true, x, false, x10, 0⟩ : VD)) rfl h13.ok.2.2.2.1 (fun _ => rfl) (by decide) (fun x hx => ⟨h13.ok.1, h13.ok.2.1, h13.ok.2.2.1, hx, h13.ok.2.2.2.2⟩) 2 2 rfl (by decide)).mono ?_
            rintro e w14 ⟨rfl, x14, s14, q14, h14, k_⟩
            replace K := hd (kp3 K.out k_)
            clear k_ h13 c_ht c_hi c_hk
            go_wp2_with fail
            go_still_tail 7, (by kernel_rfl)
            go_wp2_with fail
            refine (h14.drew.flag (i := 10) (f := fun x => (⟨x3, x4, x6, true, true, x13, false, 0, true, x14, x, x10, 0⟩ : VD)) (fun _ => rfl) (by decide) (fun _ => h14.drew.ok)).mono ?_
            rintro e w15 ⟨rfl, x15, s15, q15, h15, k_⟩
            replace K := hd (kp3 K.out (kpd k_))
            clear k_ h14
            go_wp2_with fail
            refine (h15.byte (i := 12) (c := 0) (f := fun x => (⟨x3, x4, x6, true, true, x13, false, 0, true, x14, x15, x10, x⟩ : VD)) rfl h15.ok.2.2.2.2 (fun _ => rfl) (by decide) (fun x hx => ⟨h15.ok.1, h15.ok.2.1, h15.ok.2.2.1, h15.ok.2.2.2.1, hx⟩) 5 5 rfl (by decide)).mono ?_
            rintro e w16 ⟨rfl, x16, s16, q16, h16, k_⟩
            replace K := hd (kp3 K.out k_)
            clear k_ h15
            go_wp2
            first | go_end0 | refine bodyPost_ret (results_none rfl _ _ _) rfl ?_
            refine ⟨rfl, s16, (⟨x3, x4, x6, true, true, x13, false, 0, true, x14, x15, x10, x16⟩ : VD), true, hd ?_, h16, K.out⟩
            clear K h16
            simp only [visR, moreR, picR, tlR, tiR, VD.zero, RS.more1 q1.out.1, q1.out.1, q1.out.2, q2.out.1, q2.out.2, q3.out.1, q3.out.2, q4.out.1, q4.out.2, q5.out.1, q5.out.2, q6.out.1, q6.out.2, q7.out.1, q7.out.2, q8.out.1, q8.out.2, q9.out.1, q9.out.2, q10.out.1, q10.out.2, q11.out.1, q11.out.2, q12.out.1, q12.out.2, q13.out.1, q13.out.2, q14.out.1, q14.out.2, q15.out.1, q15.out.2, q16.out.1, q16.out.2, Bool.false_eq_true, Bool.or_true, Bool.true_or, Bool.or_false, Bool.or_self, if_true, if_false]
        ·
          go_wp2_with fail
          refine (h13.byte (i := 7) (c := 0) (f := fun x => (⟨x3, x4, x6, true, true, x13, true, x, x9, 0, false, x10, 0⟩ : VD)) rfl h13.ok.2.2.1 (fun _ => rfl) (by decide) (fun x hx => ⟨h13.ok.1, h13.ok.2.1, hx, h13.ok.2.2.2.1, h13.ok.2.2.2.2⟩) 8 8 rfl (by decide)).mono ?_
          rintro e w14 ⟨rfl, x14, s14, q14, h14, k_⟩
          replace K := hd (kp3 K.out k_)
          clear k_ h13 c_ht c_hi c_hk
          have c_hi : w14.cell? ⟨g, 8, none⟩ = some (.bool x9) := h14.pd.blk.cell 8
          have c_hk : w14.cell? ⟨g, 11, none⟩ = some (.bool x10) := h14.pd.blk.cell 11
          cases x9
          ·
            cases x10
            ·
              go_wp2
              first | go_end0 | refine bodyPost_ret (results_none rfl _ _ _) rfl ?_
              refine ⟨rfl, s14, (⟨x3, x4, x6, true, true, x13, true, x14, false, 0, false, false, 0⟩ : VD), true, hd ?_, h14, K.out⟩
              clear K h14 c_hi c_hk
              simp only [visR, moreR, picR, tlR, tiR, VD.zero, RS.more1 q1.out.1, q1.out.1, q1.out.2, q2.out.1, q2.out.2, q3.out.1, q3.out.2, q4.out.1, q4.out.2, q5.out.1, q5.out.2, q6.out.1, q6.out.2, q7.out.1, q7.out.2, q8.out.1, q8.out.2, q9.out.1, q9.out.2, q10.out.1, q10.out.2, q11.out.1, q11.out.2, q12.out.1, q12.out.2, q13.out.1, q13.out.2, q14.out.1, q14.out.2, Bool.false_eq_true, Bool.or_true, Bool.true_or, Bool.or_false, Bool.or_self, if_true, if_false]
            ·
              go_wp2_with fail
              refine (h14.byte (i := 9) (c := 0) (f := fun x => (⟨x3, x4, x6, true, true, x13, true, x14, false, x, false, true, 0⟩ : VD)) rfl h14.ok.2.2.2.1 (fun _ => rfl) (by decide) (fun x hx => ⟨h14.ok.1, h14.ok.2.1, h14.ok.2.2.1, hx, h14.ok.2.2.2.2⟩) 2 2 rfl (by decide)).mono ?_
              rintro e w15 ⟨rfl, x15, s15, q15, h15, k_⟩
              replace K := hd (kp3 K.out k_)
              clear k_ h14 c_hi c_hk
              go_wp2_with fail
              go_still_tail 7, (by kernel_rfl)
              go_wp2_with fail
              refine (h15.drew.flag (i := 10) (f := fun x => (⟨x3, x4, x6, true, true, x13, true, x14, false, x15, x, true, 0⟩ : VD)) (fun _ => rfl) (by decide) (fun _ => h15.drew.ok)).mono ?_
              rintro e w16 ⟨rfl, x16, s16, q16, h16, k_⟩
              replace K := hd (kp3 K.out (kpd k_))
              clear k_ h15
              go_wp2_with fail
              refine (h16.byte (i := 12) (c := 0) (f := fun x => (⟨x3, x4, x6, true, true, x13, true, x14, false, x15, x16, true, x⟩ : VD)) rfl h16.ok.2.2.2.2 (fun _ => rfl) (by decide) (fun x hx => ⟨h16.ok.1, h16.ok.2.1, h16.ok.2.2.1, h16.ok.2.2.2.1, hx⟩) 5 5 rfl (by decide)).mono ?_
              rintro e w17 ⟨rfl, x17, s17, q17, h17, k_⟩
              replace K := hd (kp3 K.out k_)
              clear k_ h16
              go_wp2
              first | go_end0 | refine bodyPost_ret (results_none rfl _ _ _) rfl ?_
              refine ⟨rfl, s17, (⟨x3, x4, x6, true, true, x13, true, x14, false, x15, x16, true, x17⟩ : VD), true, hd ?_, h17, K.out⟩
              clear K h17
              simp only [visR, moreR, picR, tlR, tiR, VD.zero, RS.more1 q1.out.1, q1.out.1, q1.out.2, q2.out.1, q2.out.2, q3.out.1, q3.out.2, q4.out.1, q4.out.2, q5.out.1, q5.out.2, q6.out.1, q6.out.2, q7.out.1, q7.out.2, q8.out.1, q8.out.2, q9.out.1, q9.out.2, q10.out.1, q10.out.2, q11.out.1, q11.out.2, q12.out.1, q12.out.2, q13.out.1, q13.out.2, q14.out.1, q14.out.2, q15.out.1, q15.out.2, q16.out.1, q16.out.2, q17.out.1, q17.out.2, Bool.false_eq_true, Bool.or_true, Bool.true_or, Bool.or_false, Bool.or_self, if_true, if_false]
          ·
            go_wp2_with fail
            refine (h14.byte (i := 9) (c := 0) (f := fun x => (⟨x3, x4, x6, true, true, x13, true, x14, true, x, false, x10, 0⟩ : VD)) rfl h14.ok.2.2.2.1 (fun _ => rfl) (by decide) (fun x hx => ⟨h14.ok.1, h14.ok.2.1, h14.ok.2.2.1, hx, h14.ok.2.2.2.2⟩) 2 2 rfl (by decide)).mono ?_
            rintro e w15 ⟨rfl, x15, s15, q15, h15, k_⟩
            replace K := hd (kp3 K.out k_)
            clear k_ h14 c_hi c_hk
            go_wp2_with fail
            go_still_tail 7, (by kernel_rfl)
            go_wp2_with fail
            refine (h15.drew.flag (i := 10) (f := fun x => (⟨x3, x4, x6, true, true, x13, true, x14, true, x15, x, x10, 0⟩ : VD)) (fun _ => rfl) (by decide) (fun _ => h15.drew.ok)).mono ?_
            rintro e w16 ⟨rfl, x16, s16, q16, h16, k_⟩
            replace K := hd (kp3 K.out (kpd k_))
            clear k_ h15
            go_wp2_with fail
            refine (h16.byte (i := 12) (c := 0) (f := fun x => (⟨x3, x4, x6, true, true, x13, true, x14, true, x15, x16, x10, x⟩ : VD)) rfl h16.ok.2.2.2.2 (fun _ => rfl) (by decide) (fun x hx => ⟨h16.ok.1, h16.ok.2.1, h16.ok.2.2.1, h16.ok.2.2.2.1, hx⟩) 5 5 rfl (by decide)).mono ?_
            rintro e w17 ⟨rfl, x17, s17, q17, h17, k_⟩
            replace K := hd (kp3 K.out k_)
            clear k_ h16
            go_wp2
            first | go_end0 | refine bodyPost_ret (results_none rfl _ _ _) rfl ?_
            refine ⟨rfl, s17, (⟨x3, x4, x6, true, true, x13, true, x14, true, x15, x16, x10, x17⟩ : VD), true, hd ?_, h17, K.out⟩
            clear K h17
            simp only [visR, moreR, picR, tlR, tiR, VD.zero, RS.more1 q1.out.1, q1.out.1, q1.out.2, q2.out.1, q2.out.2, q3.out.1, q3.out.2, q4.out.1, q4.out.2, q5.out.1, q5.out.2, q6.out.1, q6.out.2, q7.out.1, q7.out.2, q8.out.1, q8.out.2, q9.out.1, q9.out.2, q10.out.1, q10.out.2, q11.out.1, q11.out.2, q12.out.1, q12.out.2, q13.out.1, q13.out.2, q14.out.1, q14.out.2, q15.out.1, q15.out.2, q16.out.1, q16.out.2, q17.out.1, q17.out.2, Bool.false_eq_true, Bool.or_true, Bool.true_or, Bool.or_false, Bool.or_self, if_true, if_false]
end Go.Proofs.Ythgjhdcifdfhoaa.V5

namespace Go.Proofs.Ythgjhdcifdfhoaa.V5
open Go.RowKit Go.Proofs.Ythgjhdcifdfhoaa
set_option linter.unusedVariables false

theorem Nx.al (w : World) (o : Obj) (p : Nat) (v : Value) : Nx w (w.alloc o) p v v := ⟨(Kp.refl _ _).alloc _, fun g hg => .inl hg⟩
theorem Nx.dr {w w' : World} {p : Nat} {v v' : Value} (h : Nx w.drew w' p v v') : Nx w w' p v v' := ⟨kpd (h.1.mono fun k hk hl => hk), h.2⟩
set_option maxRecDepth 100000 in
theorem pflag_any {w : World} {p g i : Nat} {v : Value} {D : List Nat} (h : W2 w p v D) (hg : g < w.heap.size) (x : Bool) (hc : w.cell? ⟨g, i, none⟩ = some (.bool x)) (hl : D.length ≤ 999999999900) :
    Calls Try.prog 133 #[.agg #[.pointer (some ⟨p, 0, none⟩)], .pointer (some ⟨g, i, none⟩)] w fun e w' => e = .returned (.tuple #[]) ∧ ∃ v', W2 w' p v' (D ++ [x.toNat]) ∧ Nx w w' p v v' := by
  have hc2 : ∀ o, (w.alloc o).cell? ⟨g, i, none⟩ = some (.bool x) := fun o => (World.cell?_alloc_lt w o _ hg).trans hc
  go_enter Try.func133, Try.ntmps133
  go_wp2_with fail
  obtain ⟨w1, hw1⟩ : ∃ w1, w1 = w.alloc (.cells #[.pointer (some ⟨p, 0, none⟩)] 164) := ⟨_, rfl⟩
  rw [← hw1]
  have c0 : w1.cell? ⟨w.heap.size, 0, none⟩ = some (.pointer (some ⟨p, 0, none⟩)) := by rw [hw1]; exact (Blk.new w _ _).cell 0
  have c1 : w1.cell? ⟨g, i, none⟩ = some (.bool x) := by rw [hw1]; exact hc2 _
  have hW1 : W2 w1 p v D := by rw [hw1]; exact h.alloc _
  have hN1 : Nx w w1 p v v := by rw [hw1]; exact Nx.al _ _ _ _
  clear hw1 hc2
  go_wp2_with fail
  go_still_tail 5, (by kernel_rfl)
  go_wp2_with fail
  refine (flag2 hW1.drew x hl).mono ?_
  rintro e w' ⟨rfl, v', hW, hN⟩
  go_wp2
  go_end0
  exact ⟨rfl, v', hW, hN1.trans (Nx.dr hN)⟩
set_option maxRecDepth 100000 in
theorem pnum_any {w : World} {p g i : Nat} {v : Value} {D : List Nat} (h : W2 w p v D) (hg : g < w.heap.size) (x : Nat) (hx : x < 65536) (hc : w.cell? ⟨g, i, none⟩ = some (.int .u16 (x : Int))) (c : Int) (k : Nat) (hk : pk c = k) (hl : D.length ≤ 999999999900) :
    Calls Try.prog 134 #[.agg #[.pointer (some ⟨p, 0, none⟩)], .pointer (some ⟨g, i, none⟩), .int .i64 c] w fun e w' => e = .returned (.tuple #[]) ∧ ∃ v', W2 w' p v' (D ++ ofn x k) ∧ Nx w w' p v v' := by
  have hc2 : ∀ o, (w.alloc o).cell? ⟨g, i, none⟩ = some (.int .u16 (x : Int)) := fun o => (World.cell?_alloc_lt w o _ hg).trans hc
  have hx64 : (x : Int) % 18446744073709551616 = x := by omega
  go_enter Try.func134, Try.ntmps134
  go_wp2_with fail
  obtain ⟨w1, hw1⟩ : ∃ w1, w1 = w.alloc (.cells #[.pointer (some ⟨p, 0, none⟩)] 164) := ⟨_, rfl⟩
  rw [← hw1]
  have c0 : w1.cell? ⟨w.heap.size, 0, none⟩ = some (.pointer (some ⟨p, 0, none⟩)) := by rw [hw1]; exact (Blk.new w _ _).cell 0
  have c1 : w1.cell? ⟨g, i, none⟩ = some (.int .u16 (x : Int)) := by rw [hw1]; exact hc2 _
  have hW1 : W2 w1 p v D := by rw [hw1]; exact h.alloc _
  have hN1 : Nx w w1 p v v := by rw [hw1]; exact Nx.al _ _ _ _
  clear hw1 hc2
  go_wp2_with fail
  go_still_tail 7, (by kernel_rfl)
  go_wp2_with fail
  refine (put2 hW1.drew _ x rfl (by omega) c k hk hl).mono ?_
  rintro e w' ⟨rfl, v', hW, hN⟩
  go_wp2
  go_end0
  exact ⟨rfl, v', hW, hN1.trans (Nx.dr hN)⟩
theorem meth_pnum (a : Addr) (w : World) : (method 304 164 (.agg #[.pointer (some a)]) "easel/vp8.number").run Try.prog w = .ok (134, .agg #[.pointer (some a)]) w := by kernel_rfl
theorem meth_pflag (a : Addr) (w : World) : (method 304 164 (.agg #[.pointer (some a)]) "easel/vp8.flag").run Try.prog w = .ok (133, .agg #[.pointer (some a)]) w := by kernel_rfl
theorem nil_pflag (a : Addr) (w : World) : (nilAhead 304 164 (.agg #[.pointer (some a)]) "easel/vp8.flag").run Try.prog w = .ok (some false) w := by kernel_rfl
theorem nil_pnum (a : Addr) (w : World) : (nilAhead 304 164 (.agg #[.pointer (some a)]) "easel/vp8.number").run Try.prog w = .ok (some false) w := by kernel_rfl
set_option maxRecDepth 100000 in
theorem spare_p {w : World} {p : Nat} {v : Value} {D : List Nat} (h : W2 w p v D) (c : Int) (k : Nat) (hk : pk c = k) (hl : D.length ≤ 999999999900) :
    Calls Try.prog 91 #[.iface 164 (.agg #[.pointer (some ⟨p, 0, none⟩)]), .int .i64 c] w fun e w' => e = .returned (.tuple #[]) ∧ ∃ v', W2 w' p v' (D ++ ofn 0 k) ∧ Nx w w' p v v' := by
  have hM := meth_pnum ⟨p, 0, none⟩
  go_enter Try.func91, Try.ntmps91
  go_wp2_with (go_at_call 134; refine (pnum_any (h.alloc _) (by simp) 0 (by decide) ((Blk.new w 25 #[.int .u16 0]).cell 0) c k hk hl).mono ?_; rintro e w' ⟨rfl, v', hW, hN⟩)
  go_end0
  exact ⟨rfl, v', hW, (Nx.al w _ p v).trans hN⟩
theorem set_same {cs : Array Value} {i : Nat} {u : Value} (h : cs[i]? = some u) : cs.setIfInBounds i u = cs := by
  obtain ⟨hi, he⟩ := Array.getElem?_eq_some_iff.1 h
  subst he
  exact Array.ext (by simp) (fun j h1 h2 => by
    rw [Array.getElem_setIfInBounds]
    split
    · rename_i e; subst e; rfl
    · rfl)
set_option maxRecDepth 100000 in
theorem byteOf_p {w : World} {p g i : Nat} {v : Value} {D : List Nat} {T : TypeId} {cs : Array Value} (h : W2 w p v D) (hb : Blk w g T cs) (hf : Far w p v g) (x : Nat) (hx : x < 256) (hc : cs[i]? = some (.int .u8 (x : Int))) (c : Int) (k : Nat) (hk : pk c = k) (hl : D.length ≤ 999999999900) :
    Calls Try.prog 92 #[.iface 164 (.agg #[.pointer (some ⟨p, 0, none⟩)]), .pointer (some ⟨g, i, none⟩), .int .i64 c] w fun e w' => e = .returned (.tuple #[]) ∧ ∃ v', W2 w' p v' (D ++ ofn x k) ∧ Blk w' g T cs ∧ Far w' p v' g ∧ (∀ q, Far w p v q → q ≠ g → Far w' p v' q ∧ w'.heap[q]? = w.heap[q]?) ∧ Kp (fun q => Far w p v q ∧ q ≠ g) w w' ∧ (∀ q, v'.ownBlock = some q → v.ownBlock = some q ∨ w.heap.size ≤ q) := by
  have hM := meth_pnum ⟨p, 0, none⟩
  have hce := (hb.cell i).trans hc
  have hx16 : (x : Int) % 65536 = x := by omega
  have hx8 : (x : Int) % 256 = x := by omega
  go_enter Try.func92, Try.ntmps92
  go_wp2_with (go_at_call 134; refine (pnum_any (h.alloc (.cells #[.int .u16 (x : Int)] 25)) (by simp) x (by omega) ((Blk.new w 25 #[.int .u16 (x : Int)]).cell 0) c k hk hl).mono ?_; rintro e w' ⟨rfl, v', hW, hN⟩; have hN' := (Nx.al w (.cells #[.int .u16 (x : Int)] 25) p v).trans hN; have hb' := hb.kp hN'.1 hf; have hf' := hf.next hN'; have hcw := (hb'.cell i).trans hc; have hfr := hb'.frozen i; have hcx := hN.cell (h.new (.cells #[.int .u16 (x : Int)] 25)) ((Blk.new w 25 #[.int .u16 (x : Int)]).cell 0))
  go_end0
  have hB := hb'.set i (.int .u8 (x : Int))
  rw [set_same hc] at hB
  have hS : Kp (fun q => q ≠ g) w' (w'.setCell ⟨g, i, none⟩ (.int .u8 (x : Int))) := (Kp.refl _ _).set_
  have hW2 : W2 (w'.setCell ⟨g, i, none⟩ (.int .u8 (x : Int))) p v' (D ++ ofn x k) := hW.kp hS (fun e => hf.2.1 e.symm) (fun q hq e => hf'.2.2 (by rw [hq, e]))
  have hsz : w'.heap.size ≤ (w'.setCell ⟨g, i, none⟩ (.int .u8 (x : Int))).heap.size := hS.size
  refine ⟨rfl, v', hW2, hB, hf'.size hsz, fun q hq hne => ⟨(hq.next hN').size hsz, ?_⟩, ?_, hN'.2⟩
  · rw [hS.block q hne (hq.next hN').1, hN'.1.block q hq hq.1]
  · exact (hN'.1.mono fun q hq _ => hq.1).next hS fun q hq _ => hq.2
end Go.Proofs.Ythgjhdcifdfhoaa.V5

namespace Go.Proofs.Ythgjhdcifdfhoaa.V5
open Go.RowKit Go.Proofs.Ythgjhdcifdfhoaa
set_option linter.unusedVariables false
set_option linter.unusedSimpArgs false

/-- A writer, a descriptor and the mark 'more' in memory; since w0 what lies below B is as it was. -/
structure VP (w0 : World) (B : Nat) (w : World) (p : Nat) (v : Value) (D : List Nat) (L g : Nat) (d : VD) (m : Nat) (b : Bool) : Prop where
  wr : W2 w p v D
  len : D.length ≤ L
  pd : Blk w g 31 (dv d)
  fd : Far w p v g
  pm : Blk w m 4 #[.bool b]
  fm : Far w p v m
  ne : g ≠ m
  ok : d.Ok
  lw : LW w0 w B v
  bp : B ≤ p
  bg : B ≤ g
section
variable {w0 w w' : World} {B p L g m : Nat} {v v' : Value} {D D' : List Nat} {d : VD} {b : Bool}
theorem VP.up (h : VP w0 B w p v D L g d m b) {L' : Nat} (hl : L ≤ L') : VP w0 B w p v D L' g d m b := { h with len := Nat.le_trans h.len hl }
theorem VP.drew (h : VP w0 B w p v D L g d m b) : VP w0 B w.drew p v D L g d m b := ⟨h.wr.drew, h.len, h.pd.drew, h.fd, h.pm.drew, h.fm, h.ne, h.ok, h.lw.drew, h.bp, h.bg⟩
theorem VP.next (h : VP w0 B w p v D L g d m b) (hw : W2 w' p v' D') (hl : D'.length ≤ L + 16) (hn : Nx w w' p v v') : VP w0 B w' p v' D' (L + 16) g d m b :=
  ⟨hw, hl, h.pd.kp hn.1 h.fd, h.fd.next hn, h.pm.kp hn.1 h.fm, h.fm.next hn, h.ne, h.ok, h.lw.next hn h.bp, h.bp, h.bg⟩
theorem bt_nat (x : Bool) : x.toNat = bt x := by cases x <;> rfl
theorem VP.flag (h : VP w0 B w p v D L g d m b) {i : Nat} {x : Bool} (hx : (dv d)[i]? = some (.bool x)) (hL : L ≤ 100000) :
    Calls Try.prog 133 #[.agg #[.pointer (some ⟨p, 0, none⟩)], .pointer (some ⟨g, i, none⟩)] w fun e w' => e = .returned (.tuple #[]) ∧ ∃ v' D', Hd (D ++ [bt x] = D') ∧ VP w0 B w' p v' D' (L + 16) g d m b := by
  refine (pflag_any h.wr h.pd.lt x ((h.pd.cell i).trans hx) (by have := h.len; omega)).mono ?_
  rintro e w' ⟨rfl, v', hW, hN⟩
  rw [bt_nat] at hW
  exact ⟨rfl, v', _, hd rfl, h.next hW (by rw [List.length_append, List.length_singleton]; have := h.len; omega) hN⟩
theorem VP.more (h : VP w0 B w p v D L g d m b) (hL : L ≤ 100000) :
    Calls Try.prog 133 #[.agg #[.pointer (some ⟨p, 0, none⟩)], .pointer (some ⟨m, 0, none⟩)] w fun e w' => e = .returned (.tuple #[]) ∧ ∃ v' D', Hd (D ++ [bt b] = D') ∧ VP w0 B w' p v' D' (L + 16) g d m b := by
  refine (pflag_any h.wr h.pm.lt b (h.pm.cell 0) (by have := h.len; omega)).mono ?_
  rintro e w' ⟨rfl, v', hW, hN⟩
  rw [bt_nat] at hW
  exact ⟨rfl, v', _, hd rfl, h.next hW (by rw [List.length_append, List.length_singleton]; have := h.len; omega) hN⟩
theorem VP.spare (h : VP w0 B w p v D L g d m b) (c : Int) (k : Nat) (hk : pk c = k) (hk6 : k ≤ 16) (hL : L ≤ 100000) :
    Calls Try.prog 91 #[.iface 164 (.agg #[.pointer (some ⟨p, 0, none⟩)]), .int .i64 c] w fun e w' => e = .returned (.tuple #[]) ∧ ∃ v' D', Hd (D ++ ofn 0 k = D') ∧ VP w0 B w' p v' D' (L + 16) g d m b := by
  refine (spare_p h.wr c k hk (by have := h.len; omega)).mono ?_
  rintro e w' ⟨rfl, v', hW, hN⟩
  exact ⟨rfl, v', _, hd rfl, h.next hW (by rw [List.length_append, ofn_length]; have := h.len; omega) hN⟩
theorem VP.num (h : VP w0 B w p v D L g d m b) {i x : Nat} (hx : (dv d)[i]? = some (.int .u16 (x : Int))) (hx6 : x < 65536) (c : Int) (k : Nat) (hk : pk c = k) (hk6 : k ≤ 16) (hL : L ≤ 100000) :
    Calls Try.prog 134 #[.agg #[.pointer (some ⟨p, 0, none⟩)], .pointer (some ⟨g, i, none⟩), .int .i64 c] w fun e w' => e = .returned (.tuple #[]) ∧ ∃ v' D', Hd (D ++ ofn x k = D') ∧ VP w0 B w' p v' D' (L + 16) g d m b := by
  refine (pnum_any h.wr h.pd.lt x hx6 ((h.pd.cell i).trans hx) c k hk (by have := h.len; omega)).mono ?_
  rintro e w' ⟨rfl, v', hW, hN⟩
  exact ⟨rfl, v', _, hd rfl, h.next hW (by rw [List.length_append, ofn_length]; have := h.len; omega) hN⟩
theorem VP.byte (h : VP w0 B w p v D L g d m b) {i x : Nat} (hx : (dv d)[i]? = some (.int .u8 (x : Int))) (hx8 : x < 256) (c : Int) (k : Nat) (hk : pk c = k) (hk6 : k ≤ 16) (hL : L ≤ 100000) :
    Calls Try.prog 92 #[.iface 164 (.agg #[.pointer (some ⟨p, 0, none⟩)]), .pointer (some ⟨g, i, none⟩), .int .i64 c] w fun e w' => e = .returned (.tuple #[]) ∧ ∃ v' D', Hd (D ++ ofn x k = D') ∧ VP w0 B w' p v' D' (L + 16) g d m b := by
  refine (byteOf_p h.wr h.pd h.fd x hx8 hx c k hk (by have := h.len; omega)).mono ?_
  rintro e w' ⟨rfl, v', hW, hB, hF, hQ, hK, hO⟩
  obtain ⟨hm1, hm2⟩ := hQ m h.fm h.ne.symm
  refine ⟨rfl, v', _, hd rfl, hW, ?_, hB, hF, hm2.trans h.pm, hm1, h.ne, h.ok, ⟨fun q hq => ?_, ?_, Nat.le_trans h.lw.size hK.size⟩, h.bp, h.bg⟩
  · rw [List.length_append, ofn_length]; have := h.len; omega
  · rcases hO q hq with hq | hq
    · exact h.lw.own q hq
    · exact Nat.le_trans h.lw.size hq
  · refine h.lw.kp.next hK (fun q hq hl => ⟨⟨Nat.lt_of_lt_of_le hl h.lw.kp.size, fun e => ?_, fun e => ?_⟩, fun e => ?_⟩)
    · have := h.bp; omega
    · have := h.lw.own q e.symm; omega
    · have := h.bg; omega
end
theorem ofn01 : ofn 0 1 = [0] := rfl
set_option maxHeartbeats 4000000 in
set_option maxRecDepth 100000 in
theorem visit_p {wz : World} {B : Nat} {w : World} {p : Nat} {v0 : Value} {g m : Nat} {d : VD} {b : Bool} (h0 : VP wz B w p v0 [] 0 g d m b) (hb : b = (d.hp || d.ht || d.hi || d.hk)) :
    Calls Try.prog 49 #[.pointer (some ⟨g, 0, none⟩), .iface 164 (.agg #[.pointer (some ⟨p, 0, none⟩)]), .pointer (some ⟨m, 0, none⟩)] w fun e w' => e = .returned (.tuple #[]) ∧ ∃ v' D', Hd (D' = digV d) ∧ VP wz B w' p v' D' 1000 g d m b := by
  have hM1 := meth_pnum ⟨p, 0, none⟩
  have hM2 := meth_pflag ⟨p, 0, none⟩
  have hN1 := nil_pnum ⟨p, 0, none⟩
  have hN2 := nil_pflag ⟨p, 0, none⟩
  obtain ⟨n, st, part, hp, lg, pic, ht, tl, hi, ti, sy, hk, ky⟩ := d
  have HB := hd hb
  clear hb
  go_enter Try.func49, Try.ntmps49
  go_wp2_with fail
  refine (h0.more (by decide)).mono ?_
  rintro e w1 ⟨rfl, v1, D1, q1, h1⟩
  go_wp2_with fail
  refine (h1.spare 1 1 rfl (by decide) (by decide)).mono ?_
  rintro e w2 ⟨rfl, v2, D2, q2, h2⟩
  clear h1
  go_wp2_with fail
  go_still_tail 7, (by kernel_rfl)
  go_wp2_with fail
  refine (h2.drew.flag (i := 0) (x := n) rfl (by decide)).mono ?_
  rintro e w3 ⟨rfl, v3, D3, q3, h3⟩
  clear h2
  go_wp2_with fail
  go_still_tail 7, (by kernel_rfl)
  go_wp2_with fail
  refine (h3.drew.flag (i := 1) (x := st) rfl (by decide)).mono ?_
  rintro e w4 ⟨rfl, v4, D4, q4, h4⟩
  clear h3
  go_wp2_with fail
  refine (h4.spare 1 1 rfl (by decide) (by decide)).mono ?_
  rintro e w5 ⟨rfl, v5, D5, q5, h5⟩
  clear h4
  go_wp2_with fail
  refine (h5.byte (i := 2) (x := part) rfl h5.ok.1 3 3 rfl (by decide) (by decide)).mono ?_
  rintro e w6 ⟨rfl, v6, D6, q6, h6⟩
  clear h5
  have c_b : w6.cell? ⟨m, 0, none⟩ = some (.bool b) := h6.pm.cell 0
  cases b
  ·
    go_wp2
    first | go_end0 | refine bodyPost_ret (results_none rfl _ _ _) rfl ?_
    refine ⟨rfl, v6, D6, hd ?_, h6.up (by decide)⟩
    have e_q1 := q1.out
    have e_q2 := q2.out
    have e_q3 := q3.out
    have e_q4 := q4.out
    have e_q5 := q5.out
    have e_q6 := q6.out
    clear h6 c_b h0
    have hb_ := HB.out
    simp only [digV, ← e_q6, ← e_q5, ← e_q4, ← e_q3, ← e_q2, ← e_q1, ofn01, ← hb_, Bool.or_true, Bool.true_or, Bool.or_false, Bool.false_or, Bool.or_self, Bool.false_eq_true, if_true, if_false, List.cons_append, List.nil_append, List.append_assoc, List.append_nil]
  ·
    go_wp2_with fail
    go_still_tail 7, (by kernel_rfl)
    go_wp2_with fail
    refine (h6.drew.flag (i := 3) (x := hp) rfl (by decide)).mono ?_
    rintro e w7 ⟨rfl, v7, D7, q7, h7⟩
    clear h6 c_b
    go_wp2_with fail
    go_still_tail 7, (by kernel_rfl)
    go_wp2_with fail
    refine (h7.drew.flag (i := 6) (x := ht) rfl (by decide)).mono ?_
    rintro e w8 ⟨rfl, v8, D8, q8, h8⟩
    clear h7
    go_wp2_with fail
    go_still_tail 7, (by kernel_rfl)
    go_wp2_with fail
    refine (h8.drew.flag (i := 8) (x := hi) rfl (by decide)).mono ?_
    rintro e w9 ⟨rfl, v9, D9, q9, h9⟩
    clear h8
    go_wp2_with fail
    go_still_tail 7, (by kernel_rfl)
    go_wp2_with fail
    refine (h9.drew.flag (i := 11) (x := hk) rfl (by decide)).mono ?_
    rintro e w10 ⟨rfl, v10, D10, q10, h10⟩
    clear h9
    go_wp2_with fail
    refine (h10.spare 4 4 rfl (by decide) (by decide)).mono ?_
    rintro e w11 ⟨rfl, v11, D11, q11, h11⟩
    clear h10
    have c_hp : w11.cell? ⟨g, 3, none⟩ = some (.bool hp) := h11.pd.cell 3
    have c_ht : w11.cell? ⟨g, 6, none⟩ = some (.bool ht) := h11.pd.cell 6
    have c_hi : w11.cell? ⟨g, 8, none⟩ = some (.bool hi) := h11.pd.cell 8
    have c_hk : w11.cell? ⟨g, 11, none⟩ = some (.bool hk) := h11.pd.cell 11
    cases hp
    ·
      cases ht
      ·
        cases hi
        ·
          cases hk
          ·
            exact absurd HB.out (by decide)
          ·
            go_wp2_with fail
            refine (h11.byte (i := 9) (x := ti) rfl h11.ok.2.2.2.1 2 2 rfl (by decide) (by decide)).mono ?_
            rintro e w12 ⟨rfl, v12, D12, q12, h12⟩
            clear h11 c_hp c_ht c_hi c_hk
            go_wp2_with fail
            go_still_tail 7, (by kernel_rfl)
            go_wp2_with fail
            refine (h12.drew.flag (i := 10) (x := sy) rfl (by decide)).mono ?_
            rintro e w13 ⟨rfl, v13, D13, q13, h13⟩
            clear h12
            go_wp2_with fail
            refine (h13.byte (i := 12) (x := ky) rfl h13.ok.2.2.2.2 5 5 rfl (by decide) (by decide)).mono ?_
            rintro e w14 ⟨rfl, v14, D14, q14, h14⟩
            clear h13
            go_wp2
            first | go_end0 | refine bodyPost_ret (results_none rfl _ _ _) rfl ?_
            refine ⟨rfl, v14, D14, hd ?_, h14.up (by decide)⟩
            have e_q1 := q1.out
            have e_q2 := q2.out
            have e_q3 := q3.out
            have e_q4 := q4.out
            have e_q5 := q5.out
            have e_q6 := q6.out
            have e_q7 := q7.out
            have e_q8 := q8.out
            have e_q9 := q9.out
            have e_q10 := q10.out
            have e_q11 := q11.out
            have e_q12 := q12.out
            have e_q13 := q13.out
            have e_q14 := q14.out
            clear h14 h0
            have hb_ := HB.out
            simp only [digV, ← e_q14, ← e_q13, ← e_q12, ← e_q11, ← e_q10, ← e_q9, ← e_q8, ← e_q7, ← e_q6, ← e_q5, ← e_q4, ← e_q3, ← e_q2, ← e_q1, ofn01, ← hb_, Bool.or_true, Bool.true_or, Bool.or_false, Bool.false_or, Bool.or_self, Bool.false_eq_true, if_true, if_false, List.cons_append, List.nil_append, List.append_assoc, List.append_nil]
        ·
          go_wp2_with fail
          refine (h11.byte (i := 9) (x := ti) rfl h11.ok.2.2.2.1 2 2 rfl (by decide) (by decide)).mono ?_
          rintro e w12 ⟨rfl, v12, D12, q12, h12⟩
          clear h11 c_hp c_ht c_hi c_hk
          go_wp2_with fail
          go_still_tail 7, (by kernel_rfl)
          go_wp2_with fail
          refine (h12.drew.flag (i := 10) (x := sy) rfl (by decide)).mono ?_
          rintro e w13 ⟨rfl, v13, D13, q13, h13⟩
          clear h12
          go_wp2_with fail
          refine (h13.byte (i := 12) (x := ky) rfl h13.ok.2.2.2.2 5 5 rfl (by decide) (by decide)).mono ?_
          rintro e w14 ⟨rfl, v14, D14, q14, h14⟩
          clear h13
          go_wp2
          first | go_end0 | refine bodyPost_ret (results_none rfl _ _ _) rfl ?_
          refine ⟨rfl, v14, D14, hd ?_, h14.up (by decide)⟩
          have e_q1 := q1.out
          have e_q2 := q2.out
          have e_q3 := q3.out
          have e_q4 := q4.out
          have e_q5 := q5.out
          have e_q6 := q6.out
          have e_q7 := q7.out
          have e_q8 := q8.out
          have e_q9 := q9.out
          have e_q10 := q10.out
          have e_q11 := q11.out
          have e_q12 := q12.out
          have e_q13 := q13.out
          have e_q14 := q14.out
          clear h14 h0
          have hb_ := HB.out
          simp only [digV, ← e_q14, ← e_q13, ← e_q12, ← e_q11, ← e_q10, ← e_q9, ← e_q8, ← e_q7, ← e_q6, ← e_q5, ← e_q4, ← e_q3, ← e_q2, ← e_q1, ofn01, ← hb_, Bool.or_true, Bool.true_or, Bool.or_false, Bool.false_or, Bool.or_self, Bool.false_eq_true, if_true, if_false, List.cons_append, List.nil_append, List.append_assoc, List.append_nil]
      ·
        go_wp2_with fail
        refine (h11.byte (i := 7) (x := tl) rfl h11.ok.2.2.1 8 8 rfl (by decide) (by decide)).mono ?_
        rintro e w12 ⟨rfl, v12, D12, q12, h12⟩
        clear h11 c_hp c_ht c_hi c_hk
        have c_hi : w12.cell? ⟨g, 8, none⟩ = some (.bool hi) := h12.pd.cell 8
        have c_hk : w12.cell? ⟨g, 11, none⟩ = some (.bool hk) := h12.pd.cell 11
        cases hi
        ·
          cases hk
          ·
            go_wp2
            first | go_end0 | refine bodyPost_ret (results_none rfl _ _ _) rfl ?_
            refine ⟨rfl, v12, D12, hd ?_, h12.up (by decide)⟩
            have e_q1 := q1.out
            have e_q2 := q2.out
            have e_q3 := q3.out
            have e_q4 := q4.out
            have e_q5 := q5.out
            have e_q6 := q6.out
            have e_q7 := q7.out
            have e_q8 := q8.out
            have e_q9 := q9.out
            have e_q10 := q10.out
            have e_q11 := q11.out
            have e_q12 := q12.out
            clear h12 c_hi c_hk h0
            have hb_ := HB.out
            simp only [digV, ← e_q12, ← e_q11, ← e_q10, ← e_q9, ← e_q8, ← e_q7, ← e_q6, ← e_q5, ← e_q4, ← e_q3, ← e_q2, ← e_q1, ofn01, ← hb_, Bool.or_true, Bool.true_or, Bool.or_false, Bool.false_or, Bool.or_self, Bool.false_eq_true, if_true, if_false, List.cons_append, List.nil_append, List.append_assoc, List.append_nil]
          ·
            go_wp2_with fail
            refine (h12.byte (i := 9) (x := ti) rfl h12.ok.2.2.2.1 2 2 rfl (by decide) (by decide)).mono ?_
            rintro e w13 ⟨rfl, v13, D13, q13, h13⟩
            clear h12 c_hi c_hk
            go_wp2_with fail
            go_still_tail 7, (by kernel_rfl)
            go_wp2_with fail
            refine (h13.drew.flag (i := 10) (x := sy) rfl (by decide)).mono ?_
            rintro e w14 ⟨rfl, v14, D14, q14, h14⟩
            clear h13
            go_wp2_with fail
            refine (h14.byte (i := 12) (x := ky) rfl h14.ok.2.2.2.2 5 5 rfl (by decide) (by decide)).mono ?_
            rintro e w15 ⟨rfl, v15, D15, q15, h15⟩
            clear h14
            go_wp2
            first | go_end0 | refine bodyPost_ret (results_none rfl _ _ _) rfl ?_
            refine ⟨rfl, v15, D15, hd ?_, h15.up (by decide)⟩
            have e_q1 := q1.out
            have e_q2 := q2.out
            have e_q3 := q3.out
            have e_q4 := q4.out
            have e_q5 := q5.out
            have e_q6 := q6.out
            have e_q7 := q7.out
            have e_q8 := q8.out
            have e_q9 := q9.out
            have e_q10 := q10.out
            have e_q11 := q11.out
            have e_q12 := q12.out
            have e_q13 := q13.out
            have e_q14 := q14.out
            have e_q15 := q15.out
            clear h15 h0
            have hb_ := HB.out
            simp only [digV, ← e_q15, ← e_q14, ← e_q13, ← e_q12, ← e_q11, ← e_q10, ← e_q9, ← e_q8, ← e_q7, ← e_q6, ← e_q5, ← e_q4, ← e_q3, ← e_q2, ← e_q1, ofn01, ← hb_, Bool.or_true, Bool.true_or, Bool.or_false, Bool.false_or, Bool.or_self, Bool.false_eq_true, if_true, if_false, List.cons_append, List.nil_append, List.append_assoc, List.append_nil]
        ·
          go_wp2_with fail
          refine (h12.byte (i := 9) (x := ti) rfl h12.ok.2.2.2.1 2 2 rfl (by decide) (by decide)).mono ?_
          rintro e w13 ⟨rfl, v13, D13, q13, h13⟩
          clear h12 c_hi c_hk
          go_wp2_with fail
          go_still_tail 7, (by kernel_rfl)
          go_wp2_with fail
          refine (h13.drew.flag (i := 10) (x := sy) rfl (by decide)).mono ?_
          rintro e w14 ⟨rfl, v14, D14, q14, h14⟩
          clear h13
          go_wp2_with fail
          refine (h14.byte (i := 12) (x := ky) rfl h14.ok.2.2.2.2 5 5 rfl (by decide) (by decide)).mono ?_
          rintro e w15 ⟨rfl, v15, D15, q15, h15⟩
          clear h14
          go_wp2
          first | go_end0 | refine bodyPost_ret (results_none rfl _ _ _) rfl ?_
          refine ⟨rfl, v15, D15, hd ?_, h15.up (by decide)⟩
          have e_q1 := q1.out
          have e_q2 := q2.out
          have e_q3 := q3.out
          have e_q4 := q4.out
          have e_q5 := q5.out
          have e_q6 := q6.out
          have e_q7 := q7.out
          have e_q8 := q8.out
          have e_q9 := q9.out
          have e_q10 := q10.out
          have e_q11 := q11.out
          have e_q12 := q12.out
          have e_q13 := q13.out
          have e_q14 := q14.out
          have e_q15 := q15.out
          clear h15 h0
          have hb_ := HB.out
          simp only [digV, ← e_q15, ← e_q14, ← e_q13, ← e_q12, ← e_q11, ← e_q10, ← e_q9, ← e_q8, ← e_q7, ← e_q6, ← e_q5, ← e_q4, ← e_q3, ← e_q2, ← e_q1, ofn01, ← hb_, Bool.or_true, Bool.true_or, Bool.or_false, Bool.false_or, Bool.or_self, Bool.false_eq_true, if_true, if_false, List.cons_append, List.nil_append, List.append_assoc, List.append_nil]
    ·
      go_wp2_with fail
      go_still_tail 7, (by kernel_rfl)
      go_wp2_with fail
      refine (h11.drew.flag (i := 4) (x := lg) rfl (by decide)).mono ?_
      rintro e w12 ⟨rfl, v12, D12, q12, h12⟩
      clear h11 c_hp c_ht c_hi c_hk
      have c_lg : w12.cell? ⟨g, 4, none⟩ = some (.bool lg) := h12.pd.cell 4
      have c_ht : w12.cell? ⟨g, 6, none⟩ = some (.bool ht) := h12.pd.cell 6
      have c_hi : w12.cell? ⟨g, 8, none⟩ = some (.bool hi) := h12.pd.cell 8
      have c_hk : w12.cell? ⟨g, 11, none⟩ = some (.bool hk) := h12.pd.cell 11
      cases lg
      ·
        go_wp2_with fail
        go_still_tail 8, (by kernel_rfl)
        go_wp2_with fail
        refine (h12.drew.num (i := 5) (x := pic) rfl h12.drew.ok.2.1 7 7 rfl (by decide) (by decide)).mono ?_
        rintro e w13 ⟨rfl, v13, D13, q13, h13⟩
        clear h12 c_lg c_ht c_hi c_hk
        have c_ht : w13.cell? ⟨g, 6, none⟩ = some (.bool ht) := h13.pd.cell 6
        have c_hi : w13.cell? ⟨g, 8, none⟩ = some (.bool hi) := h13.pd.cell 8
        have c_hk : w13.cell? ⟨g, 11, none⟩ = some (.bool hk) := h13.pd.cell 11
        cases ht
        ·
          cases hi
          ·
            cases hk
            ·
              go_wp2
              first | go_end0 | refine bodyPost_ret (results_none rfl _ _ _) rfl ?_
              refine ⟨rfl, v13, D13, hd ?_, h13.up (by decide)⟩
              have e_q1 := q1.out
              have e_q2 := q2.out
              have e_q3 := q3.out
              have e_q4 := q4.out
              have e_q5 := q5.out
              have e_q6 := q6.out
              have e_q7 := q7.out
              have e_q8 := q8.out
              have e_q9 := q9.out
              have e_q10 := q10.out
              have e_q11 := q11.out
              have e_q12 := q12.out
              have e_q13 := q13.out
              clear h13 c_ht c_hi c_hk h0
              have hb_ := HB.out
              simp only [digV, ← e_q13, ← e_q12, ← e_q11, ← e_q10, ← e_q9, ← e_q8, ← e_q7, ← e_q6, ← e_q5, ← e_q4, ← e_q3, ← e_q2, ← e_q1, ofn01, ← hb_, Bool.or_true, Bool.true_or, Bool.or_false, Bool.false_or, Bool.or_self, Bool.false_eq_true, if_true, if_false, List.cons_append, List.nil_append, List.append_assoc, List.append_nil]
            ·
              go_wp2_with fail
              refine (h13.byte (i := 9) (x := ti) rfl h13.ok.2.2.2.1 2 2 rfl (by decide) (by decide)).mono ?_
              rintro e w14 ⟨rfl, v14, D14, q14, h14⟩
              clear h13 c_ht c_hi c_hk
              go_wp2_with fail
              go_still_tail 7, (by kernel_rfl)
              go_wp2_with fail
              refine (h14.drew.flag (i := 10) (x := sy) rfl (by decide)).mono ?_
              rintro e w15 ⟨rfl, v15, D15, q15, h15⟩
              clear h14
              go_wp2_with fail
              refine (h15.byte (i := 12) (x := ky) rfl h15.ok.2.2.2.2 5 5 rfl (by decide) (by decide)).mono ?_
              rintro e w16 ⟨rfl, v16, D16, q16, h16⟩
              clear h15
              go_wp2
              first | go_end0 | refine bodyPost_ret (results_none rfl _ _ _) rfl ?_
              refine ⟨rfl, v16, D16, hd ?_, h16.up (by decide)⟩
              have e_q1 := q1.out
              have e_q2 := q2.out
              have e_q3 := q3.out
              have e_q4 := q4.out
              have e_q5 := q5.out
              have e_q6 := q6.out
              have e_q7 := q7.out
              have e_q8 := q8.out
              have e_q9 := q9.out
              have e_q10 := q10.out
              have e_q11 := q11.out
              have e_q12 := q12.out
              have e_q13 := q13.out
              have e_q14 := q14.out
              have e_q15 := q15.out
              have e_q16 := q16.out
              clear h16 h0
              have hb_ := HB.out
              simp only [digV, ← e_q16, ← e_q15, ← e_q14, ← e_q13, ← e_q12, ← e_q11, ← e_q10, ← e_q9, ← e_q8, ← e_q7, ← e_q6, ← e_q5, ← e_q4, ← e_q3, ← e_q2, ← e_q1, ofn01, ← hb_, Bool.or_true, Bool.true_or, Bool.or_false, Bool.false_or, Bool.or_self, Bool.false_eq_true, if_true, if_false, List.cons_append, List.nil_append, List.append_assoc, List.append_nil]
          ·
            go_wp2_with fail
            refine (h13.byte (i := 9) (x := ti) rfl h13.ok.2.2.2.1 2 2 rfl (by decide) (by decide)).mono ?_
            rintro e w14 ⟨rfl, v14, D14, q14, h14⟩
            clear h13 c_ht c_hi c_hk
            go_wp2_with fail
            go_still_tail 7, (by kernel_rfl)
            go_wp2_with fail
            refine (h14.drew.flag (i := 10) (x := sy) rfl (by decide)).mono ?_
            rintro e w15 ⟨rfl, v15, D15, q15, h15⟩
            clear h14
            go_wp2_with fail
            refine (h15.byte (i := 12) (x := ky) rfl h15.ok.2.2.2.2 5 5 rfl (by decide) (by decide)).mono ?_
            rintro e w16 ⟨rfl, v16, D16, q16, h16⟩
            clear h15
            go_wp2
            first | go_end0 | refine bodyPost_ret (results_none rfl _ _ _) rfl ?_
            refine ⟨rfl, v16, D16, hd ?_, h16.up (by decide)⟩
            have e_q1 := q1.out
            have e_q2 := q2.out
            have e_q3 := q3.out
            have e_q4 := q4.out
            have e_q5 := q5.out
            have e_q6 := q6.out
            have e_q7 := q7.out
            have e_q8 := q8.out
            have e_q9 := q9.out
            have e_q10 := q10.out
            have e_q11 := q11.out
            have e_q12 := q12.out
            have e_q13 := q13.out
            have e_q14 := q14.out
            have e_q15 := q15.out
            have e_q16 := q16.out
            clear h16 h0
            have hb_ := HB.out
            simp only [digV, ← e_q16, ← e_q15, ← e_q14, ← e_q13, ← e_q12, ← e_q11, ← e_q10, ← e_q9, ← e_q8, ← e_q7, ← e_q6, ← e_q5, ← e_q4, ← e_q3, ← e_q2, ← e_q1, ofn01, ← hb_, Bool.or_true, Bool.true_or, Bool.or_false, Bool.false_or, Bool.or_self, Bool.false_eq_true, if_true, if_false, List.cons_append, List.nil_append, List.append_assoc, List.append_nil]
        ·
          go_wp2_with fail
          refine (h13.byte (i := 7) (x := tl) rfl h13.ok.2.2.1 8 8 rfl (by decide) (by decide)).mono ?_
          rintro e w14 ⟨rfl, v14, D14, q14, h14⟩
          clear h13 c_ht c_hi c_hk
          have c_hi : w14.cell? ⟨g, 8, none⟩ = some (.bool hi) := h14.pd.cell 8
          have c_hk : w14.cell? ⟨g, 11, none⟩ = some (.bool hk) := h14.pd.cell 11
          cases hi
          ·
            cases hk
            ·
              go_wp2
              first | go_end0 | refine bodyPost_ret (results_none rfl _ _ _) rfl ?_
              refine ⟨rfl, v14, D14, hd ?_, h14.up (by decide)⟩
              have e_q1 := q1.out
              have e_q2 := q2.out
              have e_q3 := q3.out
              have e_q4 := q4.out
              have e_q5 := q5.out
              have e_q6 := q6.out
              have e_q7 := q7.out
              have e_q8 := q8.out
              have e_q9 := q9.out
              have e_q10 := q10.out
              have e_q11 := q11.out
              have e_q12 := q12.out
              have e_q13 := q13.out
              have e_q14 := q14.out
              clear h14 c_hi c_hk h0
              have hb_ := HB.out
              simp only [digV, ← e_q14, ← e_q13, ← e_q12, ← e_q11, ← e_q10, ← e_q9, ← e_q8, ← e_q7, ← e_q6, ← e_q5, ← e_q4, ← e_q3, ← e_q2, ← e_q1, ofn01, ← hb_, Bool.or_true, Bool.true_or, Bool.or_false, Bool.false_or, Bool.or_self, Bool.false_eq_true, if_true, if_false, List.cons_append, List.nil_append, List.append_assoc, List.append_nil]
            ·
              go_wp2_with fail
              refine (h14.byte (i := 9) (x := ti) rfl h14.ok.2.2.2.1 2 2 rfl (by decide) (by decide)).mono ?_
              rintro e w15 ⟨rfl, v15, D15, q15, h15⟩
              clear h14 c_hi c_hk
              go_wp2_with fail
              go_still_tail 7, (by kernel_rfl)
              go_wp2_with fail
              refine (h15.drew.flag (i := 10) (x := sy) rfl (by decide)).mono ?_
              rintro e w16 ⟨rfl, v16, D16, q16, h16⟩
              clear h15
              go_wp2_with fail
              refine (h16.byte (i := 12) (x := ky) rfl h16.ok.2.2.2.2 5 5 rfl (by decide) (by decide)).mono ?_
              rintro e w17 ⟨rfl, v17, D17, q17, h17⟩
              clear h16
              go_wp2
              first | go_end0 | refine bodyPost_ret (results_none rfl _ _ _) rfl ?_
              refine ⟨rfl, v17, D17, hd ?_, h17.up (by decide)⟩
              have e_q1 := q1.out
              have e_q2 := q2.out
              have e_q3 := q3.out
              have e_q4 := q4.out
              have e_q5 := q5.out
              have e_q6 := q6.out
              have e_q7 := q7.out
              have e_q8 := q8.out
              have e_q9 := q9.out
              have e_q10 := q10.out
              have e_q11 := q11.out
              have e_q12 := q12.out
              have e_q13 := q13.out
              have e_q14 := q14.out
              have e_q15 := q15.out
              have e_q16 := q16.out
              have e_q17 := q17.out
              clear h17 h0
              have hb_ := HB.out
              simp only [digV, ← e_q17, ← e_q16, ← e_q15, ← e_q14, ← e_q13, ← e_q12, ← e_q11, ← e_q10, ← e_q9, ← e_q8, ← e_q7, ← e_q6, ← e_q5, ← e_q4, ← e_q3, ← e_q2, ← e_q1, ofn01, ← hb_, Bool.or_true, Bool.true_or, Bool.or_false, Bool.false_or, Bool.or_self, Bool.false_eq_true, if_true, if_false, List.cons_append, List.nil_append, List.append_assoc, List.append_nil]
          ·
            go_wp2_with fail
            refine (h14.byte (i := 9) (x := ti) rfl h14.ok.2.2.2.1 2 2 rfl (by decide) (by decide)).mono ?_
            rintro e w15 ⟨rfl, v15, D15, q15, h15⟩
            clear h14 c_hi c_hk
            go_wp2_with fail
            go_still_tail 7, (by kernel_rfl)
            go_wp2_with fail
            refine (h15.drew.flag (i := 10) (x := sy) rfl (by decide)).mono ?_
            rintro e w16 ⟨rfl, v16, D16, q16, h16⟩
            clear h15
            go_wp2_with fail
            refine (h16.byte (i := 12) (x := ky) rfl h16.ok.2.2.2.2 5 5 rfl (by decide) (by decide)).mono ?_
            rintro e w17 ⟨rfl, v17, D17, q17, h17⟩
            clear h16
            go_wp2
            first | go_end0 | refine bodyPost_ret (results_none rfl _ _ _) rfl ?_
            refine ⟨rfl, v17, D17, hd ?_, h17.up (by decide)⟩
            have e_q1 := q1.out
            have e_q2 := q2.out
            have e_q3 := q3.out
            have e_q4 := q4.out
            have e_q5 := q5.out
            have e_q6 := q6.out
            have e_q7 := q7.out
            have e_q8 := q8.out
            have e_q9 := q9.out
            have e_q10 := q10.out
            have e_q11 := q11.out
            have e_q12 := q12.out
            have e_q13 := q13.out
            have e_q14 := q14.out
            have e_q15 := q15.out
            have e_q16 := q16.out
            have e_q17 := q17.out
            clear h17 h0
            have hb_ := HB.out
            simp only [digV, ← e_q17, ← e_q16, ← e_q15, ← e_q14, ← e_q13, ← e_q12, ← e_q11, ← e_q10, ← e_q9, ← e_q8, ← e_q7, ← e_q6, ← e_q5, ← e_q4, ← e_q3, ← e_q2, ← e_q1, ofn01, ← hb_, Bool.or_true, Bool.true_or, Bool.or_false, Bool.false_or, Bool.or_self, Bool.false_eq_true, if_true, if_false, List.cons_append, List.nil_append, List.append_assoc, List.append_nil]
      ·
        go_wp2_with fail
        go_still_tail 8, (by kernel_rfl)
        go_wp2_with fail
        refine (h12.drew.num (i := 5) (x := pic) rfl h12.drew.ok.2.1 15 15 rfl (by decide) (by decide)).mono ?_
        rintro e w13 ⟨rfl, v13, D13, q13, h13⟩
        clear h12 c_lg c_ht c_hi c_hk
        have c_ht : w13.cell? ⟨g, 6, none⟩ = some (.bool ht) := h13.pd.cell 6
        have c_hi : w13.cell? ⟨g, 8, none⟩ = some (.bool hi) := h13.pd.cell 8
        have c_hk : w13.cell? ⟨g, 11, none⟩ = some (.bool hk) := h13.pd.cell 11
        cases ht
        ·
          cases hi
          ·
            cases hk
            ·
              go_wp2
              first | go_end0 | refine bodyPost_ret (results_none rfl _ _ _) rfl ?_
              refine ⟨rfl, v13, D13, hd ?_, h13.up (by decide)⟩
              have e_q1 := q1.out
              have e_q2 := q2.out
              have e_q3 := q3.out
              have e_q4 := q4.out
              have e_q5 := q5.out
              have e_q6 := q6.out
              have e_q7 := q7.out
              have e_q8 := q8.out
              have e_q9 := q9.out
              have e_q10 := q10.out
              have e_q11 := q11.out
              have e_q12 := q12.out
              have e_q13 := q13.out
              clear h13 c_ht c_hi c_hk h0
              have hb_ := HB.out
              simp only [digV, ← e_q13, ← e_q12, ← e_q11, ← e_q10, ← e_q9, ← e_q8, ← e_q7, ← e_q6, ← e_q5, ← e_q4, ← e_q3, ← e_q2, ← e_q1, ofn01, ← hb_, Bool.or_true, Bool.true_or, Bool.or_false, Bool.false_or, Bool.or_self, Bool.false_eq_true, if_true, if_false, List.cons_append, List.nil_append, List.append_assoc, List.append_nil]
            ·
              go_wp2_with fail
              refine (h13.byte (i := 9) (x := ti) rfl h13.ok.2.2.2.1 2 2 rfl (by decide) (by decide)).mono ?_
              rintro e w14 ⟨rfl, v14, D14, q14, h14⟩
              clear h13 c_ht c_hi c_hk
              go_wp2_with fail
              go_still_tail 7, (by kernel_rfl)
              go_wp2_with fail
              refine (h14.drew.flag (i := 10) (x := sy) rfl (by decide)).mono ?_
              rintro e w15 ⟨rfl, v15, D15, q15, h15⟩
              clear h14
              go_wp2_with fail
              refine (h15.byte (i := 12) (x := ky) rfl h15.ok.2.2.2.2 5 5 rfl (by decide) (by decide)).mono ?_
              rintro e w16 ⟨rfl, v16, D16, q16, h16⟩
              clear h15
              go_wp2
              first | go_end0 | refine bodyPost_ret (results_none rfl _ _ _) rfl ?_
              refine ⟨rfl, v16, D16, hd ?_, h16.up (by decide)⟩
              have e_q1 := q1.out
              have e_q2 := q2.out
              have e_q3 := q3.out
              have e_q4 := q4.out
              have e_q5 := q5.out
              have e_q6 := q6.out
              have e_q7 := q7.out
              have e_q8 := q8.out
              have e_q9 := q9.out
              have e_q10 := q10.out
              have e_q11 := q11.out
              have e_q12 := q12.out
              have e_q13 := q13.out
              have e_q14 := q14.out
              have e_q15 := q15.out
              have e_q16 := q16.out
              clear h16 h0
              have hb_ := HB.out
              simp only [digV, ← e_q16, ← e_q15, ← e_q14, ← e_q13, ← e_q12, ← e_q11, ← e_q10, ← e_q9, ← e_q8, ← e_q7, ← e_q6, ← e_q5, ← e_q4, ← e_q3, ← e_q2, ← e_q1, ofn01, ← hb_, Bool.or_true, Bool.true_or, Bool.or_false, Bool.false_or, Bool.or_self, Bool.false_eq_true, if_true, if_false, List.cons_append, List.nil_append, List.append_assoc, List.append_nil]
          ·
            go_wp2_with fail
            refine (h13.byte (i := 9) (x := ti) rfl h13.ok.2.2.2.1 2 2 rfl (by decide) (by decide)).mono ?_
            rintro e w14 ⟨rfl, v14, D14, q14, h14⟩
            clear h13 c_ht c_hi c_hk
            go_wp2_with fail
            go_still_tail 7, (by kernel_rfl)
            go_wp2_with fail
            refine (h14.drew.flag (i := 10) (x := sy) rfl (by decide)).mono ?_
            rintro e w15 ⟨rfl, v15, D15, q15, h15⟩
            clear h14
            go_wp2_with fail
            refine (h15.byte (i := 12) (x := ky) rfl h15.ok.2.2.2.2 5 5 rfl (by decide) (by decide)).mono ?_
            rintro e w16 ⟨rfl, v16, D16, q16, h16⟩
            clear h15
            go_wp2
            first | go_end0 | refine bodyPost_ret (results_none rfl _ _ _) rfl ?_
            refine ⟨rfl, v16, D16, hd ?_, h16.up (by decide)⟩
            have e_q1 := q1.out
            have e_q2 := q2.out
            have e_q3 := q3.out
            have e_q4 := q4.out
            have e_q5 := q5.out
            have e_q6 := q6.out
            have e_q7 := q7.out
            have e_q8 := q8.out
            have e_q9 := q9.out
            have e_q10 := q10.out
            have e_q11 := q11.out
            have e_q12 := q12.out
            have e_q13 := q13.out
            have e_q14 := q14.out
            have e_q15 := q15.out
            have e_q16 := q16.out
            clear h16 h0
            have hb_ := HB.out
            simp only [digV, ← e_q16, ← e_q15, ← e_q14, ← e_q13, ← e_q12, ← e_q11, ← e_q10, ← e_q9, ← e_q8, ← e_q7, ← e_q6, ← e_q5, ← e_q4, ← e_q3, ← e_q2, ← e_q1, ofn01, ← hb_, Bool.or_true, Bool.true_or, Bool.or_false, Bool.false_or, Bool.or_self, Bool.false_eq_true, if_true, if_false, List.cons_append, List.nil_append, List.append_assoc, List.append_nil]
        ·
          go_wp2_with fail
          refine (h13.byte (i := 7) (x := tl) rfl h13.ok.2.2.1 8 8 rfl (by decide) (by decide)).mono ?_
          rintro e w14 ⟨rfl, v14, D14, q14, h14⟩
          clear h13 c_ht c_hi c_hk
          have c_hi : w14.cell? ⟨g, 8, none⟩ = some (.bool hi) := h14.pd.cell 8
          have c_hk : w14.cell? ⟨g, 11, none⟩ = some (.bool hk) := h14.pd.cell 11
          cases hi
          ·
            cases hk
            ·
              go_wp2
              first | go_end0 | refine bodyPost_ret (results_none rfl _ _ _) rfl ?_
              refine ⟨rfl, v14, D14, hd ?_, h14.up (by decide)⟩
              have e_q1 := q1.out
              have e_q2 := q2.out
              have e_q3 := q3.out
              have e_q4 := q4.out
              have e_q5 := q5.out
              have e_q6 := q6.out
              have e_q7 := q7.out
              have e_q8 := q8.out
              have e_q9 := q9.out
              have e_q10 := q10.out
              have e_q11 := q11.out
              have e_q12 := q12.out
              have e_q13 := q13.out
              have e_q14 := q14.out
              clear h14 c_hi c_hk h0
              have hb_ := HB.out
              simp only [digV, ← e_q14, ← e_q13, ← e_q12, ← e_q11, ← e_q10, ← e_q9, ← e_q8, ← e_q7, ← e_q6, ← e_q5, ← e_q4, ← e_q3, ← e_q2, ← e_q1, ofn01, ← hb_, Bool.or_true, Bool.true_or, Bool.or_false, Bool.false_or, Bool.or_self, Bool.false_eq_true, if_true, if_false, List.cons_append, List.nil_append, List.append_assoc, List.append_nil]
            ·
              go_wp2_with fail
              refine (h14.byte (i := 9) (x := ti) rfl h14.ok.2.2.2.1 2 2 rfl (by decide) (by decide)).mono ?_
              rintro e w15 ⟨rfl, v15, D15, q15, h15⟩
              clear h14 c_hi c_hk
              go_wp2_with fail
              go_still_tail 7, (by kernel_rfl)
              go_wp2_with fail
              refine (h15.drew.flag (i := 10) (x := sy) rfl (by decide)).mono ?_
              rintro e w16 ⟨rfl, v16, D16, q16, h16⟩
              clear h15
              go_wp2_with fail
              refine (h16.byte (i := 12) (x := ky) rfl h16.ok.2.2.2.2 5 5 rfl (by decide) (by decide)).mono ?_
              rintro e w17 ⟨rfl, v17, D17, q17, h17⟩
              clear h16
              go_wp2
              first | go_end0 | refine bodyPost_ret (results_none rfl _ _ _) rfl ?_
              refine ⟨rfl, v17, D17, hd ?_, h17.up (by decide)⟩
              have e_q1 := q1.out
              have e_q2 := q2.out
              have e_q3 := q3.out
              have e_q4 := q4.out
              have e_q5 := q5.out
              have e_q6 := q6.out
              have e_q7 := q7.out
              have e_q8 := q8.out
              have e_q9 := q9.out
              have e_q10 := q10.out
              have e_q11 := q11.out
              have e_q12 := q12.out
              have e_q13 := q13.out
              have e_q14 := q14.out
              have e_q15 := q15.out
              have e_q16 := q16.out
              have e_q17 := q17.out
              clear h17 h0
              have hb_ := HB.out
              simp only [digV, ← e_q17, ← e_q16, ← e_q15, ← e_q14, ← e_q13, ← e_q12, ← e_q11, ← e_q10, ← e_q9, ← e_q8, ← e_q7, ← e_q6, ← e_q5, ← e_q4, ← e_q3, ← e_q2, ← e_q1, ofn01, ← hb_, Bool.or_true, Bool.true_or, Bool.or_false, Bool.false_or, Bool.or_self, Bool.false_eq_true, if_true, if_false, List.cons_append, List.nil_append, List.append_assoc, List.append_nil]
          ·
            go_wp2_with fail
            refine (h14.byte (i := 9) (x := ti) rfl h14.ok.2.2.2.1 2 2 rfl (by decide) (by decide)).mono ?_
            rintro e w15 ⟨rfl, v15, D15, q15, h15⟩
            clear h14 c_hi c_hk
            go_wp2_with fail
            go_still_tail 7, (by kernel_rfl)
            go_wp2_with fail
            refine (h15.drew.flag (i := 10) (x := sy) rfl (by decide)).mono ?_
            rintro e w16 ⟨rfl, v16, D16, q16, h16⟩
            clear h15
            go_wp2_with fail
            refine (h16.byte (i := 12) (x := ky) rfl h16.ok.2.2.2.2 5 5 rfl (by decide) (by decide)).mono ?_
            rintro e w17 ⟨rfl, v17, D17, q17, h17⟩
            clear h16
            go_wp2
            first | go_end0 | refine bodyPost_ret (results_none rfl _ _ _) rfl ?_
            refine ⟨rfl, v17, D17, hd ?_, h17.up (by decide)⟩
            have e_q1 := q1.out
            have e_q2 := q2.out
            have e_q3 := q3.out
            have e_q4 := q4.out
            have e_q5 := q5.out
            have e_q6 := q6.out
            have e_q7 := q7.out
            have e_q8 := q8.out
            have e_q9 := q9.out
            have e_q10 := q10.out
            have e_q11 := q11.out
            have e_q12 := q12.out
            have e_q13 := q13.out
            have e_q14 := q14.out
            have e_q15 := q15.out
            have e_q16 := q16.out
            have e_q17 := q17.out
            clear h17 h0
            have hb_ := HB.out
            simp only [digV, ← e_q17, ← e_q16, ← e_q15, ← e_q14, ← e_q13, ← e_q12, ← e_q11, ← e_q10, ← e_q9, ← e_q8, ← e_q7, ← e_q6, ← e_q5, ← e_q4, ← e_q3, ← e_q2, ← e_q1, ofn01, ← hb_, Bool.or_true, Bool.true_or, Bool.or_false, Bool.false_or, Bool.or_self, Bool.false_eq_true, if_true, if_false, List.cons_append, List.nil_append, List.append_assoc, List.append_nil]
end Go.Proofs.Ythgjhdcifdfhoaa.V5
