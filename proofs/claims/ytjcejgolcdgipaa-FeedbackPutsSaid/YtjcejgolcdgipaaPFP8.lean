/- Texts of this session, one behind the other, what the row does not use left out: walks and laws over plain data. -/
import Derived.Test.YtjcejgolcdgipaaPFP3
import Derived.Test.YtjcejgolcdgipaaPFP7

namespace Go.Proofs.Ytjcejgolcdgipaa.K7
open Go.RowKit Go.Proofs.YtjcejgolcdgipaaW.PrintWords Go.Proofs.YtjcejgolcdgipaaW.PrintLast Go.Proofs.YtjcejgolcdgipaaW.PrintMore
set_option linter.unusedVariables false

/-- Elements of two numbers each, read. -/
theorem C2_at {α : Type} {d : Kd α} (hz : d.sz = 2) (f g : α → Value) (ho : ∀ {w x cs}, d.K w x cs → cs = [f x, g x]) {w : World} {A : Option Addr} {n : Nat} {xs : List α} (h : Kd.C d w A n xs) (k : Nat) (x : α) (hx : xs[k]? = some x) (hn : k < n) :
    ∃ b off, A = some ⟨b, off, none⟩ ∧ b < w.heap.size ∧ w.cell? ⟨b, off + k * 2, none⟩ = some (f x) ∧ w.cell? ⟨b, off + k * 2 + 1, none⟩ = some (g x) := by
  obtain ⟨ad, c, rfl, _, hK, hc⟩ := Kd.C_get h x (k : Int) (by omega) (by omega)
  rw [Int.toNat_natCast] at hK hc
  rw [List.getD_eq_getElem?_getD, hx, Option.getD_some] at hK
  obtain rfl := ho hK
  have h0 := hc 0 _ rfl
  have h1 := hc 1 _ rfl
  rw [hz] at h0 h1
  obtain ⟨ad', c', he, hl', _, hc'⟩ := Kd.C_get h x (0 : Int) (by omega) (by omega)
  injection he with he
  subst he
  obtain ⟨b, off, spot⟩ := ad
  have hspot : spot = none := by
    have hu : c'[0]? = some (c'[0]'(by omega)) := List.getElem?_eq_getElem (by omega)
    have := World.cell?_spot (hc' 0 _ hu)
    simpa [Addr.add] using this
  subst hspot
  rw [Addr.add_lit] at h0 h1
  exact ⟨b, off, rfl, World.block_lt_of_cell? w _ h0, h0, h1⟩
theorem C_low {α : Type} {d : Kd α} {w0 w : World} {A : Option Addr} {n : Nat} {xs : List α} (h : Kd.C d w0 A n xs) (hk : Kp (· < w0.heap.size) w0 w) : Kd.C d w A n xs := Kd.C_below h (hk.to_below (Nat.le_refl _) (fun _ h => h))
theorem C_all {α : Type} {d : Kd α} {w0 w : World} {A : Option Addr} {n : Nat} {xs : List α} (h : Kd.C d w0 A n xs) (hk : Kp (fun _ => True) w0 w) : Kd.C d w A n xs := Kd.C_below h (kp_below' hk)
/-- The digits of pairs, orders, sources. -/
def pairsD (l : List S82) : List Nat := l.flatMap fun x => ofn x.f0.toNat 16 ++ ofn x.f1.toNat 16
def ordersD (l : List S134) : List Nat := l.flatMap fun x => ofn x.f0.toNat 32 ++ ofn x.f1.toNat 8 ++ ofn 0 24
def sourcesD (l : List Int) : List Nat := l.flatMap fun x => ofn x.toNat 32
def Ok2 (l : List S82) : Prop := ∀ x ∈ l, (0 ≤ x.f0 ∧ x.f0 < 65536) ∧ (0 ≤ x.f1 ∧ x.f1 < 65536)
def OkO (l : List S134) : Prop := ∀ x ∈ l, (0 ≤ x.f0 ∧ x.f0 < 4294967296) ∧ (0 ≤ x.f1 ∧ x.f1 < 256)
instance (l : List S82) : Decidable (Ok2 l) := by unfold Ok2; exact inferInstance
instance (l : List S134) : Decidable (OkO l) := by unfold OkO; exact inferInstance
theorem flat_len {α : Type} (f : α → List Nat) (n : Nat) (h : ∀ x, (f x).length = n) (l : List α) : (l.flatMap f).length = n * l.length := by
  induction l with
  | nil => rfl
  | cons x l ih => rw [List.flatMap_cons, List.length_append, ih, h, List.length_cons, Nat.mul_succ]; omega
theorem pairsD_length (l : List S82) : (pairsD l).length = 32 * l.length := flat_len _ 32 (fun x => by rw [List.length_append, ofn_length, ofn_length]) l
theorem ordersD_length (l : List S134) : (ordersD l).length = 64 * l.length := flat_len _ 64 (fun x => by simp [ofn_length]) l
theorem sourcesD_length (l : List Int) : (sourcesD l).length = 32 * l.length := flat_len _ 32 (fun x => ofn_length _ _) l
theorem nx_alloc {w w' : World} {p : Nat} {v v' : Value} (h : Nx w w' p v v') (o : Obj) : Nx w (w'.alloc o) p v v' := ⟨h.1.alloc o, h.2⟩
theorem nx_drew {w w' : World} {p : Nat} {v v' : Value} (h : Nx w w' p v v') : Nx w w'.drew p v v' := ⟨h.1.drew, h.2⟩
theorem nx_refl (w : World) (p : Nat) (v : Value) : Nx w w p v v := ⟨Kp.refl _ _, fun _ hg => .inl hg⟩
/-- A writer beside a block that it leaves alone. -/
theorem far_nx3 {w w' : World} {p : Nat} {v v' : Value} {b : Nat} {c0 c1 c2 : Value} (hf : Far w p v b) (hn : Nx w w' p v v') (hc : w.cell? ⟨b, 5, none⟩ = some c0 ∧ w.cell? ⟨b, 6, none⟩ = some c1 ∧ w.cell? ⟨b, 7, none⟩ = some c2) : w'.cell? ⟨b, 5, none⟩ = some c0 ∧ w'.cell? ⟨b, 6, none⟩ = some c1 ∧ w'.cell? ⟨b, 7, none⟩ = some c2 := ⟨hn.cell hf hc.1, hn.cell hf hc.2.1, hn.cell hf hc.2.2⟩
theorem far_nx {w w' : World} {p : Nat} {v v' : Value} {b : Nat} {c0 c1 : Value} (hf : Far w p v b) (hn : Nx w w' p v v') (hc : w.cell? ⟨b, 0, none⟩ = some c0 ∧ w.cell? ⟨b, 1, none⟩ = some c1) : w'.cell? ⟨b, 0, none⟩ = some c0 ∧ w'.cell? ⟨b, 1, none⟩ = some c1 := ⟨hn.cell hf hc.1, hn.cell hf hc.2⟩
theorem new_two (w : World) (a b : Value) (t : TypeId) : (w.alloc (.cells #[a, b] t)).drew.cell? ⟨w.heap.size, 0, none⟩ = some a ∧ (w.alloc (.cells #[a, b] t)).drew.cell? ⟨w.heap.size, 1, none⟩ = some b := ⟨(Blk.new w t #[a, b]).cell 0, (Blk.new w t #[a, b]).cell 1⟩
set_option maxHeartbeats 2000000 in
set_option maxRecDepth 100000 in
theorem putPairs_any {w0 w : World} {p : Nat} {v : Value} {D : List Nat} (h : W2 w p v D) (L : LW w0 w w0.heap.size v) (hp : w0.heap.size ≤ p) (s sd md e mn : Int) (vo vs : Value) (hvo : ∃ a n c, vo = .slice a n c) (hvs : ∃ a n c, vs = .slice a n c)
    {A : Option Addr} {c : Nat} {l : List S82} (hC : Kd.C k82 w0 A l.length l) (ho : Ok2 l) (hl : l.length ≤ 1000000) (hD : D.length ≤ 1000) :
    Calls Try.prog 99 #[.agg #[.int .u8 s, .int .u32 sd, .int .u32 md, .slice A l.length c, vo, .int .u8 e, .int .u32 mn, vs], .pointer (some ⟨p, 0, none⟩)] w fun e_ w' =>
      e_ = .returned (.tuple #[]) ∧ ∃ v', W2 w' p v' (D ++ pairsD l) ∧ Nx w w' p v v' := by
  obtain ⟨a4, n4, c4, rfl⟩ := hvo
  obtain ⟨a7, n7, c7, rfl⟩ := hvs
  have L1 := nx_alloc (nx_refl w p v) (.cells #[.int .u8 s, .int .u32 sd, .int .u32 md, .slice A l.length c, .slice a4 n4 c4, .int .u8 e, .int .u32 mn, .slice a7 n7 c7] 52)
  have h1 := h.alloc (.cells #[.int .u8 s, .int .u32 sd, .int .u32 md, .slice A l.length c, .slice a4 n4 c4, .int .u8 e, .int .u32 mn, .slice a7 n7 c7] 52)
  go_enter Try.func99, Try.ntmps99
  go_wp2
  go_loopw [9] (fun iv wr => ∃ (k : Nat) (v1 : Value), k ≤ l.length ∧ iv = .int .i64 k ∧ W2 wr p v1 (D ++ pairsD (l.take k)) ∧ Nx w wr p v v1) (fun iv _ => l.length - (intOf iv).toNat)
  case atStart => exact ⟨0, v, Nat.zero_le _, rfl, by simpa [pairsD] using h1, L1⟩
  case round =>
    obtain ⟨k, v1, hk, rfl, hW, hL⟩ := hrel
    by_cases hlt : k < l.length
    · have hx := List.getElem?_eq_getElem hlt
      have hox := ho _ (List.getElem_mem hlt)
      have HTK : Hd (pairsD (l.take (k + 1)) = pairsD (l.take k) ++ (ofn l[k].f0.toNat 16 ++ ofn l[k].f1.toNat 16)) := hd (by unfold pairsD; rw [List.take_succ_eq_append_getElem hlt, List.flatMap_append]; simp only [List.flatMap_cons, List.flatMap_nil, List.append_nil])
      have hle : Hd ((D ++ pairsD (l.take k)).length ≤ 90000000) := hd (by rw [List.length_append, pairsD_length, List.length_take]; omega)
      obtain ⟨b, off, rfl, hb, hc0, hc1⟩ := C2_at rfl _ _ (fun h => k82_open h) (C_low hC (L.next hL hp).kp) k _ hx hlt
      generalize l[k] = x at *
      obtain ⟨x0, x1⟩ := x
      simp only at hox HTK hc0 hc1
      obtain ⟨⟨p0, p1⟩, p2, p3⟩ := hox
      obtain ⟨y0, rfl⟩ := Int.eq_ofNat_of_zero_le p0
      obtain ⟨y1, rfl⟩ := Int.eq_ofNat_of_zero_le p2
      have HTK := hd HTK.out
      simp only [Int.toNat_natCast] at HTK
      clear hx
      have hw1 : IntKind.u64.wrap (y0 : Int) = y0 := IntWalk.u64_in _ (by omega)
      have hw2 : IntKind.u64.wrap (y1 : Int) = y1 := IntWalk.u64_in _ (by omega)
      have P3 := (hW.alloc (.cells #[.int .u16 (y0 : Int), .int .u16 (y1 : Int)] 82)).drew
      have L3 := nx_drew (nx_alloc hL (.cells #[.int .u16 (y0 : Int), .int .u16 (y1 : Int)] 82))
      have F3 : Far (wr.alloc (.cells #[.int .u16 (y0 : Int), .int .u16 (y1 : Int)] 82)).drew p v1 wr.heap.size := hW.new _
      have s3 := new_two wr (.int .u16 (y0 : Int)) (.int .u16 (y1 : Int)) 82
      go_wp2_with fail
      go_region_held3 (fun W => W.cell? ⟨wr.heap.size, 0, none⟩ = some (.int .u16 (y0 : Int)) ∧ W.cell? ⟨wr.heap.size, 1, none⟩ = some (.int .u16 (y1 : Int)))
        (first | exact s3 | exact s4 | exact s5)
        (first
          | (go_at_call_of 84 (Value.int .u64 (y0 : Int)); refine (put2 P3 _ y0 rfl (by omega) _ 16 (pk_nat 16 (by omega)) (by have := hle.out; omega)).mono ?_; (rintro e_ w4 ⟨rfl, v4, hW4, hN4⟩); have L4 := L3.trans hN4; have F4 := F3.next hN4; have s4 := far_nx F3 hN4 s3)
          | (go_at_call_of 84 (Value.int .u64 (y1 : Int)); refine (put2 hW4 _ y1 rfl (by omega) _ 16 (pk_nat 16 (by omega)) (by rw [List.length_append, ofn_length]; have := hle.out; omega)).mono ?_; (rintro e_ w5 ⟨rfl, v5, hW5, hN5⟩); have L5 := L4.trans hN5; have s5 := far_nx F4 hN5 s4))
      all_goals
        go_wp2
        go_roundw
        case rel => exact ⟨k + 1, v5, by omega, by go_num, by rw [HTK.out]; simpa only [List.append_assoc] using hW5, L5⟩
        case measure => simp [intOf]; omega
    · obtain rfl : k = l.length := by omega
      rw [List.take_length] at hW
      go_wp2
      go_end0
      exact ⟨rfl, v1, hW, hL⟩
set_option maxHeartbeats 2000000 in
set_option maxRecDepth 100000 in
theorem putOrders_any {w0 w : World} {p : Nat} {v : Value} {D : List Nat} (h : W2 w p v D) (L : LW w0 w w0.heap.size v) (hp : w0.heap.size ≤ p) (s sd md e mn : Int) (vq vs : Value) (hvo : ∃ a n c, vq = .slice a n c) (hvs : ∃ a n c, vs = .slice a n c)
    {A : Option Addr} {c : Nat} {l : List S134} (hC : Kd.C k134 w0 A l.length l) (ho : OkO l) (hl : l.length ≤ 1000000) (hD : D.length ≤ 1000) :
    Calls Try.prog 105 #[.agg #[.int .u8 s, .int .u32 sd, .int .u32 md, vq, .slice A l.length c, .int .u8 e, .int .u32 mn, vs], .pointer (some ⟨p, 0, none⟩)] w fun e_ w' =>
      e_ = .returned (.tuple #[]) ∧ ∃ v', W2 w' p v' (D ++ ordersD l) ∧ Nx w w' p v v' := by
  obtain ⟨a4, n4, c4, rfl⟩ := hvo
  obtain ⟨a7, n7, c7, rfl⟩ := hvs
  have L1 := nx_alloc (nx_refl w p v) (.cells #[.int .u8 s, .int .u32 sd, .int .u32 md, .slice a4 n4 c4, .slice A l.length c, .int .u8 e, .int .u32 mn, .slice a7 n7 c7] 52)
  have h1 := h.alloc (.cells #[.int .u8 s, .int .u32 sd, .int .u32 md, .slice a4 n4 c4, .slice A l.length c, .int .u8 e, .int .u32 mn, .slice a7 n7 c7] 52)
  go_enter Try.func105, Try.ntmps105
  go_wp2
  go_loopw [9] (fun iv wr => ∃ (k : Nat) (v1 : Value), k ≤ l.length ∧ iv = .int .i64 k ∧ W2 wr p v1 (D ++ ordersD (l.take k)) ∧ Nx w wr p v v1) (fun iv _ => l.length - (intOf iv).toNat)
  case atStart => exact ⟨0, v, Nat.zero_le _, rfl, by simpa [ordersD] using h1, L1⟩
  case round =>
    obtain ⟨k, v1, hk, rfl, hW, hL⟩ := hrel
    by_cases hlt : k < l.length
    · have hx := List.getElem?_eq_getElem hlt
      have hox := ho _ (List.getElem_mem hlt)
      have HTK : Hd (ordersD (l.take (k + 1)) = ordersD (l.take k) ++ (ofn l[k].f0.toNat 32 ++ ofn l[k].f1.toNat 8 ++ ofn 0 24)) := hd (by unfold ordersD; rw [List.take_succ_eq_append_getElem hlt, List.flatMap_append]; simp only [List.flatMap_cons, List.flatMap_nil, List.append_nil])
      have hle : Hd ((D ++ ordersD (l.take k)).length ≤ 90000000) := hd (by rw [List.length_append, ordersD_length, List.length_take]; omega)
      obtain ⟨b, off, rfl, hb, hc0, hc1⟩ := C2_at rfl _ _ (fun h => k134_open h) (C_low hC (L.next hL hp).kp) k _ hx hlt
      generalize l[k] = x at *
      obtain ⟨x0, x1⟩ := x
      simp only at hox HTK hc0 hc1
      obtain ⟨⟨p0, p1⟩, p2, p3⟩ := hox
      obtain ⟨y0, rfl⟩ := Int.eq_ofNat_of_zero_le p0
      obtain ⟨y1, rfl⟩ := Int.eq_ofNat_of_zero_le p2
      have HTK := hd HTK.out
      simp only [Int.toNat_natCast] at HTK
      clear hx
      have hw1 : IntKind.u64.wrap (y0 : Int) = y0 := IntWalk.u64_in _ (by omega)
      have hw2 : IntKind.u64.wrap (y1 : Int) = y1 := IntWalk.u64_in _ (by omega)
      have P3 := (hW.alloc (.cells #[.int .u32 (y0 : Int), .int .u8 (y1 : Int)] 134)).drew
      have L3 := nx_drew (nx_alloc hL (.cells #[.int .u32 (y0 : Int), .int .u8 (y1 : Int)] 134))
      have F3 : Far (wr.alloc (.cells #[.int .u32 (y0 : Int), .int .u8 (y1 : Int)] 134)).drew p v1 wr.heap.size := hW.new _
      have s3 := new_two wr (.int .u32 (y0 : Int)) (.int .u8 (y1 : Int)) 134
      go_wp2_with fail
      go_region_held3 (fun W => W.cell? ⟨wr.heap.size, 0, none⟩ = some (.int .u32 (y0 : Int)) ∧ W.cell? ⟨wr.heap.size, 1, none⟩ = some (.int .u8 (y1 : Int)))
        (first | exact s3 | exact s4 | exact s5 | exact s6)
        (first
          | (go_at_call_of 84 (Value.int .u64 (y0 : Int)); refine (put2 P3 _ y0 rfl (by omega) _ 32 (pk_nat 32 (by omega)) (by have := hle.out; omega)).mono ?_; (rintro e_ w4 ⟨rfl, v4, hW4, hN4⟩); have L4 := L3.trans hN4; have F4 := F3.next hN4; have s4 := far_nx F3 hN4 s3)
          | (go_at_call_of 84 (Value.int .u64 (y1 : Int)); refine (put2 hW4 _ y1 rfl (by omega) _ 8 (pk_nat 8 (by omega)) (by rw [List.length_append, ofn_length]; have := hle.out; omega)).mono ?_; (rintro e_ w5 ⟨rfl, v5, hW5, hN5⟩); have L5 := L4.trans hN5; have F5 := F4.next hN5; have s5 := far_nx F4 hN5 s4)
          | (go_at_call_of 84 (Value.int .u64 0); refine (put2 hW5 _ 0 rfl (by omega) _ 24 (pk_nat 24 (by omega)) (by rw [List.length_append, List.length_append, ofn_length, ofn_length]; have := hle.out; omega)).mono ?_; (rintro e_ w6 ⟨rfl, v6, hW6, hN6⟩); have L6 := L5.trans hN6; have s6 := far_nx F5 hN6 s5))
      all_goals
        go_wp2
        go_roundw
        case rel => exact ⟨k + 1, v6, by omega, by go_num, by rw [HTK.out]; simpa only [List.append_assoc] using hW6, L6⟩
        case measure => simp [intOf]; omega
    · obtain rfl : k = l.length := by omega
      rw [List.take_length] at hW
      go_wp2
      go_end0
      exact ⟨rfl, v1, hW, hL⟩
theorem putNothing_any {w : World} {p : Nat} {v : Value} {D : List Nat} (h : W2 w p v D) (m : Value) (cs : Array Value) (hm : m = .agg cs) (h8 : ∃ s sd md a3 n3 c3 a4 n4 c4 e mn a7 n7 c7, cs = #[.int .u8 s, .int .u32 sd, .int .u32 md, .slice a3 n3 c3, .slice a4 n4 c4, .int .u8 e, .int .u32 mn, .slice a7 n7 c7]) :
    Calls Try.prog 102 #[m, .pointer (some ⟨p, 0, none⟩)] w fun e_ w' => e_ = .returned (.tuple #[]) ∧ ∃ v', W2 w' p v' (D ++ []) ∧ Nx w w' p v v' := by
  subst hm
  obtain ⟨s, sd, md, a3, n3, c3, a4, n4, c4, e, mn, a7, n7, c7, rfl⟩ := h8
  go_enter Try.func102, Try.ntmps102
  go_wp2
  go_end0
  exact ⟨rfl, v, by rw [List.append_nil]; exact h.alloc _, nx_alloc (nx_refl _ _ _) _⟩
def OkS (l : List Int) : Prop := ∀ x ∈ l, 0 ≤ x ∧ x < 4294967296
instance (l : List Int) : Decidable (OkS l) := by unfold OkS; exact inferInstance
/-- What a Remb puts. -/
def rembN : Nat := 1380273474
theorem rembN_i : (1380273474 : Int) = (rembN : Int) := by decide
theorem rembN_lt : rembN < 2 ^ 64 := by decide
def rateD (e mn : Nat) (l : List Int) : List Nat := ofn rembN 32 ++ (ofn l.length 8 ++ (ofn e 6 ++ (ofn mn 18 ++ sourcesD l)))
theorem C1_at {α : Type} {enc : α → Value} {h1 : ∀ x, (enc x).oneCell' = true} {w : World} {A : Option Addr} {n : Nat} {xs : List α} (h : Kd.C (Kd.scalar enc h1) w A n xs) (k : Nat) (x : α) (hx : xs[k]? = some x) (hn : k < n) :
    ∃ b off, A = some ⟨b, off, none⟩ ∧ b < w.heap.size ∧ w.cell? ⟨b, off + k, none⟩ = some (enc x) := by
  obtain ⟨ad, c, rfl, _, hK, hc⟩ := Kd.C_get h x (k : Int) (by omega) (by omega)
  rw [Int.toNat_natCast] at hK hc
  rw [List.getD_eq_getElem?_getD, hx, Option.getD_some] at hK
  obtain rfl : c = [enc x] := hK
  have h0 := hc 0 _ rfl
  obtain ⟨ad', c', he, hl', _, hc'⟩ := Kd.C_get h x (0 : Int) (by omega) (by omega)
  injection he with he
  subst he
  obtain ⟨b, off, spot⟩ := ad
  have hspot : spot = none := by
    have hz : c'.length = 1 := hl'
    have hu : c'[0]? = some (c'[0]'(by omega)) := List.getElem?_eq_getElem (by omega)
    have := World.cell?_spot (hc' 0 _ hu)
    simpa [Addr.add] using this
  subst hspot
  rw [Addr.add_lit] at h0
  have h2 : w.cell? ⟨b, off + k, none⟩ = some (enc x) := by rw [show off + k = off + (k * 1 + 0) from by omega]; exact h0
  exact ⟨b, off, rfl, World.block_lt_of_cell? w _ h2, h2⟩
set_option maxHeartbeats 2000000 in
set_option maxRecDepth 100000 in
theorem putRate_any {w0 w : World} {p : Nat} {v : Value} {D : List Nat} (h : W2 w p v D) (L : LW w0 w w0.heap.size v) (hp : w0.heap.size ≤ p) (s sd md : Int) (e mn : Nat) (vq vo : Value) (hvq : ∃ a n c, vq = .slice a n c) (hvo : ∃ a n c, vo = .slice a n c) (he : e < 256) (hmn : mn < 4294967296)
    {A : Option Addr} {c : Nat} {l : List Int} (hC : Kd.C (Kd.int .u32) w0 A l.length l) (ho : OkS l) (hl : l.length ≤ 1000000) (hD : D.length ≤ 1000) :
    Calls Try.prog 108 #[.agg #[.int .u8 s, .int .u32 sd, .int .u32 md, vq, vo, .int .u8 (e : Int), .int .u32 (mn : Int), .slice A l.length c], .pointer (some ⟨p, 0, none⟩)] w fun e_ w' =>
      e_ = .returned (.tuple #[]) ∧ ∃ v', W2 w' p v' (D ++ rateD e mn l) ∧ Nx w w' p v v' := by
  obtain ⟨a3, n3, c3, rfl⟩ := hvq
  obtain ⟨a4, n4, c4, rfl⟩ := hvo
  have L1 := nx_drew (nx_alloc (nx_refl w p v) (.cells #[.int .u8 s, .int .u32 sd, .int .u32 md, .slice a3 n3 c3, .slice a4 n4 c4, .int .u8 (e : Int), .int .u32 (mn : Int), .slice A l.length c] 52))
  have P1 := (h.alloc (.cells #[.int .u8 s, .int .u32 sd, .int .u32 md, .slice a3 n3 c3, .slice a4 n4 c4, .int .u8 (e : Int), .int .u32 (mn : Int), .slice A l.length c] 52)).drew
  have F1 : Far (w.alloc (.cells #[.int .u8 s, .int .u32 sd, .int .u32 md, .slice a3 n3 c3, .slice a4 n4 c4, .int .u8 (e : Int), .int .u32 (mn : Int), .slice A l.length c] 52)).drew p v w.heap.size := h.new _
  have M1 := Blk.new w 52 #[.int .u8 s, .int .u32 sd, .int .u32 md, .slice a3 n3 c3, .slice a4 n4 c4, .int .u8 (e : Int), .int .u32 (mn : Int), .slice A l.length c]
  have s1 : (w.alloc (.cells #[.int .u8 s, .int .u32 sd, .int .u32 md, .slice a3 n3 c3, .slice a4 n4 c4, .int .u8 (e : Int), .int .u32 (mn : Int), .slice A l.length c] 52)).drew.cell? ⟨w.heap.size, 5, none⟩ = some (.int .u8 (e : Int)) ∧ (w.alloc (.cells #[.int .u8 s, .int .u32 sd, .int .u32 md, .slice a3 n3 c3, .slice a4 n4 c4, .int .u8 (e : Int), .int .u32 (mn : Int), .slice A l.length c] 52)).drew.cell? ⟨w.heap.size, 6, none⟩ = some (.int .u32 (mn : Int)) ∧ (w.alloc (.cells #[.int .u8 s, .int .u32 sd, .int .u32 md, .slice a3 n3 c3, .slice a4 n4 c4, .int .u8 (e : Int), .int .u32 (mn : Int), .slice A l.length c] 52)).drew.cell? ⟨w.heap.size, 7, none⟩ = some (.slice A l.length c) := ⟨M1.cell 5, M1.cell 6, M1.cell 7⟩
  have hw2 : IntKind.u64.wrap (e : Int) = e := IntWalk.u64_in _ (by omega)
  have hw3 : IntKind.u64.wrap (mn : Int) = mn := IntWalk.u64_in _ (by omega)
  have hw4 : IntKind.u64.wrap ((l.length : Nat) : Int) = (l.length : Nat) := IntWalk.u64_in _ (by omega)
  go_enter Try.func108, Try.ntmps108
  go_wp2_with fail
  go_region_held3 (fun W => W.cell? ⟨w.heap.size, 5, none⟩ = some (.int .u8 (e : Int)) ∧ W.cell? ⟨w.heap.size, 6, none⟩ = some (.int .u32 (mn : Int)) ∧ W.cell? ⟨w.heap.size, 7, none⟩ = some (.slice A l.length c))
    (first | exact s1 | exact s4 | exact s5 | exact s6 | exact s7)
    (first
      | (go_at_call_of 84 (Value.int .u64 1380273474); refine (put2 P1 _ rembN rembN_i rembN_lt _ 32 (pk_nat 32 (by omega)) (by omega)).mono ?_; (rintro e_ w4 ⟨rfl, v4, hW4, hN4⟩); have L4 := L1.trans hN4; have F4 := F1.next hN4; have s4 := far_nx3 F1 hN4 s1)
      | (go_at_call_of 84 (Value.int .i64 8); refine (put2 hW4 _ l.length rfl (by omega) _ 8 (pk_nat 8 (by omega)) (by rw [List.length_append, ofn_length]; omega)).mono ?_; (rintro e_ w5 ⟨rfl, v5, hW5, hN5⟩); have L5 := L4.trans hN5; have F5 := F4.next hN5; have s5 := far_nx3 F4 hN5 s4)
      | (go_at_call_of 84 (Value.int .i64 6); refine (put2 hW5 _ e rfl (by omega) _ 6 (pk_nat 6 (by omega)) (by rw [List.length_append, List.length_append, ofn_length, ofn_length]; omega)).mono ?_; (rintro e_ w6 ⟨rfl, v6, hW6, hN6⟩); have L6 := L5.trans hN6; have F6 := F5.next hN6; have s6 := far_nx3 F5 hN6 s5)
      | (go_at_call_of 84 (Value.int .i64 18); refine (put2 hW6 _ mn rfl (by omega) _ 18 (pk_nat 18 (by omega)) (by rw [List.length_append, List.length_append, List.length_append, ofn_length, ofn_length, ofn_length]; omega)).mono ?_; (rintro e_ w7 ⟨rfl, v7, hW7, hN7⟩); have L7 := L6.trans hN7; have F7 := F6.next hN7; have s7 := far_nx3 F6 hN7 s6))
  all_goals
    have g7 := s7.2.2
    generalize hDD : D ++ ofn rembN 32 ++ ofn l.length 8 ++ ofn e 6 ++ ofn mn 18 = DD at *
    have HDD := hd hDD
    have hDl : Hd (DD.length ≤ 2000) := hd (by rw [← hDD]; simp [ofn_length]; omega)
    clear hDD hw2 hw3 hw4
    go_wp2
    go_loopw [24] (fun iv wr => ∃ (k : Nat) (v1 : Value), k ≤ l.length ∧ iv = .int .i64 k ∧ W2 wr p v1 (DD ++ sourcesD (l.take k)) ∧ Nx w wr p v v1) (fun iv _ => l.length - (intOf iv).toNat)
    case atStart => exact ⟨0, v7, Nat.zero_le _, rfl, by simpa [sourcesD] using hW7, L7⟩
    case round =>
      obtain ⟨k, v1, hk, rfl, hW, hL⟩ := hrel
      by_cases hlt : k < l.length
      · have hx := List.getElem?_eq_getElem hlt
        have hox := ho _ (List.getElem_mem hlt)
        have HTK : Hd (sourcesD (l.take (k + 1)) = sourcesD (l.take k) ++ ofn l[k].toNat 32) := hd (by unfold sourcesD; rw [List.take_succ_eq_append_getElem hlt, List.flatMap_append]; simp only [List.flatMap_cons, List.flatMap_nil, List.append_nil])
        have hle : Hd ((DD ++ sourcesD (l.take k)).length ≤ 90000000) := hd (by have := hDl.out; rw [List.length_append, sourcesD_length, List.length_take]; omega)
        obtain ⟨b, off, rfl, hb, hc0⟩ := C1_at (C_low hC (L.next hL hp).kp) k _ hx hlt
        generalize l[k] = x at *
        obtain ⟨p0, p1⟩ := hox
        obtain ⟨y0, rfl⟩ := Int.eq_ofNat_of_zero_le p0
        have HTK := hd HTK.out
        simp only [Int.toNat_natCast] at HTK
        clear hx
        have hw1 : IntKind.u64.wrap (y0 : Int) = y0 := IntWalk.u64_in _ (by omega)
        have hw2 : (y0 : Int) % 18446744073709551616 = y0 := by omega
        go_wp2_with fail
        refine (put2 hW _ y0 rfl (by omega) _ 32 (pk_nat 32 (by omega)) (by have := hle.out; omega)).mono ?_
        rintro e_ w9 ⟨rfl, v9, hW9, hN9⟩
        have L9 := hL.trans hN9
        go_wp2
        go_roundw
        case rel => exact ⟨k + 1, v9, by omega, by go_num, by rw [HTK.out]; simpa only [List.append_assoc] using hW9, L9⟩
        case measure => simp [intOf]; omega
      · obtain rfl : k = l.length := by omega
        rw [List.take_length, ← HDD.out] at hW
        go_wp2
        go_end0
        exact ⟨rfl, v1, by simpa only [rateD, List.append_assoc] using hW, hL⟩
end Go.Proofs.Ytjcejgolcdgipaa.K7

namespace Go.Proofs.Ytjcejgolcdgipaa.K7
open Go.RowKit Go.Proofs.YtjcejgolcdgipaaW.PrintWords Go.Proofs.YtjcejgolcdgipaaW.PrintLast Go.Proofs.YtjcejgolcdgipaaW.PrintMore

set_option linter.unusedVariables false
theorem blk_c2 {w : World} {g : Nat} {t : TypeId} {cs : Array Value} {a b : Value} (h : Blk w g t cs) (h0 : cs[0]? = some a) (h1 : cs[1]? = some b) : w.cell? ⟨g, 0, none⟩ = some a ∧ w.cell? ⟨g, 1, none⟩ = some b := ⟨(h.cell 0).trans h0, (h.cell 1).trans h1⟩
theorem own_lower {w : World} {b b' : Nat} {e : TypeId} {k n : Nat} {v : Value} {xs : List Value} (h : w.ownsRow b e k v n xs) (hb : b' ≤ b) : w.ownsRow b' e k v n xs := own_weaken h hb
theorem own_slice' {w : World} {base : Nat} {e : TypeId} {size : Nat} {v : Value} {n : Nat} {xs : List Value} (h : w.ownsRow base e size v n xs) : ∃ A m c, v = .slice A m c := by
  obtain ⟨A, c, e⟩ := own_slice h
  exact ⟨A, _, c, e⟩
set_option maxHeartbeats 2000000 in
set_option maxRecDepth 100000 in
theorem packet1_any {w : World} (s : Int) (sd md e mn : Nat) (hsd : sd < 4294967296) (hmd : md < 4294967296) (he : e < 256) (hmn : mn < 4294967296) {Ap Ao As : Option Addr} {cp co cs : Nat} {lp : List S82} {lo : List S134} {ls : List Int}
    (hP : Kd.C k82 w Ap lp.length lp) (hop : Ok2 lp) (hlp : lp.length ≤ 1000000) (hO : Kd.C k134 w Ao lo.length lo) (hoo : OkO lo) (hlo : lo.length ≤ 1000000) (hS : Kd.C (Kd.int .u32) w As ls.length ls) (hos : OkS ls) (hls : ls.length ≤ 1000000) :
    Calls Try.prog 74 #[.agg #[.int .u8 s, .int .u32 (sd : Int), .int .u32 (md : Int), .slice Ap lp.length cp, .slice Ao lo.length co, .int .u8 (e : Int), .int .u32 (mn : Int), .slice As ls.length cs], .agg #[.int .u8 205, .int .u8 1, .func (Fn.func 99) #[] #[], .func (Fn.func 100) #[] #[], .func (Fn.func 101) #[] #[]]] w fun e_ w' =>
      ∃ vb, e_ = .returned (.agg #[.int .u8 1, .int .u8 205, vb, .int .u8 0]) ∧ w'.ownsRow w.heap.size 5 1 vb (pack (ofn sd 32 ++ ofn md 32 ++ pairsD lp)).length (bv (pack (ofn sd 32 ++ ofn md 32 ++ pairsD lp))) ∧ Kp (fun _ => True) w w' := by
  have hw1 : IntKind.u64.wrap (sd : Int) = sd := IntWalk.u64_in _ (by omega)
  have hw2 : IntKind.u64.wrap (md : Int) = md := IntWalk.u64_in _ (by omega)
  obtain ⟨w3, hw3⟩ : ∃ w3, w3 = ((w.alloc (.cells #[.int .u8 s, .int .u32 (sd : Int), .int .u32 (md : Int), .slice Ap lp.length cp, .slice Ao lo.length co, .int .u8 (e : Int), .int .u32 (mn : Int), .slice As ls.length cs] 52)).alloc (.cells #[.int .u8 205, .int .u8 1, .func (Fn.func 99) #[] #[], .func (Fn.func 100) #[] #[], .func (Fn.func 101) #[] #[]] 125)).alloc (.cells #[.int .u8 0, .int .u8 0, .slice none 0 0, .int .u8 0] 40) := ⟨_, rfl⟩
  have hs3 : w3.heap.size = w.heap.size + 1 + 1 + 1 := by rw [hw3]; simp
  have hK3 : Kp (fun _ => True) w w3 := hw3 ▸ (((Kp.refl _ _).alloc _).alloc _).alloc _
  have M3 : Blk w3 w.heap.size 52 #[.int .u8 s, .int .u32 (sd : Int), .int .u32 (md : Int), .slice Ap lp.length cp, .slice Ao lo.length co, .int .u8 (e : Int), .int .u32 (mn : Int), .slice As ls.length cs] := hw3 ▸ ((Blk.new w _ _).alloc _).alloc _
  have T3 : Blk w3 (w.heap.size + 1) 125 #[.int .u8 205, .int .u8 1, .func (Fn.func 99) #[] #[], .func (Fn.func 100) #[] #[], .func (Fn.func 101) #[] #[]] := by
    have := (Blk.new (w.alloc (.cells #[.int .u8 s, .int .u32 (sd : Int), .int .u32 (md : Int), .slice Ap lp.length cp, .slice Ao lo.length co, .int .u8 (e : Int), .int .u32 (mn : Int), .slice As ls.length cs] 52)) 125 #[.int .u8 205, .int .u8 1, .func (Fn.func 99) #[] #[], .func (Fn.func 100) #[] #[], .func (Fn.func 101) #[] #[]]).alloc (.cells #[.int .u8 0, .int .u8 0, .slice none 0 0, .int .u8 0] 40)
    rw [← hw3, World.size_alloc] at this
    exact this
  have Z3 : Blk w3 (w.heap.size + 1 + 1) 40 #[.int .u8 0, .int .u8 0, .slice none 0 0, .int .u8 0] := by
    have := Blk.new ((w.alloc (.cells #[.int .u8 s, .int .u32 (sd : Int), .int .u32 (md : Int), .slice Ap lp.length cp, .slice Ao lo.length co, .int .u8 (e : Int), .int .u32 (mn : Int), .slice As ls.length cs] 52)).alloc (.cells #[.int .u8 205, .int .u8 1, .func (Fn.func 99) #[] #[], .func (Fn.func 100) #[] #[], .func (Fn.func 101) #[] #[]] 125)) 40 #[.int .u8 0, .int .u8 0, .slice none 0 0, .int .u8 0]
    rw [← hw3, World.size_alloc, World.size_alloc] at this
    exact this
  have s3 : w3.drew.cell? ⟨w.heap.size, 1, none⟩ = some (.int .u32 (sd : Int)) ∧ w3.drew.cell? ⟨w.heap.size, 2, none⟩ = some (.int .u32 (md : Int)) := ⟨M3.cell 1, M3.cell 2⟩
  go_enter Try.func74, Try.ntmps74
  go_upto_region 1 with (fail)
  rw [← hw3]
  clear hw3
  go_region_held3 (fun W => W.cell? ⟨w.heap.size, 1, none⟩ = some (.int .u32 (sd : Int)) ∧ W.cell? ⟨w.heap.size, 2, none⟩ = some (.int .u32 (md : Int)))
    (first | exact s3 | exact s4 | exact s5 | exact s6)
    (first
      | (go_at_call 81; refine (new2 _).mono ?_; (rintro e_ wn ⟨rfl, hWn, hKn, hsn⟩); have hK4 := hK3.drew.trans hKn; have s4 := And.intro (hKn.cell_some s3.1 trivial) (hKn.cell_some s3.2 trivial); have M4 := M3.drew.kp hKn trivial; have T4 := T3.drew.kp hKn trivial; have Z4 := Z3.drew.kp hKn trivial; have hps : w3.drew.heap.size = w.heap.size + 1 + 1 + 1 := hs3; rw [hps] at hWn hsn; rw [hps]; have L4 : LW w wn w.heap.size (.slice none 0 0) := (⟨fun g hg => (by simp [Value.ownBlock] at hg), hK4.mono (fun _ _ _ => trivial), hK4.size⟩); have FM4 : Far wn (w.heap.size + 1 + 1 + 1) (.slice none 0 0) w.heap.size := (⟨by omega, by omega, by simp [Value.ownBlock]⟩); have FT4 : Far wn (w.heap.size + 1 + 1 + 1) (.slice none 0 0) (w.heap.size + 1) := (⟨by omega, by omega, by simp [Value.ownBlock]⟩); have FZ4 : Far wn (w.heap.size + 1 + 1 + 1) (.slice none 0 0) (w.heap.size + 1 + 1) := (⟨by omega, by omega, by simp [Value.ownBlock]⟩))
      | (go_at_call_of 84 (Value.int .u64 (sd : Int)); refine (put2 hWn _ sd rfl (by omega) _ 32 (pk_nat 32 (by omega)) (by simp)).mono ?_; (rintro e_ wp ⟨rfl, v4, hW4, hN4⟩); have s5 := And.intro (hN4.cell FM4 s4.1) (hN4.cell FM4 s4.2); have M5 := M4.kp hN4.1 FM4; have T5 := T4.kp hN4.1 FT4; have Z5 := Z4.kp hN4.1 FZ4; have FM5 := FM4.next hN4; have FT5 := FT4.next hN4; have FZ5 := FZ4.next hN4; have L4' := L4.next hN4 (by omega))
      | (go_at_call_of 84 (Value.int .u64 (md : Int)); refine (put2 hW4 _ md rfl (by omega) _ 32 (pk_nat 32 (by omega)) (by simp [ofn_length])).mono ?_; (rintro e_ w5 ⟨rfl, v5, hW5, hN5⟩); have s6 := And.intro (hN5.cell FM5 s5.1) (hN5.cell FM5 s5.2); have M6 := M5.kp hN5.1 FM5; have T6 := T5.kp hN5.1 FT5; have Z6 := Z5.kp hN5.1 FZ5; have FM6 := FM5.next hN5; have FT6 := FT5.next hN5; have FZ6 := FZ5.next hN5; have L5 := L4'.next hN5 (by omega)))
  have hnil : ∀ L : List Nat, [] ++ ofn sd 32 ++ ofn md 32 ++ L = ofn sd 32 ++ ofn md 32 ++ L := fun _ => rfl
  have cM := M6.cell
  have cT := T6.cell
  go_wp2_with fail
  refine (putPairs_any hW5 L5 (by omega) _ _ _ _ _ _ _ ⟨_, _, _, rfl⟩ ⟨_, _, _, rfl⟩ hP hop hlp (by simp [ofn_length])).mono ?_
  rintro e_ w6 ⟨rfl, v6, hW6, hN6⟩
  have T7 := T6.kp hN6.1 FT6
  have Z7 := Z6.kp hN6.1 FZ6
  have L7 := L5.next hN6 (by omega)
  clear cM cT
  have s7 : w6.drew.cell? ⟨w.heap.size + 1, 0, none⟩ = some (.int .u8 205) ∧ w6.drew.cell? ⟨w.heap.size + 1, 1, none⟩ = some (.int .u8 1) := ⟨T7.cell 0, T7.cell 1⟩
  have hne1 : w.heap.size + 1 ≠ w.heap.size + 1 + 1 := by omega
  have hlen : Hd (([] ++ ofn sd 32 ++ ofn md 32 ++ pairsD lp).length ≤ 1000000000000) := hd (by simp [ofn_length, pairsD_length]; omega)
  go_wp2_with fail
  go_region_held3 (fun W => W.cell? ⟨w.heap.size + 1, 0, none⟩ = some (.int .u8 205) ∧ W.cell? ⟨w.heap.size + 1, 1, none⟩ = some (.int .u8 1))
    (first | with_reducible exact s9 | exact s7 | exact s8)
    (first
      | (go_at_call 85; refine (out2 (hW6).drew hlen.out).mono ?_; (rintro e_ w8 ⟨v8, rfl, hO, hK8⟩); have s8 := And.intro (hK8.cell_some s7.1 trivial) (hK8.cell_some s7.2 trivial); have Z8 := Z7.drew.kp hK8 trivial; have c8 := Z8.cell; have f8 := Z8.frozen; obtain ⟨A8, n8, q8, rfl⟩ := own_slice' hO; have T9 := ((((T7.drew.kp hK8 trivial).far (p := ⟨w.heap.size + 1 + 1, 0, none⟩) hne1 (.int .u8 1)).far (p := ⟨w.heap.size + 1 + 1, 1, none⟩) hne1 (.int .u8 205)).far (p := ⟨w.heap.size + 1 + 1, 2, none⟩) hne1 (.slice A8 n8 q8)).far (p := ⟨w.heap.size + 1 + 1, 3, none⟩) hne1 (.int .u8 0); have s9 := blk_c2 T9 (a := .int .u8 205) (b := .int .u8 1) rfl rfl))
  all_goals
    have hB9 := ((((Z8.set 0 (.int .u8 1)).set 1 (.int .u8 205)).set 2 (.slice A8 n8 q8)).set 3 (.int .u8 0))
    simp only [List.setIfInBounds_toArray, List.set_cons_zero, List.set_cons_succ] at hB9
    go_wp2
    refine bodyPost_ret (results_c rfl _ _ (w.heap.size + 1 + 1) 40 _ (0, 0) _ rfl hB9 Try.underlying40 rfl (by kernel_rfl)) rfl ⟨_, rfl, ?_, ?_⟩
    · have hs6 := L7.size
      have hZl := Z7.lt
      exact own_lower (own_kp hO ((((Kp.refl (· ≠ w.heap.size + 1 + 1) w8).set_.set_).set_).set_) (fun g hg _ => Nat.ne_of_gt (Nat.lt_of_lt_of_le hZl hg))) L7.size
    · exact kp_far (kp_far (Kp.refl _ w) (L7.kp.drew.next hK8 (fun _ _ _ => trivial)) (fun k hk => hk)) ((((Kp.refl (· ≠ w.heap.size + 1 + 1) w8).set_.set_).set_).set_) (fun k hk => by omega)
set_option maxHeartbeats 2000000 in
set_option maxRecDepth 100000 in
theorem packet2_any {w : World} (s : Int) (sd md e mn : Nat) (hsd : sd < 4294967296) (hmd : md < 4294967296) (he : e < 256) (hmn : mn < 4294967296) {Ap Ao As : Option Addr} {cp co cs : Nat} {lp : List S82} {lo : List S134} {ls : List Int}
    (hP : Kd.C k82 w Ap lp.length lp) (hop : Ok2 lp) (hlp : lp.length ≤ 1000000) (hO : Kd.C k134 w Ao lo.length lo) (hoo : OkO lo) (hlo : lo.length ≤ 1000000) (hS : Kd.C (Kd.int .u32) w As ls.length ls) (hos : OkS ls) (hls : ls.length ≤ 1000000) :
    Calls Try.prog 74 #[.agg #[.int .u8 s, .int .u32 (sd : Int), .int .u32 (md : Int), .slice Ap lp.length cp, .slice Ao lo.length co, .int .u8 (e : Int), .int .u32 (mn : Int), .slice As ls.length cs], .agg #[.int .u8 206, .int .u8 1, .func (Fn.func 102) #[] #[], .func (Fn.func 103) #[] #[], .func (Fn.func 104) #[] #[]]] w fun e_ w' =>
      ∃ vb, e_ = .returned (.agg #[.int .u8 1, .int .u8 206, vb, .int .u8 0]) ∧ w'.ownsRow w.heap.size 5 1 vb (pack (ofn sd 32 ++ ofn md 32 ++ [])).length (bv (pack (ofn sd 32 ++ ofn md 32 ++ []))) ∧ Kp (fun _ => True) w w' := by
  have hw1 : IntKind.u64.wrap (sd : Int) = sd := IntWalk.u64_in _ (by omega)
  have hw2 : IntKind.u64.wrap (md : Int) = md := IntWalk.u64_in _ (by omega)
  obtain ⟨w3, hw3⟩ : ∃ w3, w3 = ((w.alloc (.cells #[.int .u8 s, .int .u32 (sd : Int), .int .u32 (md : Int), .slice Ap lp.length cp, .slice Ao lo.length co, .int .u8 (e : Int), .int .u32 (mn : Int), .slice As ls.length cs] 52)).alloc (.cells #[.int .u8 206, .int .u8 1, .func (Fn.func 102) #[] #[], .func (Fn.func 103) #[] #[], .func (Fn.func 104) #[] #[]] 125)).alloc (.cells #[.int .u8 0, .int .u8 0, .slice none 0 0, .int .u8 0] 40) := ⟨_, rfl⟩
  have hs3 : w3.heap.size = w.heap.size + 1 + 1 + 1 := by rw [hw3]; simp
  have hK3 : Kp (fun _ => True) w w3 := hw3 ▸ (((Kp.refl _ _).alloc _).alloc _).alloc _
  have M3 : Blk w3 w.heap.size 52 #[.int .u8 s, .int .u32 (sd : Int), .int .u32 (md : Int), .slice Ap lp.length cp, .slice Ao lo.length co, .int .u8 (e : Int), .int .u32 (mn : Int), .slice As ls.length cs] := hw3 ▸ ((Blk.new w _ _).alloc _).alloc _
  have T3 : Blk w3 (w.heap.size + 1) 125 #[.int .u8 206, .int .u8 1, .func (Fn.func 102) #[] #[], .func (Fn.func 103) #[] #[], .func (Fn.func 104) #[] #[]] := by
    have := (Blk.new (w.alloc (.cells #[.int .u8 s, .int .u32 (sd : Int), .int .u32 (md : Int), .slice Ap lp.length cp, .slice Ao lo.length co, .int .u8 (e : Int), .int .u32 (mn : Int), .slice As ls.length cs] 52)) 125 #[.int .u8 206, .int .u8 1, .func (Fn.func 102) #[] #[], .func (Fn.func 103) #[] #[], .func (Fn.func 104) #[] #[]]).alloc (.cells #[.int .u8 0, .int .u8 0, .slice none 0 0, .int .u8 0] 40)
    rw [← hw3, World.size_alloc] at this
    exact this
  have Z3 : Blk w3 (w.heap.size + 1 + 1) 40 #[.int .u8 0, .int .u8 0, .slice none 0 0, .int .u8 0] := by
    have := Blk.new ((w.alloc (.cells #[.int .u8 s, .int .u32 (sd : Int), .int .u32 (md : Int), .slice Ap lp.length cp, .slice Ao lo.length co, .int .u8 (e : Int), .int .u32 (mn : Int), .slice As ls.length cs] 52)).alloc (.cells #[.int .u8 206, .int .u8 1, .func (Fn.func 102) #[] #[], .func (Fn.func 103) #[] #[], .func (Fn.func 104) #[] #[]] 125)) 40 #[.int .u8 0, .int .u8 0, .slice none 0 0, .int .u8 0]
    rw [← hw3, World.size_alloc, World.size_alloc] at this
    exact this
  have s3 : w3.drew.cell? ⟨w.heap.size, 1, none⟩ = some (.int .u32 (sd : Int)) ∧ w3.drew.cell? ⟨w.heap.size, 2, none⟩ = some (.int .u32 (md : Int)) := ⟨M3.cell 1, M3.cell 2⟩
  go_enter Try.func74, Try.ntmps74
  go_upto_region 1 with (fail)
  rw [← hw3]
  clear hw3
  go_region_held3 (fun W => W.cell? ⟨w.heap.size, 1, none⟩ = some (.int .u32 (sd : Int)) ∧ W.cell? ⟨w.heap.size, 2, none⟩ = some (.int .u32 (md : Int)))
    (first | exact s3 | exact s4 | exact s5 | exact s6)
    (first
      | (go_at_call 81; refine (new2 _).mono ?_; (rintro e_ wn ⟨rfl, hWn, hKn, hsn⟩); have hK4 := hK3.drew.trans hKn; have s4 := And.intro (hKn.cell_some s3.1 trivial) (hKn.cell_some s3.2 trivial); have M4 := M3.drew.kp hKn trivial; have T4 := T3.drew.kp hKn trivial; have Z4 := Z3.drew.kp hKn trivial; have hps : w3.drew.heap.size = w.heap.size + 1 + 1 + 1 := hs3; rw [hps] at hWn hsn; rw [hps]; have L4 : LW w wn w.heap.size (.slice none 0 0) := (⟨fun g hg => (by simp [Value.ownBlock] at hg), hK4.mono (fun _ _ _ => trivial), hK4.size⟩); have FM4 : Far wn (w.heap.size + 1 + 1 + 1) (.slice none 0 0) w.heap.size := (⟨by omega, by omega, by simp [Value.ownBlock]⟩); have FT4 : Far wn (w.heap.size + 1 + 1 + 1) (.slice none 0 0) (w.heap.size + 1) := (⟨by omega, by omega, by simp [Value.ownBlock]⟩); have FZ4 : Far wn (w.heap.size + 1 + 1 + 1) (.slice none 0 0) (w.heap.size + 1 + 1) := (⟨by omega, by omega, by simp [Value.ownBlock]⟩))
      | (go_at_call_of 84 (Value.int .u64 (sd : Int)); refine (put2 hWn _ sd rfl (by omega) _ 32 (pk_nat 32 (by omega)) (by simp)).mono ?_; (rintro e_ wp ⟨rfl, v4, hW4, hN4⟩); have s5 := And.intro (hN4.cell FM4 s4.1) (hN4.cell FM4 s4.2); have M5 := M4.kp hN4.1 FM4; have T5 := T4.kp hN4.1 FT4; have Z5 := Z4.kp hN4.1 FZ4; have FM5 := FM4.next hN4; have FT5 := FT4.next hN4; have FZ5 := FZ4.next hN4; have L4' := L4.next hN4 (by omega))
      | (go_at_call_of 84 (Value.int .u64 (md : Int)); refine (put2 hW4 _ md rfl (by omega) _ 32 (pk_nat 32 (by omega)) (by simp [ofn_length])).mono ?_; (rintro e_ w5 ⟨rfl, v5, hW5, hN5⟩); have s6 := And.intro (hN5.cell FM5 s5.1) (hN5.cell FM5 s5.2); have M6 := M5.kp hN5.1 FM5; have T6 := T5.kp hN5.1 FT5; have Z6 := Z5.kp hN5.1 FZ5; have FM6 := FM5.next hN5; have FT6 := FT5.next hN5; have FZ6 := FZ5.next hN5; have L5 := L4'.next hN5 (by omega)))
  have hnil : ∀ L : List Nat, [] ++ ofn sd 32 ++ ofn md 32 ++ L = ofn sd 32 ++ ofn md 32 ++ L := fun _ => rfl
  have cM := M6.cell
  have cT := T6.cell
  go_wp2_with fail
  refine (putNothing_any hW5 _ _ rfl ⟨_, _, _, _, _, _, _, _, _, _, _, _, _, _, rfl⟩).mono ?_
  rintro e_ w6 ⟨rfl, v6, hW6, hN6⟩
  have T7 := T6.kp hN6.1 FT6
  have Z7 := Z6.kp hN6.1 FZ6
  have L7 := L5.next hN6 (by omega)
  clear cM cT
  have s7 : w6.drew.cell? ⟨w.heap.size + 1, 0, none⟩ = some (.int .u8 206) ∧ w6.drew.cell? ⟨w.heap.size + 1, 1, none⟩ = some (.int .u8 1) := ⟨T7.cell 0, T7.cell 1⟩
  have hne1 : w.heap.size + 1 ≠ w.heap.size + 1 + 1 := by omega
  have hlen : Hd (([] ++ ofn sd 32 ++ ofn md 32 ++ []).length ≤ 1000000000000) := hd (by simp [ofn_length])
  go_wp2_with fail
  go_region_held3 (fun W => W.cell? ⟨w.heap.size + 1, 0, none⟩ = some (.int .u8 206) ∧ W.cell? ⟨w.heap.size + 1, 1, none⟩ = some (.int .u8 1))
    (first | with_reducible exact s9 | exact s7 | exact s8)
    (first
      | (go_at_call 85; refine (out2 (hW6).drew hlen.out).mono ?_; (rintro e_ w8 ⟨v8, rfl, hO, hK8⟩); have s8 := And.intro (hK8.cell_some s7.1 trivial) (hK8.cell_some s7.2 trivial); have Z8 := Z7.drew.kp hK8 trivial; have c8 := Z8.cell; have f8 := Z8.frozen; obtain ⟨A8, n8, q8, rfl⟩ := own_slice' hO; have T9 := ((((T7.drew.kp hK8 trivial).far (p := ⟨w.heap.size + 1 + 1, 0, none⟩) hne1 (.int .u8 1)).far (p := ⟨w.heap.size + 1 + 1, 1, none⟩) hne1 (.int .u8 206)).far (p := ⟨w.heap.size + 1 + 1, 2, none⟩) hne1 (.slice A8 n8 q8)).far (p := ⟨w.heap.size + 1 + 1, 3, none⟩) hne1 (.int .u8 0); have s9 := blk_c2 T9 (a := .int .u8 206) (b := .int .u8 1) rfl rfl))
  all_goals
    have hB9 := ((((Z8.set 0 (.int .u8 1)).set 1 (.int .u8 206)).set 2 (.slice A8 n8 q8)).set 3 (.int .u8 0))
    simp only [List.setIfInBounds_toArray, List.set_cons_zero, List.set_cons_succ] at hB9
    go_wp2
    refine bodyPost_ret (results_c rfl _ _ (w.heap.size + 1 + 1) 40 _ (0, 0) _ rfl hB9 Try.underlying40 rfl (by kernel_rfl)) rfl ⟨_, rfl, ?_, ?_⟩
    · have hs6 := L7.size
      have hZl := Z7.lt
      exact own_lower (own_kp hO ((((Kp.refl (· ≠ w.heap.size + 1 + 1) w8).set_.set_).set_).set_) (fun g hg _ => Nat.ne_of_gt (Nat.lt_of_lt_of_le hZl hg))) L7.size
    · exact kp_far (kp_far (Kp.refl _ w) (L7.kp.drew.next hK8 (fun _ _ _ => trivial)) (fun k hk => hk)) ((((Kp.refl (· ≠ w.heap.size + 1 + 1) w8).set_.set_).set_).set_) (fun k hk => by omega)
set_option maxHeartbeats 2000000 in
set_option maxRecDepth 100000 in
theorem packet3_any {w : World} (s : Int) (sd md e mn : Nat) (hsd : sd < 4294967296) (hmd : md < 4294967296) (he : e < 256) (hmn : mn < 4294967296) {Ap Ao As : Option Addr} {cp co cs : Nat} {lp : List S82} {lo : List S134} {ls : List Int}
    (hP : Kd.C k82 w Ap lp.length lp) (hop : Ok2 lp) (hlp : lp.length ≤ 1000000) (hO : Kd.C k134 w Ao lo.length lo) (hoo : OkO lo) (hlo : lo.length ≤ 1000000) (hS : Kd.C (Kd.int .u32) w As ls.length ls) (hos : OkS ls) (hls : ls.length ≤ 1000000) :
    Calls Try.prog 74 #[.agg #[.int .u8 s, .int .u32 (sd : Int), .int .u32 (md : Int), .slice Ap lp.length cp, .slice Ao lo.length co, .int .u8 (e : Int), .int .u32 (mn : Int), .slice As ls.length cs], .agg #[.int .u8 206, .int .u8 4, .func (Fn.func 105) #[] #[], .func (Fn.func 106) #[] #[], .func (Fn.func 107) #[] #[]]] w fun e_ w' =>
      ∃ vb, e_ = .returned (.agg #[.int .u8 4, .int .u8 206, vb, .int .u8 0]) ∧ w'.ownsRow w.heap.size 5 1 vb (pack (ofn sd 32 ++ ofn md 32 ++ ordersD lo)).length (bv (pack (ofn sd 32 ++ ofn md 32 ++ ordersD lo))) ∧ Kp (fun _ => True) w w' := by
  have hw1 : IntKind.u64.wrap (sd : Int) = sd := IntWalk.u64_in _ (by omega)
  have hw2 : IntKind.u64.wrap (md : Int) = md := IntWalk.u64_in _ (by omega)
  obtain ⟨w3, hw3⟩ : ∃ w3, w3 = ((w.alloc (.cells #[.int .u8 s, .int .u32 (sd : Int), .int .u32 (md : Int), .slice Ap lp.length cp, .slice Ao lo.length co, .int .u8 (e : Int), .int .u32 (mn : Int), .slice As ls.length cs] 52)).alloc (.cells #[.int .u8 206, .int .u8 4, .func (Fn.func 105) #[] #[], .func (Fn.func 106) #[] #[], .func (Fn.func 107) #[] #[]] 125)).alloc (.cells #[.int .u8 0, .int .u8 0, .slice none 0 0, .int .u8 0] 40) := ⟨_, rfl⟩
  have hs3 : w3.heap.size = w.heap.size + 1 + 1 + 1 := by rw [hw3]; simp
  have hK3 : Kp (fun _ => True) w w3 := hw3 ▸ (((Kp.refl _ _).alloc _).alloc _).alloc _
  have M3 : Blk w3 w.heap.size 52 #[.int .u8 s, .int .u32 (sd : Int), .int .u32 (md : Int), .slice Ap lp.length cp, .slice Ao lo.length co, .int .u8 (e : Int), .int .u32 (mn : Int), .slice As ls.length cs] := hw3 ▸ ((Blk.new w _ _).alloc _).alloc _
  have T3 : Blk w3 (w.heap.size + 1) 125 #[.int .u8 206, .int .u8 4, .func (Fn.func 105) #[] #[], .func (Fn.func 106) #[] #[], .func (Fn.func 107) #[] #[]] := by
    have := (Blk.new (w.alloc (.cells #[.int .u8 s, .int .u32 (sd : Int), .int .u32 (md : Int), .slice Ap lp.length cp, .slice Ao lo.length co, .int .u8 (e : Int), .int .u32 (mn : Int), .slice As ls.length cs] 52)) 125 #[.int .u8 206, .int .u8 4, .func (Fn.func 105) #[] #[], .func (Fn.func 106) #[] #[], .func (Fn.func 107) #[] #[]]).alloc (.cells #[.int .u8 0, .int .u8 0, .slice none 0 0, .int .u8 0] 40)
    rw [← hw3, World.size_alloc] at this
    exact this
  have Z3 : Blk w3 (w.heap.size + 1 + 1) 40 #[.int .u8 0, .int .u8 0, .slice none 0 0, .int .u8 0] := by
    have := Blk.new ((w.alloc (.cells #[.int .u8 s, .int .u32 (sd : Int), .int .u32 (md : Int), .slice Ap lp.length cp, .slice Ao lo.length co, .int .u8 (e : Int), .int .u32 (mn : Int), .slice As ls.length cs] 52)).alloc (.cells #[.int .u8 206, .int .u8 4, .func (Fn.func 105) #[] #[], .func (Fn.func 106) #[] #[], .func (Fn.func 107) #[] #[]] 125)) 40 #[.int .u8 0, .int .u8 0, .slice none 0 0, .int .u8 0]
    rw [← hw3, World.size_alloc, World.size_alloc] at this
    exact this
  have s3 : w3.drew.cell? ⟨w.heap.size, 1, none⟩ = some (.int .u32 (sd : Int)) ∧ w3.drew.cell? ⟨w.heap.size, 2, none⟩ = some (.int .u32 (md : Int)) := ⟨M3.cell 1, M3.cell 2⟩
  go_enter Try.func74, Try.ntmps74
  go_upto_region 1 with (fail)
  rw [← hw3]
  clear hw3
  go_region_held3 (fun W => W.cell? ⟨w.heap.size, 1, none⟩ = some (.int .u32 (sd : Int)) ∧ W.cell? ⟨w.heap.size, 2, none⟩ = some (.int .u32 (md : Int)))
    (first | exact s3 | exact s4 | exact s5 | exact s6)
    (first
      | (go_at_call 81; refine (new2 _).mono ?_; (rintro e_ wn ⟨rfl, hWn, hKn, hsn⟩); have hK4 := hK3.drew.trans hKn; have s4 := And.intro (hKn.cell_some s3.1 trivial) (hKn.cell_some s3.2 trivial); have M4 := M3.drew.kp hKn trivial; have T4 := T3.drew.kp hKn trivial; have Z4 := Z3.drew.kp hKn trivial; have hps : w3.drew.heap.size = w.heap.size + 1 + 1 + 1 := hs3; rw [hps] at hWn hsn; rw [hps]; have L4 : LW w wn w.heap.size (.slice none 0 0) := (⟨fun g hg => (by simp [Value.ownBlock] at hg), hK4.mono (fun _ _ _ => trivial), hK4.size⟩); have FM4 : Far wn (w.heap.size + 1 + 1 + 1) (.slice none 0 0) w.heap.size := (⟨by omega, by omega, by simp [Value.ownBlock]⟩); have FT4 : Far wn (w.heap.size + 1 + 1 + 1) (.slice none 0 0) (w.heap.size + 1) := (⟨by omega, by omega, by simp [Value.ownBlock]⟩); have FZ4 : Far wn (w.heap.size + 1 + 1 + 1) (.slice none 0 0) (w.heap.size + 1 + 1) := (⟨by omega, by omega, by simp [Value.ownBlock]⟩))
      | (go_at_call_of 84 (Value.int .u64 (sd : Int)); refine (put2 hWn _ sd rfl (by omega) _ 32 (pk_nat 32 (by omega)) (by simp)).mono ?_; (rintro e_ wp ⟨rfl, v4, hW4, hN4⟩); have s5 := And.intro (hN4.cell FM4 s4.1) (hN4.cell FM4 s4.2); have M5 := M4.kp hN4.1 FM4; have T5 := T4.kp hN4.1 FT4; have Z5 := Z4.kp hN4.1 FZ4; have FM5 := FM4.next hN4; have FT5 := FT4.next hN4; have FZ5 := FZ4.next hN4; have L4' := L4.next hN4 (by omega))
      | (go_at_call_of 84 (Value.int .u64 (md : Int)); refine (put2 hW4 _ md rfl (by omega) _ 32 (pk_nat 32 (by omega)) (by simp [ofn_length])).mono ?_; (rintro e_ w5 ⟨rfl, v5, hW5, hN5⟩); have s6 := And.intro (hN5.cell FM5 s5.1) (hN5.cell FM5 s5.2); have M6 := M5.kp hN5.1 FM5; have T6 := T5.kp hN5.1 FT5; have Z6 := Z5.kp hN5.1 FZ5; have FM6 := FM5.next hN5; have FT6 := FT5.next hN5; have FZ6 := FZ5.next hN5; have L5 := L4'.next hN5 (by omega)))
  have hnil : ∀ L : List Nat, [] ++ ofn sd 32 ++ ofn md 32 ++ L = ofn sd 32 ++ ofn md 32 ++ L := fun _ => rfl
  have cM := M6.cell
  have cT := T6.cell
  go_wp2_with fail
  refine (putOrders_any hW5 L5 (by omega) _ _ _ _ _ _ _ ⟨_, _, _, rfl⟩ ⟨_, _, _, rfl⟩ hO hoo hlo (by simp [ofn_length])).mono ?_
  rintro e_ w6 ⟨rfl, v6, hW6, hN6⟩
  have T7 := T6.kp hN6.1 FT6
  have Z7 := Z6.kp hN6.1 FZ6
  have L7 := L5.next hN6 (by omega)
  clear cM cT
  have s7 : w6.drew.cell? ⟨w.heap.size + 1, 0, none⟩ = some (.int .u8 206) ∧ w6.drew.cell? ⟨w.heap.size + 1, 1, none⟩ = some (.int .u8 4) := ⟨T7.cell 0, T7.cell 1⟩
  have hne1 : w.heap.size + 1 ≠ w.heap.size + 1 + 1 := by omega
  have hlen : Hd (([] ++ ofn sd 32 ++ ofn md 32 ++ ordersD lo).length ≤ 1000000000000) := hd (by simp [ofn_length, ordersD_length]; omega)
  go_wp2_with fail
  go_region_held3 (fun W => W.cell? ⟨w.heap.size + 1, 0, none⟩ = some (.int .u8 206) ∧ W.cell? ⟨w.heap.size + 1, 1, none⟩ = some (.int .u8 4))
    (first | with_reducible exact s9 | exact s7 | exact s8)
    (first
      | (go_at_call 85; refine (out2 (hW6).drew hlen.out).mono ?_; (rintro e_ w8 ⟨v8, rfl, hO, hK8⟩); have s8 := And.intro (hK8.cell_some s7.1 trivial) (hK8.cell_some s7.2 trivial); have Z8 := Z7.drew.kp hK8 trivial; have c8 := Z8.cell; have f8 := Z8.frozen; obtain ⟨A8, n8, q8, rfl⟩ := own_slice' hO; have T9 := ((((T7.drew.kp hK8 trivial).far (p := ⟨w.heap.size + 1 + 1, 0, none⟩) hne1 (.int .u8 4)).far (p := ⟨w.heap.size + 1 + 1, 1, none⟩) hne1 (.int .u8 206)).far (p := ⟨w.heap.size + 1 + 1, 2, none⟩) hne1 (.slice A8 n8 q8)).far (p := ⟨w.heap.size + 1 + 1, 3, none⟩) hne1 (.int .u8 0); have s9 := blk_c2 T9 (a := .int .u8 206) (b := .int .u8 4) rfl rfl))
  all_goals
    have hB9 := ((((Z8.set 0 (.int .u8 4)).set 1 (.int .u8 206)).set 2 (.slice A8 n8 q8)).set 3 (.int .u8 0))
    simp only [List.setIfInBounds_toArray, List.set_cons_zero, List.set_cons_succ] at hB9
    go_wp2
    refine bodyPost_ret (results_c rfl _ _ (w.heap.size + 1 + 1) 40 _ (0, 0) _ rfl hB9 Try.underlying40 rfl (by kernel_rfl)) rfl ⟨_, rfl, ?_, ?_⟩
    · have hs6 := L7.size
      have hZl := Z7.lt
      exact own_lower (own_kp hO ((((Kp.refl (· ≠ w.heap.size + 1 + 1) w8).set_.set_).set_).set_) (fun g hg _ => Nat.ne_of_gt (Nat.lt_of_lt_of_le hZl hg))) L7.size
    · exact kp_far (kp_far (Kp.refl _ w) (L7.kp.drew.next hK8 (fun _ _ _ => trivial)) (fun k hk => hk)) ((((Kp.refl (· ≠ w.heap.size + 1 + 1) w8).set_.set_).set_).set_) (fun k hk => by omega)
set_option maxHeartbeats 2000000 in
set_option maxRecDepth 100000 in
theorem packet4_any {w : World} (s : Int) (sd md e mn : Nat) (hsd : sd < 4294967296) (hmd : md < 4294967296) (he : e < 256) (hmn : mn < 4294967296) {Ap Ao As : Option Addr} {cp co cs : Nat} {lp : List S82} {lo : List S134} {ls : List Int}
    (hP : Kd.C k82 w Ap lp.length lp) (hop : Ok2 lp) (hlp : lp.length ≤ 1000000) (hO : Kd.C k134 w Ao lo.length lo) (hoo : OkO lo) (hlo : lo.length ≤ 1000000) (hS : Kd.C (Kd.int .u32) w As ls.length ls) (hos : OkS ls) (hls : ls.length ≤ 1000000) :
    Calls Try.prog 74 #[.agg #[.int .u8 s, .int .u32 (sd : Int), .int .u32 (md : Int), .slice Ap lp.length cp, .slice Ao lo.length co, .int .u8 (e : Int), .int .u32 (mn : Int), .slice As ls.length cs], .agg #[.int .u8 206, .int .u8 15, .func (Fn.func 108) #[] #[], .func (Fn.func 109) #[] #[], .func (Fn.func 104) #[] #[]]] w fun e_ w' =>
      ∃ vb, e_ = .returned (.agg #[.int .u8 15, .int .u8 206, vb, .int .u8 0]) ∧ w'.ownsRow w.heap.size 5 1 vb (pack (ofn sd 32 ++ ofn md 32 ++ rateD e mn ls)).length (bv (pack (ofn sd 32 ++ ofn md 32 ++ rateD e mn ls))) ∧ Kp (fun _ => True) w w' := by
  have hw1 : IntKind.u64.wrap (sd : Int) = sd := IntWalk.u64_in _ (by omega)
  have hw2 : IntKind.u64.wrap (md : Int) = md := IntWalk.u64_in _ (by omega)
  obtain ⟨w3, hw3⟩ : ∃ w3, w3 = ((w.alloc (.cells #[.int .u8 s, .int .u32 (sd : Int), .int .u32 (md : Int), .slice Ap lp.length cp, .slice Ao lo.length co, .int .u8 (e : Int), .int .u32 (mn : Int), .slice As ls.length cs] 52)).alloc (.cells #[.int .u8 206, .int .u8 15, .func (Fn.func 108) #[] #[], .func (Fn.func 109) #[] #[], .func (Fn.func 104) #[] #[]] 125)).alloc (.cells #[.int .u8 0, .int .u8 0, .slice none 0 0, .int .u8 0] 40) := ⟨_, rfl⟩
  have hs3 : w3.heap.size = w.heap.size + 1 + 1 + 1 := by rw [hw3]; simp
  have hK3 : Kp (fun _ => True) w w3 := hw3 ▸ (((Kp.refl _ _).alloc _).alloc _).alloc _
  have M3 : Blk w3 w.heap.size 52 #[.int .u8 s, .int .u32 (sd : Int), .int .u32 (md : Int), .slice Ap lp.length cp, .slice Ao lo.length co, .int .u8 (e : Int), .int .u32 (mn : Int), .slice As ls.length cs] := hw3 ▸ ((Blk.new w _ _).alloc _).alloc _
  have T3 : Blk w3 (w.heap.size + 1) 125 #[.int .u8 206, .int .u8 15, .func (Fn.func 108) #[] #[], .func (Fn.func 109) #[] #[], .func (Fn.func 104) #[] #[]] := by
    have := (Blk.new (w.alloc (.cells #[.int .u8 s, .int .u32 (sd : Int), .int .u32 (md : Int), .slice Ap lp.length cp, .slice Ao lo.length co, .int .u8 (e : Int), .int .u32 (mn : Int), .slice As ls.length cs] 52)) 125 #[.int .u8 206, .int .u8 15, .func (Fn.func 108) #[] #[], .func (Fn.func 109) #[] #[], .func (Fn.func 104) #[] #[]]).alloc (.cells #[.int .u8 0, .int .u8 0, .slice none 0 0, .int .u8 0] 40)
    rw [← hw3, World.size_alloc] at this
    exact this
  have Z3 : Blk w3 (w.heap.size + 1 + 1) 40 #[.int .u8 0, .int .u8 0, .slice none 0 0, .int .u8 0] := by
    have := Blk.new ((w.alloc (.cells #[.int .u8 s, .int .u32 (sd : Int), .int .u32 (md : Int), .slice Ap lp.length cp, .slice Ao lo.length co, .int .u8 (e : Int), .int .u32 (mn : Int), .slice As ls.length cs] 52)).alloc (.cells #[.int .u8 206, .int .u8 15, .func (Fn.func 108) #[] #[], .func (Fn.func 109) #[] #[], .func (Fn.func 104) #[] #[]] 125)) 40 #[.int .u8 0, .int .u8 0, .slice none 0 0, .int .u8 0]
    rw [← hw3, World.size_alloc, World.size_alloc] at this
    exact this
  have s3 : w3.drew.cell? ⟨w.heap.size, 1, none⟩ = some (.int .u32 (sd : Int)) ∧ w3.drew.cell? ⟨w.heap.size, 2, none⟩ = some (.int .u32 (md : Int)) := ⟨M3.cell 1, M3.cell 2⟩
  go_enter Try.func74, Try.ntmps74
  go_upto_region 1 with (fail)
  rw [← hw3]
  clear hw3
  go_region_held3 (fun W => W.cell? ⟨w.heap.size, 1, none⟩ = some (.int .u32 (sd : Int)) ∧ W.cell? ⟨w.heap.size, 2, none⟩ = some (.int .u32 (md : Int)))
    (first | exact s3 | exact s4 | exact s5 | exact s6)
    (first
      | (go_at_call 81; refine (new2 _).mono ?_; (rintro e_ wn ⟨rfl, hWn, hKn, hsn⟩); have hK4 := hK3.drew.trans hKn; have s4 := And.intro (hKn.cell_some s3.1 trivial) (hKn.cell_some s3.2 trivial); have M4 := M3.drew.kp hKn trivial; have T4 := T3.drew.kp hKn trivial; have Z4 := Z3.drew.kp hKn trivial; have hps : w3.drew.heap.size = w.heap.size + 1 + 1 + 1 := hs3; rw [hps] at hWn hsn; rw [hps]; have L4 : LW w wn w.heap.size (.slice none 0 0) := (⟨fun g hg => (by simp [Value.ownBlock] at hg), hK4.mono (fun _ _ _ => trivial), hK4.size⟩); have FM4 : Far wn (w.heap.size + 1 + 1 + 1) (.slice none 0 0) w.heap.size := (⟨by omega, by omega, by simp [Value.ownBlock]⟩); have FT4 : Far wn (w.heap.size + 1 + 1 + 1) (.slice none 0 0) (w.heap.size + 1) := (⟨by omega, by omega, by simp [Value.ownBlock]⟩); have FZ4 : Far wn (w.heap.size + 1 + 1 + 1) (.slice none 0 0) (w.heap.size + 1 + 1) := (⟨by omega, by omega, by simp [Value.ownBlock]⟩))
      | (go_at_call_of 84 (Value.int .u64 (sd : Int)); refine (put2 hWn _ sd rfl (by omega) _ 32 (pk_nat 32 (by omega)) (by simp)).mono ?_; (rintro e_ wp ⟨rfl, v4, hW4, hN4⟩); have s5 := And.intro (hN4.cell FM4 s4.1) (hN4.cell FM4 s4.2); have M5 := M4.kp hN4.1 FM4; have T5 := T4.kp hN4.1 FT4; have Z5 := Z4.kp hN4.1 FZ4; have FM5 := FM4.next hN4; have FT5 := FT4.next hN4; have FZ5 := FZ4.next hN4; have L4' := L4.next hN4 (by omega))
      | (go_at_call_of 84 (Value.int .u64 (md : Int)); refine (put2 hW4 _ md rfl (by omega) _ 32 (pk_nat 32 (by omega)) (by simp [ofn_length])).mono ?_; (rintro e_ w5 ⟨rfl, v5, hW5, hN5⟩); have s6 := And.intro (hN5.cell FM5 s5.1) (hN5.cell FM5 s5.2); have M6 := M5.kp hN5.1 FM5; have T6 := T5.kp hN5.1 FT5; have Z6 := Z5.kp hN5.1 FZ5; have FM6 := FM5.next hN5; have FT6 := FT5.next hN5; have FZ6 := FZ5.next hN5; have L5 := L4'.next hN5 (by omega)))
  have hnil : ∀ L : List Nat, [] ++ ofn sd 32 ++ ofn md 32 ++ L = ofn sd 32 ++ ofn md 32 ++ L := fun _ => rfl
  have cM := M6.cell
  have cT := T6.cell
  go_wp2_with fail
  refine (putRate_any hW5 L5 (by omega) _ _ _ e mn _ _ ⟨_, _, _, rfl⟩ ⟨_, _, _, rfl⟩ he hmn hS hos hls (by simp [ofn_length])).mono ?_
  rintro e_ w6 ⟨rfl, v6, hW6, hN6⟩
  have T7 := T6.kp hN6.1 FT6
  have Z7 := Z6.kp hN6.1 FZ6
  have L7 := L5.next hN6 (by omega)
  clear cM cT
  have s7 : w6.drew.cell? ⟨w.heap.size + 1, 0, none⟩ = some (.int .u8 206) ∧ w6.drew.cell? ⟨w.heap.size + 1, 1, none⟩ = some (.int .u8 15) := ⟨T7.cell 0, T7.cell 1⟩
  have hne1 : w.heap.size + 1 ≠ w.heap.size + 1 + 1 := by omega
  have hlen : Hd (([] ++ ofn sd 32 ++ ofn md 32 ++ rateD e mn ls).length ≤ 1000000000000) := hd (by simp [ofn_length, sourcesD_length, rateD]; omega)
  go_wp2_with fail
  go_region_held3 (fun W => W.cell? ⟨w.heap.size + 1, 0, none⟩ = some (.int .u8 206) ∧ W.cell? ⟨w.heap.size + 1, 1, none⟩ = some (.int .u8 15))
    (first | with_reducible exact s9 | exact s7 | exact s8)
    (first
      | (go_at_call 85; refine (out2 (hW6).drew hlen.out).mono ?_; (rintro e_ w8 ⟨v8, rfl, hO, hK8⟩); have s8 := And.intro (hK8.cell_some s7.1 trivial) (hK8.cell_some s7.2 trivial); have Z8 := Z7.drew.kp hK8 trivial; have c8 := Z8.cell; have f8 := Z8.frozen; obtain ⟨A8, n8, q8, rfl⟩ := own_slice' hO; have T9 := ((((T7.drew.kp hK8 trivial).far (p := ⟨w.heap.size + 1 + 1, 0, none⟩) hne1 (.int .u8 15)).far (p := ⟨w.heap.size + 1 + 1, 1, none⟩) hne1 (.int .u8 206)).far (p := ⟨w.heap.size + 1 + 1, 2, none⟩) hne1 (.slice A8 n8 q8)).far (p := ⟨w.heap.size + 1 + 1, 3, none⟩) hne1 (.int .u8 0); have s9 := blk_c2 T9 (a := .int .u8 206) (b := .int .u8 15) rfl rfl))
  all_goals
    have hB9 := ((((Z8.set 0 (.int .u8 15)).set 1 (.int .u8 206)).set 2 (.slice A8 n8 q8)).set 3 (.int .u8 0))
    simp only [List.setIfInBounds_toArray, List.set_cons_zero, List.set_cons_succ] at hB9
    go_wp2
    refine bodyPost_ret (results_c rfl _ _ (w.heap.size + 1 + 1) 40 _ (0, 0) _ rfl hB9 Try.underlying40 rfl (by kernel_rfl)) rfl ⟨_, rfl, ?_, ?_⟩
    · have hs6 := L7.size
      have hZl := Z7.lt
      exact own_lower (own_kp hO ((((Kp.refl (· ≠ w.heap.size + 1 + 1) w8).set_.set_).set_).set_) (fun g hg _ => Nat.ne_of_gt (Nat.lt_of_lt_of_le hZl hg))) L7.size
    · exact kp_far (kp_far (Kp.refl _ w) (L7.kp.drew.next hK8 (fun _ _ _ => trivial)) (fun k hk => hk)) ((((Kp.refl (· ≠ w.heap.size + 1 + 1) w8).set_.set_).set_).set_) (fun k hk => by omega)
end Go.Proofs.Ytjcejgolcdgipaa.K7
