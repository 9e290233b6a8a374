/- Several texts of this session, one behind the other. -/
import Derived.Test.YtjcejgolcdgipaaA
import Derived.Test.YtjcejgolcdgipaaB
import Derived.Deep.RegionHeld3
import Derived.Laws.EntriesVeiled
import Derived.Test.YtjcejgolcdgipaaWWords
import Derived.BigRegion

/- Chapter 04: package mark's Put: its closure (flags into a writer), then the whole; for all markings. -/
namespace Go.Proofs.Ytjcejgolcdgipaa
open Go.RowKit

/-- Flags as digits. -/
def fl (xs : List Bool) : List Nat := xs.map Bool.toNat
theorem fl_length (xs : List Bool) : (fl xs).length = xs.length := by simp [fl]

set_option maxHeartbeats 1000000 in
set_option maxRecDepth 100000 in
theorem flags_any {w : World} {p cb sb n : Nat} {v : Value} {D : List Nat} {xs : List Bool} (h : W2 w p v D) (hf : Far w p v cb) (hc : w.cell? ⟨cb, 0, none⟩ = some (.pointer (some ⟨p, 0, none⟩))) (hs : Far w p v sb)
    (hx : ∀ j (hj : j < xs.length), w.cell? ⟨sb, j, none⟩ = some (.bool xs[j])) (hn : xs.length = n) (hl : D.length ≤ 1000) (hn2 : n ≤ 100) :
    Calls Try.prog 82 #[.slice (some ⟨sb, 0, none⟩) n n, .pointer (some ⟨cb, 0, none⟩)] w fun e w' => e = .returned (.tuple #[]) ∧ ∃ v', W2 w' p v' (D ++ fl xs) ∧ Nx w w' p v v' := by
  have HX := hd hx
  have HN := hd hn
  clear hx hn
  go_enter Try.func82, Try.ntmps82
  go_wp2
  go_loopw [7] (fun iv wr => ∃ (i : Nat) (v1 : Value), i ≤ n ∧ iv = .int .i64 i ∧ W2 wr p v1 (D ++ fl (xs.take i)) ∧ Nx w wr p v v1) (fun iv _ => n - (intOf iv).toNat)
  case atStart => exact ⟨0, v, Nat.zero_le _, rfl, by simpa [fl] using h, ⟨Kp.refl _ _, fun g hg => .inl hg⟩⟩
  case round =>
    obtain ⟨i, v1, hi, rfl, hW, hN⟩ := hrel
    by_cases hlt : i < n
    · have hlt' : i < xs.length := by rw [HN.out]; exact hlt
      have hcx := hN.cell hs (HX.out i hlt')
      have hcc := hN.cell hf hc
      have HTK : Hd (fl (xs.take (i + 1)) = fl (xs.take i) ++ [xs[i].toNat]) := hd (by rw [List.take_succ_eq_append_getElem hlt', fl, List.map_append]; rfl)
      have hle : (D ++ fl (xs.take i)).length ≤ 2000 := by rw [List.length_append, fl_length, List.length_take]; omega
      generalize xs[i] = x at *
      clear hlt'
      go_wp2_with fail
      refine (flag2 hW x (by omega)).mono ?_
      rintro e w3 ⟨rfl, v3, hW3, hN3⟩
      go_wp2
      go_roundw
      case rel => exact ⟨i + 1, v3, by omega, by go_num, by rw [HTK.out, ← List.append_assoc]; exact hW3, hN.trans hN3⟩
      case measure => simp [intOf]; omega
    · obtain rfl : i = n := by omega
      rw [List.take_of_length_le (by rw [HN.out]; exact Nat.le_refl _)] at hW
      go_wp2
      go_end0
      exact ⟨rfl, v1, hW, hN⟩

/-- Whether a marking is right. -/
def rightB (l b : Bool) (t li tl : Nat) : Bool := decide (t ≤ 7) && (l || (!b && (t == 0 && (li == 0 && tl == 0))))
set_option maxHeartbeats 1000000 in
set_option maxRecDepth 100000 in
theorem markRight_any (w : World) (s e i d l b : Bool) (t li tl : Nat) :
    Calls Try.prog 50 #[.agg #[.bool s, .bool e, .bool i, .bool d, .bool l, .bool b, .int .u8 (t : Int), .int .u8 (li : Int), .int .u8 (tl : Int)]] w fun e w' => e = .returned (.bool (rightB l b t li tl)) ∧ Kp (fun _ => True) w w' := by
  by_cases ht : t ≤ 7
  · cases l
    · go_enter Try.func50, Try.ntmps50
      go_wp2
      all_goals
        go_ret
        refine ⟨congrArg (fun x => Ending.returned (Value.bool x)) (?_ : _ = rightB _ _ _ _ _), ((Kp.refl _ _).alloc _).alloc _⟩
        simp_all [rightB]
    · go_enter Try.func50, Try.ntmps50
      go_wp2
      go_ret
      refine ⟨congrArg (fun x => Ending.returned (Value.bool x)) (?_ : _ = rightB _ _ _ _ _), ((Kp.refl _ _).alloc _).alloc _⟩
      simp [rightB, ht]
  · go_enter Try.func50, Try.ntmps50
    go_wp2
    go_ret
    refine ⟨congrArg (fun x => Ending.returned (Value.bool x)) (?_ : _ = rightB _ _ _ _ _), ((Kp.refl _ _).alloc _).alloc _⟩
    simp [rightB, ht]

/-- A block's first cells. -/
def MB (w : World) (q : Nat) (cs : List Value) : Prop := ∀ k u, cs[k]? = some u → w.cell? ⟨q, k, none⟩ = some u
theorem MB.new (w : World) (cs : Array Value) (t : TypeId) : MB (w.alloc (.cells cs t)) w.heap.size cs.toList := by
  intro k u hu
  rw [cell_of_row _ _ _ _ _ _ (heap_alloc_new w _)]
  simpa using hu
theorem MB.kp {w w' : World} {q : Nat} {cs : List Value} {F : Nat → Prop} (h : MB w q cs) (hk : Kp F w w') (hF : F q) : MB w' q cs := fun k u hu => hk.cell_some (h k u hu) hF
theorem MB.nx {w w' : World} {p q : Nat} {v v' : Value} {cs : List Value} (h : MB w q cs) (hn : Nx w w' p v v') (hf : Far w p v q) : MB w' q cs := fun k u hu => hn.cell hf (h k u hu)

/-- What Put answers. -/
def markD (s e i d l b : Bool) (t li tl : Nat) : List Nat := fl [s, e, i, d, b] ++ ofn t 3 ++ (if l then ofn li 8 ++ ofn tl 8 else [])
def putM (s e i d l b : Bool) (t li tl : Nat) : List Nat × Nat := if rightB l b t li tl = true then (pack (markD s e i d l b t li tl), 0) else ([], 40)
set_option maxHeartbeats 2000000 in
set_option maxRecDepth 100000 in
theorem markPut_any (w : World) (s e i d l b : Bool) (t li tl : Nat) (ht : t < 256) (hli : li < 256) (htl : tl < 256) :
    Calls Try.prog 49 #[.agg #[.bool s, .bool e, .bool i, .bool d, .bool l, .bool b, .int .u8 (t : Int), .int .u8 (li : Int), .int .u8 (tl : Int)]] w fun e_ w' =>
      ∃ v0, e_ = .returned (.tuple #[v0, .int .i64 ((putM s e i d l b t li tl).2 : Int)]) ∧ w'.ownsRow w.heap.size 5 1 v0 (putM s e i d l b t li tl).1.length (bv (putM s e i d l b t li tl).1) ∧ Kp (fun _ => True) w w' := by
  have hmf : ∀ (fn : Fn) (first cap : Array Value) (w : World), (Instr.makeFunc fn first cap).run Try.prog w = .ok (.func fn first cap) w := fun _ _ _ _ => rfl
  obtain hR | hR : rightB l b t li tl = false ∨ rightB l b t li tl = true := by cases rightB l b t li tl <;> simp
  · have e1 : putM s e i d l b t li tl = ([], 40) := by unfold putM; rw [if_neg (by rw [hR]; decide)]
    rw [e1]
    clear e1
    have HR := hd hR
    clear hR
    go_enter Try.func49, Try.ntmps49
    go_wp2_with fail
    refine (markRight_any _ s e i d l b t li tl).mono ?_
    rintro e_ w1 ⟨rfl, hK1⟩
    rw [HR.out]
    go_wp2
    go_ret2
    exact ⟨_, rfl, World.ownsRow_nil _ _ _ _, ((Kp.refl _ _).alloc _).trans hK1⟩
  · have e1 : putM s e i d l b t li tl = (pack (markD s e i d l b t li tl), 0) := by unfold putM; rw [if_pos hR]
    rw [e1]
    clear e1
    have HR := hd hR
    clear hR
    go_enter Try.func49, Try.ntmps49
    go_wp2_with fail
    refine (markRight_any _ s e i d l b t li tl).mono ?_
    rintro e_ w1 ⟨rfl, hK1⟩
    rw [HR.out]
    have hM := (MB.new w #[.bool s, .bool e, .bool i, .bool d, .bool l, .bool b, .int .u8 (t : Int), .int .u8 (li : Int), .int .u8 (tl : Int)] 84).kp hK1 trivial
    have hK : Kp (fun _ => True) w w1 := ((Kp.refl _ _).alloc _).trans hK1
    have hq : w.heap.size < w1.heap.size := by have := hK1.size; simp at this; omega
    clear hK1
    go_wp2_with fail
    refine (new2 _).mono ?_
    rintro e_ w2 ⟨rfl, hW2, hK2, hs2⟩
    have hM2 := hM.kp hK2 trivial
    have k0 : ∀ o, (w2.alloc o).cell? ⟨w.heap.size, 0, none⟩ = some (.bool s) := fun o => ((Kp.refl (fun _ => True) w2).alloc o).cell_some (hM2 0 _ rfl) trivial
    have k1 : ∀ o, (w2.alloc o).cell? ⟨w.heap.size, 1, none⟩ = some (.bool e) := fun o => ((Kp.refl (fun _ => True) w2).alloc o).cell_some (hM2 1 _ rfl) trivial
    have k2 : ∀ o, (w2.alloc o).cell? ⟨w.heap.size, 2, none⟩ = some (.bool i) := fun o => ((Kp.refl (fun _ => True) w2).alloc o).cell_some (hM2 2 _ rfl) trivial
    have k3 : ∀ o, (w2.alloc o).cell? ⟨w.heap.size, 3, none⟩ = some (.bool d) := fun o => ((Kp.refl (fun _ => True) w2).alloc o).cell_some (hM2 3 _ rfl) trivial
    have k4 : ∀ o, (w2.alloc o).cell? ⟨w.heap.size, 5, none⟩ = some (.bool b) := fun o => ((Kp.refl (fun _ => True) w2).alloc o).cell_some (hM2 5 _ rfl) trivial
    obtain ⟨w3, hw3⟩ : ∃ w3, w3 = (w2.alloc (.cells #[.pointer (some ⟨w1.heap.size, 0, none⟩)] 142)).alloc (.cells #[.bool s, .bool e, .bool i, .bool d, .bool b] 4) := ⟨_, rfl⟩
    have hsz : (w2.alloc (.cells #[.pointer (some ⟨w1.heap.size, 0, none⟩)] 142)).heap.size = w2.heap.size + 1 := by simp
    have hsz3 : w3.heap.size = w2.heap.size + 2 := by rw [hw3]; simp
    have W3 : W2 w3 w1.heap.size (.slice none 0 0) [] := hw3 ▸ (hW2.alloc _).alloc _
    have hc3 : w3.cell? ⟨w2.heap.size, 0, none⟩ = some (.pointer (some ⟨w1.heap.size, 0, none⟩)) := hw3 ▸ ((MB.new w2 #[.pointer (some ⟨w1.heap.size, 0, none⟩)] 142).kp ((Kp.refl (fun _ => True) _).alloc _) trivial) 0 _ rfl
    have hx3 : ∀ j (hj : j < [s, e, i, d, b].length), w3.cell? ⟨w2.heap.size + 1, j, none⟩ = some (.bool [s, e, i, d, b][j]) := fun j hj => by
      have h := MB.new (w2.alloc (.cells #[.pointer (some ⟨w1.heap.size, 0, none⟩)] 142)) #[.bool s, .bool e, .bool i, .bool d, .bool b] 4
      rw [hsz, ← hw3] at h
      refine h j _ ?_
      show ([s, e, i, d, b].map Value.bool)[j]? = _
      rw [List.getElem?_map, List.getElem?_eq_getElem hj]
      rfl
    have hF3 : Far w3 w1.heap.size (.slice none 0 0) w2.heap.size := ⟨by omega, by omega, by simp [Value.ownBlock]⟩
    have hS3 : Far w3 w1.heap.size (.slice none 0 0) (w2.heap.size + 1) := ⟨by omega, by omega, by simp [Value.ownBlock]⟩
    have hQ3 : Far w3 w1.heap.size (.slice none 0 0) w.heap.size := ⟨by omega, by omega, by simp [Value.ownBlock]⟩
    have hM3 := hM2.kp (w' := w3) (hw3 ▸ (((Kp.refl (fun _ => True) _).alloc _).alloc _)) trivial
    have hK3 : Kp (fun _ => True) w w3 := (hK.trans hK2).trans (hw3 ▸ (((Kp.refl (fun _ => True) _).alloc _).alloc _))
    have HX3 := hd hx3
    clear hx3 hsz
    go_wp2_with fail
    rw [← hw3]
    refine (flags_any (n := 5) W3 hF3 hc3 hS3 HX3.out rfl (by simp) (by omega)).mono ?_
    rintro e_ w4 ⟨rfl, v4, hW4, hN4⟩
    have hM4 := hM3.nx hN4 hQ3
    have hQ4 := hQ3.next hN4
    have hc4 := hN4.cell hF3 hc3
    have hF4 := hF3.next hN4
    have hs4 : w3.heap.size ≤ w4.heap.size := hN4.1.size
    have hLW : LW w w4 w.heap.size v4 := ⟨fun g hg => by
      rcases hN4.2 g hg with h | h
      · simp [Value.ownBlock] at h
      · omega, (hK3.mono fun _ _ _ => trivial).next hN4.1 (fun k hk hl => ⟨by omega, by omega, by simp [Value.ownBlock]⟩), by omega⟩
    have e64 : (t : Int) % 18446744073709551616 = t := by omega
    have k6 := hM4 6 _ rfl
    have hfl : ([] ++ fl [s, e, i, d, b]).length = 5 := by simp [fl]
    have HFL := hd hfl
    have HM4 := hd hM4
    clear hfl hM4 hM3 hM2 hM k0 k1 k2 k3 k4
    go_wp2_with fail
    refine (put2 hW4 _ t rfl (by omega) _ 3 (pk_nat 3 (by omega)) (by rw [HFL.out]; omega)).mono ?_
    rintro e_ w5 ⟨rfl, v5, hW5, hN5⟩
    have hM5 := HM4.out.nx hN5 hQ4
    have hQ5 := hQ4.next hN5
    have hc5 := hN5.cell hF4 hc4
    have hF5 := hF4.next hN5
    have hL5 := hLW.next hN5 (by omega)
    have k7 := hM5 4 _ rfl
    have hfl : (([] ++ fl [s, e, i, d, b]) ++ ofn t 3).length = 8 := by simp [fl, ofn_length]
    have HFL5 := hd hfl
    have HM5 := hd hM5
    clear hfl hM5 k6
    cases l
    · have hD : [] ++ fl [s, e, i, d, b] ++ ofn t 3 = markD s e i d false b t li tl := by simp [markD]
      have HD := hd hD
      clear hD
      go_wp2_with fail
      refine (out2 hW5 (by rw [HFL5.out]; omega)).mono ?_
      rintro e_ w6 ⟨v6, rfl, hO, hK6⟩
      rw [HD.out] at hO
      go_wp2
      go_ret2
      exact ⟨v6, rfl, own_mono hO hL5.size, (hL5.kp.low hK6 (fun _ _ => trivial)).all⟩
    · have hD : [] ++ fl [s, e, i, d, b] ++ ofn t 3 ++ ofn li 8 ++ ofn tl 8 = markD s e i d true b t li tl := by simp [markD]
      have HD := hd hD
      clear hD
      have P5 := hW5.drew
      have L5 := hL5.drew
      have F5 : Far w5.drew w1.heap.size v5 w2.heap.size := hF5
      have Q5 : Far w5.drew w1.heap.size v5 w.heap.size := hQ5
      have s5 : w5.drew.cell? ⟨w2.heap.size, 0, none⟩ = some (.pointer (some ⟨w1.heap.size, 0, none⟩)) ∧ w5.drew.cell? ⟨w.heap.size, 7, none⟩ = some (.int .u8 (li : Int)) ∧ w5.drew.cell? ⟨w.heap.size, 8, none⟩ = some (.int .u8 (tl : Int)) := ⟨hc5, HM5.out 7 _ rfl, HM5.out 8 _ rfl⟩
      have hw1 : IntKind.u64.wrap (li : Int) = li := IntWalk.u64_in _ (by omega)
      have hw2 : IntKind.u64.wrap (tl : Int) = tl := IntWalk.u64_in _ (by omega)
      go_wp2_with fail
      go_region_held3 (fun W => W.cell? ⟨w2.heap.size, 0, none⟩ = some (.pointer (some ⟨w1.heap.size, 0, none⟩)) ∧ W.cell? ⟨w.heap.size, 7, none⟩ = some (.int .u8 (li : Int)) ∧ W.cell? ⟨w.heap.size, 8, none⟩ = some (.int .u8 (tl : Int)))
        (first | exact s5 | exact s6 | exact s7)
        (first
          | (go_at_call_of 84 (Value.int .u64 (li : Int)); refine (put2 P5 _ li rfl (by omega) _ 8 (pk_nat 8 (by omega)) (by rw [HFL5.out]; omega)).mono ?_; (rintro e_ w6 ⟨rfl, v6, hW6, hN6⟩); have L6 := L5.next hN6 (by omega); have F6 := F5.next hN6; have Q6 := Q5.next hN6; have s6 := And.intro (hN6.cell F5 s5.1) (And.intro (hN6.cell Q5 s5.2.1) (hN6.cell Q5 s5.2.2)))
          | (go_at_call_of 84 (Value.int .u64 (tl : Int)); refine (put2 hW6 _ tl rfl (by omega) _ 8 (pk_nat 8 (by omega)) (by rw [List.length_append, HFL5.out, ofn_length]; omega)).mono ?_; (rintro e_ w7 ⟨rfl, v7, hW7, hN7⟩); have L7 := L6.next hN7 (by omega); have s7 := And.intro (hN7.cell F6 s6.1) (And.intro (hN7.cell Q6 s6.2.1) (hN7.cell Q6 s6.2.2))))
      all_goals
        have hc7 := s7.1
        go_wp2_with fail
        refine (out2 hW7 (by rw [List.length_append, List.length_append, HFL5.out, ofn_length, ofn_length]; omega)).mono ?_
        rintro e_ w8 ⟨v8, rfl, hO, hK8⟩
        rw [HD.out] at hO
        go_wp2
        go_ret2
        exact ⟨v8, rfl, own_mono hO L7.size, (L7.kp.low hK8 (fun _ _ => trivial)).all⟩
end Go.Proofs.Ytjcejgolcdgipaa

/- Chapter 04: package mark's Parse; for all bytes. -/
namespace Go.Proofs.Ytjcejgolcdgipaa
open Go.RowKit Go.Proofs.YtjcejgolcdgipaaW.PrintWords

/-- What Parse answers: the nine fields and the error. -/
structure MK where
  s : Bool
  e : Bool
  i : Bool
  d : Bool
  l : Bool
  b : Bool
  t : Nat
  li : Nat
  tl : Nat
def MK.agg (m : MK) : Value := .agg #[.bool m.s, .bool m.e, .bool m.i, .bool m.d, .bool m.l, .bool m.b, .int .u8 (m.t : Int), .int .u8 (m.li : Int), .int .u8 (m.tl : Int)]
def MK.no : MK := ⟨false, false, false, false, false, false, 0, 0, 0⟩
def bit (bs : List Nat) (k : Nat) : Bool := vl bs k 1 == 1
def mkOf (bs : List Nat) : MK :=
  ⟨bit bs 0, bit bs 1, bit bs 2, bit bs 3, bs.length == 3, bit bs 4, vl bs 5 3, if bs.length = 3 then vl bs 8 8 else 0, if bs.length = 3 then vl bs 16 8 else 0⟩
def parseM (bs : List Nat) : MK × Nat :=
  if bs.length = 1 ∨ bs.length = 3 then
    (let m := mkOf bs; if rightB m.l m.b m.t m.li m.tl = true then (m, 0) else (MK.no, 40))
  else (MK.no, 40)
set_option maxHeartbeats 2000000 in
set_option maxRecDepth 100000 in
theorem markParse_no {w : World} {A : Option Addr} {n c : Nat} {bs : List Nat} (hn : n = bs.length) (h : ¬(bs.length = 1 ∨ bs.length = 3)) :
    Calls Try.prog 53 #[.slice A n c] w fun e w' => e = .returned (.tuple #[(parseM bs).1.agg, .int .i64 ((parseM bs).2 : Int)]) ∧ Kp (fun _ => True) w w' := by
  have e1 : parseM bs = (MK.no, 40) := by unfold parseM; rw [if_neg h]
  rw [e1]
  have h1 : n ≠ 1 := by omega
  have h3 : n ≠ 3 := by omega
  have g1 : ((n : Int) != 1) = true := by rw [bne_iff_ne]; omega
  have g3 : ((n : Int) != 3) = true := by rw [bne_iff_ne]; omega
  clear h e1 hn
  go_enter Try.func53, Try.ntmps53
  go_wp2
  exact bodyPost_ret (v := .tuple #[MK.no.agg, .int .i64 40]) (by simp [results, Try.results53, go_sem, MK.no, MK.agg]) rfl ⟨rfl, (Kp.refl _ _).alloc _⟩
set_option maxHeartbeats 2000000 in
set_option maxRecDepth 100000 in
theorem markParse_one {w : World} {A : Option Addr} {n c : Nat} {bs : List Nat} (hs : Sl w (.slice A n c) (bv bs)) (hn : n = 1) (hb : Bts bs) (h : bs.length = 1) :
    Calls Try.prog 53 #[.slice A n c] w fun e w' => e = .returned (.tuple #[(parseM bs).1.agg, .int .i64 ((parseM bs).2 : Int)]) ∧ Kp (fun _ => True) w w' := by
  subst hn
  have hres : parseM bs = if rightB false (bit bs 4) (vl bs 5 3) 0 0 = true then (⟨bit bs 0, bit bs 1, bit bs 2, bit bs 3, false, bit bs 4, vl bs 5 3, 0, 0⟩, 0) else (MK.no, 40) := by
    unfold parseM mkOf
    simp [h]
  have HRES := hd hres
  have HL := hd h
  clear h hres
  go_enter Try.func53, Try.ntmps53
  go_wp2_with fail
  refine (Of_any (hs.alloc _) hb (by rw [HL.out]; omega)).mono ?_
  rintro e w1 ⟨p, v, rfl, hp, hR, hv, hK1⟩
  go_wp2_with fail
  refine (RFlag_lit hR (bit bs 0) rfl (by rw [HL.out]; omega)).mono ?_
  rintro e w2 ⟨rfl, hR2, hK2⟩
  go_wp2_with fail
  refine (RFlag_lit hR2 (bit bs 1) rfl (by rw [HL.out]; omega)).mono ?_
  rintro e w3 ⟨rfl, hR3, hK3⟩
  go_wp2_with fail
  refine (RFlag_lit hR3 (bit bs 2) rfl (by rw [HL.out]; omega)).mono ?_
  rintro e w4 ⟨rfl, hR4, hK4⟩
  go_wp2_with fail
  refine (RFlag_lit hR4 (bit bs 3) rfl (by rw [HL.out]; omega)).mono ?_
  rintro e w5 ⟨rfl, hR5, hK5⟩
  go_wp2_with fail
  refine (RFlag_lit hR5 (bit bs 4) rfl (by rw [HL.out]; omega)).mono ?_
  rintro e w6 ⟨rfl, hR6, hK6⟩
  go_wp2_with fail
  refine (Take_ok hR6 _ 3 rfl (by omega) (by rw [HL.out]; omega)).mono ?_
  rintro e w7 ⟨rfl, hR7, hK7⟩
  have e3 : (vl bs 5 3 : Int) % 256 = vl bs 5 3 := by have := vl_lt bs 5 3; omega
  have hq : w.heap.size ≠ p := by simp at hp; omega
  have hB7 := ((((((((Blk.new w 84 #[.bool false, .bool false, .bool false, .bool false, .bool false, .bool false, .int .u8 0, .int .u8 0, .int .u8 0]).kp hK1 trivial).kp hK2 hq).kp hK3 hq).kp hK4 hq).kp hK5 hq).kp hK6 hq).kp hK7 hq)
  have hK : Kp (· < w.heap.size) w w7 := by
    have hle : w.heap.size ≤ p := by simp at hp; omega
    have hN : ∀ k, k < w.heap.size → k ≠ p := fun k hk => by omega
    exact (((((((((Kp.refl (· < w.heap.size) w).alloc _).next hK1 (fun _ _ _ => trivial)).next hK2 (fun k hk _ => hN k hk)).next hK3 (fun k hk _ => hN k hk)).next hK4 (fun k hk _ => hN k hk)).next hK5 (fun k hk _ => hN k hk)).next hK6 (fun k hk _ => hN k hk)).next hK7 (fun k hk _ => hN k hk))
  go_wp2_with fail
  refine (markRight_any _ (bit bs 0) (bit bs 1) (bit bs 2) (bit bs 3) false (bit bs 4) (vl bs 5 3) 0 0).mono ?_
  rintro e w8 ⟨rfl, hK8⟩
  have hB8 := (hB7.alloc (.cells #[.bool (bit bs 0), .bool (bit bs 1), .bool (bit bs 2), .bool (bit bs 3), .bool false, .bool (bit bs 4), .int .u8 (vl bs 5 3 : Int), .int .u8 0, .int .u8 0] 84)).kp hK8 trivial
  have hC8 := (Blk.new w7 84 #[.bool (bit bs 0), .bool (bit bs 1), .bool (bit bs 2), .bool (bit bs 3), .bool false, .bool (bit bs 4), .int .u8 (vl bs 5 3 : Int), .int .u8 0, .int .u8 0]).kp hK8 trivial
  have hK' : Kp (· < w.heap.size) w w8 := (hK.alloc _).next hK8 (fun _ _ _ => trivial)
  obtain hRt | hRt : rightB false (bit bs 4) (vl bs 5 3) 0 0 = false ∨ rightB false (bit bs 4) (vl bs 5 3) 0 0 = true := by cases rightB false (bit bs 4) (vl bs 5 3) 0 0 <;> simp
  · have hres := HRES.out
    rw [if_neg (by rw [hRt]; decide)] at hres
    rw [hRt]
    have f0 := hB8.frozen
    have c0 := hB8.cell
    have c1 := hC8.cell
    have hS : ∀ k, k < w.heap.size → k < w.heap.size → k ≠ w.heap.size := fun k hk _ => by omega
    have hB9 := (((((((((hB8.set 0 (.bool false)).set 1 (.bool false)).set 2 (.bool false)).set 3 (.bool false)).set 4 (.bool false)).set 5 (.bool false)).set 6 (.int .u8 0)).set 7 (.int .u8 0)).set 8 (.int .u8 0))
    simp only [List.setIfInBounds_toArray, List.set_cons_zero, List.set_cons_succ] at hB9
    go_wp2
    exact bodyPost_ret (results_ct rfl _ _ w.heap.size 84 _ (0, 0) _ rfl hB9 Try.underlying84 rfl (by kernel_rfl)) rfl ⟨by rw [hres]; rfl, (((((((((hK'.set hS).set hS).set hS).set hS).set hS).set hS).set hS).set hS).set hS).all⟩
  · have hres := HRES.out
    rw [if_pos hRt] at hres
    rw [hRt]
    have f0 := hB8.frozen
    have c0 := hB8.cell
    have c1 := hC8.cell
    have hS : ∀ k, k < w.heap.size → k < w.heap.size → k ≠ w.heap.size := fun k hk _ => by omega
    have hB9 := (((((((((hB8.set 0 (.bool (bit bs 0))).set 1 (.bool (bit bs 1))).set 2 (.bool (bit bs 2))).set 3 (.bool (bit bs 3))).set 4 (.bool false)).set 5 (.bool (bit bs 4))).set 6 (.int .u8 (vl bs 5 3 : Int))).set 7 (.int .u8 0)).set 8 (.int .u8 0))
    simp only [List.setIfInBounds_toArray, List.set_cons_zero, List.set_cons_succ] at hB9
    go_wp2
    exact bodyPost_ret (results_ct rfl _ _ w.heap.size 84 _ (0, 0) _ rfl hB9 Try.underlying84 rfl (by kernel_rfl)) rfl ⟨by rw [hres]; rfl, (((((((((hK'.set hS).set hS).set hS).set hS).set hS).set hS).set hS).set hS).set hS).all⟩
set_option maxHeartbeats 2000000 in
set_option maxRecDepth 100000 in
theorem markParse_three {w : World} {A : Option Addr} {n c : Nat} {bs : List Nat} (hs : Sl w (.slice A n c) (bv bs)) (hn : n = 3) (hb : Bts bs) (h : bs.length = 3) :
    Calls Try.prog 53 #[.slice A n c] w fun e w' => e = .returned (.tuple #[(parseM bs).1.agg, .int .i64 ((parseM bs).2 : Int)]) ∧ Kp (fun _ => True) w w' := by
  subst hn
  have hres : parseM bs = if rightB true (bit bs 4) (vl bs 5 3) (vl bs 8 8) (vl bs 16 8) = true then (⟨bit bs 0, bit bs 1, bit bs 2, bit bs 3, true, bit bs 4, vl bs 5 3, vl bs 8 8, vl bs 16 8⟩, 0) else (MK.no, 40) := by
    unfold parseM mkOf
    simp [h]
  have HRES := hd hres
  have HL := hd h
  clear h hres
  go_enter Try.func53, Try.ntmps53
  go_wp2_with fail
  refine (Of_any (hs.alloc _) hb (by rw [HL.out]; omega)).mono ?_
  rintro e w1 ⟨p, v, rfl, hp, hR, hv, hK1⟩
  go_wp2_with fail
  refine (RFlag_lit hR (bit bs 0) rfl (by rw [HL.out]; omega)).mono ?_
  rintro e w2 ⟨rfl, hR2, hK2⟩
  go_wp2_with fail
  refine (RFlag_lit hR2 (bit bs 1) rfl (by rw [HL.out]; omega)).mono ?_
  rintro e w3 ⟨rfl, hR3, hK3⟩
  go_wp2_with fail
  refine (RFlag_lit hR3 (bit bs 2) rfl (by rw [HL.out]; omega)).mono ?_
  rintro e w4 ⟨rfl, hR4, hK4⟩
  go_wp2_with fail
  refine (RFlag_lit hR4 (bit bs 3) rfl (by rw [HL.out]; omega)).mono ?_
  rintro e w5 ⟨rfl, hR5, hK5⟩
  go_wp2_with fail
  refine (RFlag_lit hR5 (bit bs 4) rfl (by rw [HL.out]; omega)).mono ?_
  rintro e w6 ⟨rfl, hR6, hK6⟩
  go_wp2_with fail
  refine (Take_ok hR6 _ 3 rfl (by omega) (by rw [HL.out]; omega)).mono ?_
  rintro e w7 ⟨rfl, hR7, hK7⟩
  have e3 : (vl bs 5 3 : Int) % 256 = vl bs 5 3 := by have := vl_lt bs 5 3; omega
  have e8 : (vl bs 8 8 : Int) % 256 = vl bs 8 8 := by have := vl_lt bs 8 8; omega
  have e16 : (vl bs 16 8 : Int) % 256 = vl bs 16 8 := by have := vl_lt bs 16 8; omega
  have hq : w.heap.size ≠ p := by simp at hp; omega
  have hB7 := ((((((((Blk.new w 84 #[.bool false, .bool false, .bool false, .bool false, .bool false, .bool false, .int .u8 0, .int .u8 0, .int .u8 0]).kp hK1 trivial).kp hK2 hq).kp hK3 hq).kp hK4 hq).kp hK5 hq).kp hK6 hq).kp hK7 hq)
  have hK : Kp (· < w.heap.size) w w7 := by
    have hle : w.heap.size ≤ p := by simp at hp; omega
    have hN : ∀ k, k < w.heap.size → k ≠ p := fun k hk => by omega
    exact (((((((((Kp.refl (· < w.heap.size) w).alloc _).next hK1 (fun _ _ _ => trivial)).next hK2 (fun k hk _ => hN k hk)).next hK3 (fun k hk _ => hN k hk)).next hK4 (fun k hk _ => hN k hk)).next hK5 (fun k hk _ => hN k hk)).next hK6 (fun k hk _ => hN k hk)).next hK7 (fun k hk _ => hN k hk))
  have hpl : p < w7.heap.size := hR7.blk.lt
  have hqc : w7.heap.size ≠ p := by omega
  go_wp2_with fail
  refine (Take_ok (hR7.alloc (.cells #[.bool (bit bs 0), .bool (bit bs 1), .bool (bit bs 2), .bool (bit bs 3), .bool true, .bool (bit bs 4), .int .u8 (vl bs 5 3 : Int), .int .u8 0, .int .u8 0] 84)) _ 8 rfl (by omega) (by rw [HL.out]; omega)).mono ?_
  rintro e w8 ⟨rfl, hR8, hK8⟩
  go_wp2_with fail
  refine (Take_ok hR8 _ 8 rfl (by omega) (by rw [HL.out]; omega)).mono ?_
  rintro e w9 ⟨rfl, hR9, hK9⟩
  have hB9 := ((hB7.alloc (.cells #[.bool (bit bs 0), .bool (bit bs 1), .bool (bit bs 2), .bool (bit bs 3), .bool true, .bool (bit bs 4), .int .u8 (vl bs 5 3 : Int), .int .u8 0, .int .u8 0] 84)).kp hK8 hq).kp hK9 hq
  have hC9 := ((Blk.new w7 84 #[.bool (bit bs 0), .bool (bit bs 1), .bool (bit bs 2), .bool (bit bs 3), .bool true, .bool (bit bs 4), .int .u8 (vl bs 5 3 : Int), .int .u8 0, .int .u8 0]).kp hK8 hqc).kp hK9 hqc
  have hlt7 := hB7.lt
  have hle : w.heap.size ≤ p := by simp at hp; omega
  have hB10 := (hB9.far (p := ⟨w7.heap.size, 7, none⟩) (Nat.ne_of_lt hlt7) (.int .u8 (vl bs 8 8 : Int))).far (p := ⟨w7.heap.size, 8, none⟩) (Nat.ne_of_lt hlt7) (.int .u8 (vl bs 16 8 : Int))
  have hC10 := (hC9.set 7 (.int .u8 (vl bs 8 8 : Int))).set 8 (.int .u8 (vl bs 16 8 : Int))
  simp only [List.setIfInBounds_toArray, List.set_cons_zero, List.set_cons_succ] at hC10
  have hT : ∀ k, k < w.heap.size → k < w.heap.size → k ≠ w7.heap.size := fun k hk _ => by omega
  have hK10 := ((((hK.alloc (.cells #[.bool (bit bs 0), .bool (bit bs 1), .bool (bit bs 2), .bool (bit bs 3), .bool true, .bool (bit bs 4), .int .u8 (vl bs 5 3 : Int), .int .u8 0, .int .u8 0] 84)).next hK8 (fun k hk _ => (by omega : k ≠ p))).next hK9 (fun k hk _ => (by omega : k ≠ p))).set (i := 7) (u := .int .u8 (vl bs 8 8 : Int)) hT).set (i := 8) (u := .int .u8 (vl bs 16 8 : Int)) hT
  have f9 := hC9.frozen
  have c9 := hC9.cell
  go_wp2_with fail
  refine (markRight_any _ (bit bs 0) (bit bs 1) (bit bs 2) (bit bs 3) true (bit bs 4) (vl bs 5 3) (vl bs 8 8) (vl bs 16 8)).mono ?_
  rintro e w11 ⟨rfl, hK11⟩
  have hB11 := hB10.kp hK11 trivial
  have hC11 := hC10.kp hK11 trivial
  have hK' : Kp (· < w.heap.size) w w11 := hK10.next hK11 (fun _ _ _ => trivial)
  clear f9 c9
  obtain hRt | hRt : rightB true (bit bs 4) (vl bs 5 3) (vl bs 8 8) (vl bs 16 8) = false ∨ rightB true (bit bs 4) (vl bs 5 3) (vl bs 8 8) (vl bs 16 8) = true := by cases rightB true (bit bs 4) (vl bs 5 3) (vl bs 8 8) (vl bs 16 8) <;> simp
  · have hres := HRES.out
    rw [if_neg (by rw [hRt]; decide)] at hres
    rw [hRt]
    have f0 := hB11.frozen
    have c0 := hB11.cell
    have c1 := hC11.cell
    have hS : ∀ k, k < w.heap.size → k < w.heap.size → k ≠ w.heap.size := fun k hk _ => by omega
    have hB12 := (((((((((hB11.set 0 (.bool false)).set 1 (.bool false)).set 2 (.bool false)).set 3 (.bool false)).set 4 (.bool false)).set 5 (.bool false)).set 6 (.int .u8 0)).set 7 (.int .u8 0)).set 8 (.int .u8 0))
    simp only [List.setIfInBounds_toArray, List.set_cons_zero, List.set_cons_succ] at hB12
    go_wp2
    exact bodyPost_ret (results_ct rfl _ _ w.heap.size 84 _ (0, 0) _ rfl hB12 Try.underlying84 rfl (by kernel_rfl)) rfl ⟨by rw [hres]; rfl, (((((((((hK'.set hS).set hS).set hS).set hS).set hS).set hS).set hS).set hS).set hS).all⟩
  · have hres := HRES.out
    rw [if_pos hRt] at hres
    rw [hRt]
    have f0 := hB11.frozen
    have c0 := hB11.cell
    have c1 := hC11.cell
    have hS : ∀ k, k < w.heap.size → k < w.heap.size → k ≠ w.heap.size := fun k hk _ => by omega
    have hB12 := (((((((((hB11.set 0 (.bool (bit bs 0))).set 1 (.bool (bit bs 1))).set 2 (.bool (bit bs 2))).set 3 (.bool (bit bs 3))).set 4 (.bool true)).set 5 (.bool (bit bs 4))).set 6 (.int .u8 (vl bs 5 3 : Int))).set 7 (.int .u8 (vl bs 8 8 : Int))).set 8 (.int .u8 (vl bs 16 8 : Int)))
    simp only [List.setIfInBounds_toArray, List.set_cons_zero, List.set_cons_succ] at hB12
    go_wp2
    exact bodyPost_ret (results_ct rfl _ _ w.heap.size 84 _ (0, 0) _ rfl hB12 Try.underlying84 rfl (by kernel_rfl)) rfl ⟨by rw [hres]; rfl, (((((((((hK'.set hS).set hS).set hS).set hS).set hS).set hS).set hS).set hS).set hS).all⟩
/-- mark.Parse, for all bytes. -/
theorem markParse_any {w : World} {A : Option Addr} {n c : Nat} {bs : List Nat} (hs : Sl w (.slice A n c) (bv bs)) (hn : n = bs.length) (hb : Bts bs) :
    Calls Try.prog 53 #[.slice A n c] w fun e w' => e = .returned (.tuple #[(parseM bs).1.agg, .int .i64 ((parseM bs).2 : Int)]) ∧ Kp (fun _ => True) w w' := by
  by_cases h1 : bs.length = 1
  · exact markParse_one hs (by omega) hb h1
  · by_cases h3 : bs.length = 3
    · exact markParse_three hs (by omega) hb h3
    · exact markParse_no hn (by omega)
end Go.Proofs.Ytjcejgolcdgipaa

/- Chapter 04: easelref04.Parse answers what mark.Parse answers; for all bytes. -/
namespace Go.Proofs.Ytjcejgolcdgipaa
open Go.RowKit Go.Proofs.YtjcejgolcdgipaaW.PrintWords

theorem vl_one (bs : List Nat) (k : Nat) (hk : k < 8) : vl bs k 1 = bs.getD 0 0 / 2 ^ (7 - k) % 2 := by
  have := dig_at bs 0 k hk
  rw [Nat.mul_zero, Nat.zero_add] at this
  rw [vl_succ, vl_zero, Nat.add_zero, this]
  omega
theorem vl_three (bs : List Nat) : vl bs 5 3 = bs.getD 0 0 % 8 := by
  have h5 := dig_at bs 0 5 (by omega)
  have h6 := dig_at bs 0 6 (by omega)
  have h7 := dig_at bs 0 7 (by omega)
  simp only [Nat.mul_zero, Nat.zero_add] at h5 h6 h7
  rw [vl_succ, vl_succ, vl_succ, vl_zero, Nat.add_zero, h5, h6, h7]
  simp only [show 7 - 5 = 2 from rfl, show 7 - 6 = 1 from rfl, show 7 - 7 = 0 from rfl]
  omega
/-- A digit of the first byte. -/
def bt0 (b k : Nat) : Bool := b / 2 ^ (7 - k) % 2 == 1
theorem bit_bt (bs : List Nat) (k : Nat) (hk : k < 8) : bit bs k = bt0 (bs.getD 0 0) k := by unfold bit bt0; rw [vl_one bs k hk]
theorem mkOf_three {bs : List Nat} (h : bs.length = 3) (hb : Bts bs) : mkOf bs = ⟨bt0 (bs.getD 0 0) 0, bt0 (bs.getD 0 0) 1, bt0 (bs.getD 0 0) 2, bt0 (bs.getD 0 0) 3, true, bt0 (bs.getD 0 0) 4, bs.getD 0 0 % 8, bs.getD 1 0, bs.getD 2 0⟩ := by
  have h1 := vl_byte bs 1 (hb.getD 1)
  have h2 := vl_byte bs 2 (hb.getD 2)
  unfold mkOf
  rw [if_pos h, if_pos h, vl_three, bit_bt bs 0 (by omega), bit_bt bs 1 (by omega), bit_bt bs 2 (by omega), bit_bt bs 3 (by omega), bit_bt bs 4 (by omega), h, h1, h2]
  rfl
theorem mkOf_one {bs : List Nat} (h : bs.length = 1) : mkOf bs = ⟨bt0 (bs.getD 0 0) 0, bt0 (bs.getD 0 0) 1, bt0 (bs.getD 0 0) 2, bt0 (bs.getD 0 0) 3, false, bt0 (bs.getD 0 0) 4, bs.getD 0 0 % 8, 0, 0⟩ := by
  unfold mkOf
  rw [if_neg (by omega), if_neg (by omega), vl_three, bit_bt bs 0 (by omega), bit_bt bs 1 (by omega), bit_bt bs 2 (by omega), bit_bt bs 3 (by omega), bit_bt bs 4 (by omega), h]
  rfl
theorem parseM_three {bs : List Nat} (h : bs.length = 3) (hb : Bts bs) : parseM bs = (⟨bt0 (bs.getD 0 0) 0, bt0 (bs.getD 0 0) 1, bt0 (bs.getD 0 0) 2, bt0 (bs.getD 0 0) 3, true, bt0 (bs.getD 0 0) 4, bs.getD 0 0 % 8, bs.getD 1 0, bs.getD 2 0⟩, 0) := by
  unfold parseM
  rw [if_pos (Or.inr h), mkOf_three h hb]
  exact if_pos (by unfold rightB; simp; omega)
theorem parseM_one {bs : List Nat} (h : bs.length = 1) : parseM bs = if bs.getD 0 0 % 16 = 0 then (⟨bt0 (bs.getD 0 0) 0, bt0 (bs.getD 0 0) 1, bt0 (bs.getD 0 0) 2, bt0 (bs.getD 0 0) 3, false, false, 0, 0, 0⟩, 0) else (MK.no, 40) := by
  unfold parseM
  rw [if_pos (Or.inl h), mkOf_one h]
  generalize bs.getD 0 0 = b
  by_cases h16 : b % 16 = 0
  · have e4 : bt0 b 4 = false := by unfold bt0; simp only [show 7 - 4 = 3 from rfl]; rw [beq_eq_false_iff_ne]; omega
    have e8 : b % 8 = 0 := by omega
    rw [if_pos h16, e4, e8]
    rfl
  · rw [if_neg h16]
    refine if_neg (fun hr => h16 ?_)
    unfold rightB bt0 at hr
    simp at hr
    omega
/-- Nine stores into one block. -/
def st9 (w : World) (g : Nat) (a0 a1 a2 a3 a4 a5 a6 a7 a8 : Value) : World :=
  ((((((((w.setCell ⟨g, 0, none⟩ a0).setCell ⟨g, 1, none⟩ a1).setCell ⟨g, 2, none⟩ a2).setCell ⟨g, 3, none⟩ a3).setCell ⟨g, 4, none⟩ a4).setCell ⟨g, 5, none⟩ a5).setCell ⟨g, 6, none⟩ a6).setCell ⟨g, 7, none⟩ a7).setCell ⟨g, 8, none⟩ a8
theorem st9_kp (w : World) (g : Nat) (a0 a1 a2 a3 a4 a5 a6 a7 a8 : Value) : Kp (· ≠ g) w (st9 w g a0 a1 a2 a3 a4 a5 a6 a7 a8) := by
  unfold st9
  exact ((((((((((Kp.refl (· ≠ g) w).set_).set_).set_).set_).set_).set_).set_).set_).set_)
theorem st9_blk {w : World} {g : Nat} {t : TypeId} {b0 b1 b2 b3 b4 b5 b6 b7 b8 : Value} (h : Blk w g t #[b0, b1, b2, b3, b4, b5, b6, b7, b8]) (a0 a1 a2 a3 a4 a5 a6 a7 a8 : Value) : Blk (st9 w g a0 a1 a2 a3 a4 a5 a6 a7 a8) g t #[a0, a1, a2, a3, a4, a5, a6, a7, a8] := by
  have h9 := ((((((((h.set 0 a0).set 1 a1).set 2 a2).set 3 a3).set 4 a4).set 5 a5).set 6 a6).set 7 a7).set 8 a8
  simp only [List.setIfInBounds_toArray, List.set_cons_zero, List.set_cons_succ] at h9
  exact h9
theorem kp_far {w w1 w2 : World} {F : Nat → Prop} (h : Kp (fun _ => True) w w1) (hk : Kp F w1 w2) (hF : ∀ k, k < w.heap.size → F k) : Kp (fun _ => True) w w2 :=
  ((h.mono (G := (· < w.heap.size)) (fun _ _ _ => trivial)).next hk (fun k hk _ => hF k hk)).mono (fun _ _ hl => hl)
theorem bt_q0 (b : Nat) (h : b < 256) : decide (128 ≤ (b : Int)) = bt0 b 0 := by
  unfold bt0
  rw [Bool.eq_iff_iff, decide_eq_true_iff, beq_iff_eq]
  simp only [show 7 - 0 = 7 from rfl]
  omega
theorem bt_q (b k d : Nat) (hd : 2 ^ (7 - k) = d) : ((b : Int) / (d : Int) % 2 == 1) = bt0 b k := by
  unfold bt0
  rw [Bool.eq_iff_iff, beq_iff_eq, beq_iff_eq, hd]
  omega
set_option maxHeartbeats 2000000 in
set_option maxRecDepth 100000 in
theorem r4Parse_three {w : World} {A : Option Addr} {n c : Nat} {bs : List Nat} (hs : Sl w (.slice A n c) (bv bs)) (hn : n = 3) (hb : Bts bs) (h : bs.length = 3) :
    Calls Try.prog 54 #[.slice A n c] w fun e w' => e = .returned (.tuple #[(parseM bs).1.agg, .int .i64 ((parseM bs).2 : Int)]) ∧ Kp (fun _ => True) w w' := by
  subst hn
  have HP := hd (parseM_three h hb)
  have l0 := hb.getD 0
  have l1 := hb.getD 1
  have l2 := hb.getD 2
  obtain ⟨g, off, rfl, hg, c0⟩ := hs.at_ (bv_getD bs 0 (by omega))
  obtain ⟨_, _, he, _, c1⟩ := hs.at_ (bv_getD bs 1 (by omega))
  injection he with he; injection he with e1 e2; subst e1 e2
  obtain ⟨_, _, he, _, c2⟩ := hs.at_ (bv_getD bs 2 (by omega))
  injection he with he; injection he with e1 e2; subst e1 e2
  generalize bs.getD 0 0 = b0 at *
  generalize bs.getD 1 0 = b1 at *
  generalize bs.getD 2 0 = b2 at *
  clear hs hb h
  have d0 : ∀ o, (w.alloc o).cell? ⟨g, off, none⟩ = some (.int .u8 (b0 : Int)) := fun o => (World.cell?_alloc_lt w o _ hg).trans c0
  rw [HP.out]
  go_enter Try.func54, Try.ntmps54
  go_upto_region 3 with (fail)
  obtain ⟨w1, hw1⟩ : ∃ w1, w1 = w.alloc (.cells #[.bool false, .bool false, .bool false, .bool false, .bool false, .bool false, .int .u8 0, .int .u8 0, .int .u8 0] 87) := ⟨_, rfl⟩
  have hK1 : Kp (fun _ => True) w w1 := hw1 ▸ (Kp.refl _ _).alloc _
  have e0 := hw1 ▸ d0 (.cells #[.bool false, .bool false, .bool false, .bool false, .bool false, .bool false, .int .u8 0, .int .u8 0, .int .u8 0] 87)
  have e0' := hK1.cell_some c0 trivial
  have e1' := hK1.cell_some c1 trivial
  have e2' := hK1.cell_some c2 trivial
  rw [← hw1]
  have hl1 : g < w1.heap.size := by rw [hw1]; simp; omega
  have hZ1 : Blk w1 w.heap.size 87 #[.bool false, .bool false, .bool false, .bool false, .bool false, .bool false, .int .u8 0, .int .u8 0, .int .u8 0] := hw1 ▸ Blk.new w _ _
  clear d0 hw1
  have f0 : ∀ o, (w1.alloc o).cell? ⟨g, off, none⟩ = some (.int .u8 (b0 : Int)) := fun o => (World.cell?_alloc_lt w1 o _ hl1).trans e0
  go_region
  rw [bt_q0 b0 l0, show ((b0 : Int) / 64 % 2 == 1) = bt0 b0 1 from bt_q b0 1 64 rfl, show ((b0 : Int) / 32 % 2 == 1) = bt0 b0 2 from bt_q b0 2 32 rfl, show ((b0 : Int) / 16 % 2 == 1) = bt0 b0 3 from bt_q b0 3 16 rfl]
  obtain ⟨w2, hw2⟩ : ∃ w2, w2 = (w1.alloc (.cells #[.bool (bt0 b0 0), .bool (bt0 b0 1), .bool (bt0 b0 2), .bool (bt0 b0 3), .bool false, .bool false, .int .u8 0, .int .u8 0, .int .u8 0] 87)).drew := ⟨_, rfl⟩
  have hK2 : Kp (fun _ => True) w1 w2 := hw2 ▸ ((Kp.refl _ _).alloc _).drew
  have hM2 : Blk w2 w1.heap.size 87 #[.bool (bt0 b0 0), .bool (bt0 b0 1), .bool (bt0 b0 2), .bool (bt0 b0 3), .bool false, .bool false, .int .u8 0, .int .u8 0, .int .u8 0] := hw2 ▸ (Blk.new w1 _ _).drew
  rw [← hw2]
  clear hw2 f0 e0
  have hne : g ≠ w1.heap.size := by omega
  have a0 : w2.cell? ⟨g, off, none⟩ = some (.int .u8 (b0 : Int)) := hK2.cell_some e0' trivial
  have hfar : ∀ (W : World) (i j : Nat) (u : Value), (W.setCell ⟨w1.heap.size, i, none⟩ u).cell? ⟨g, j, none⟩ = W.cell? ⟨g, j, none⟩ := fun W i j u => World.cell?_setCell_other W _ _ u (fun e => hne (by injection e with e1 _ _; exact e1.symm))
  have q4 : ((b0 : Int) / 8 % 2 == 1) = bt0 b0 4 := bt_q b0 4 8 rfl
  have a1 := hK2.cell_some e1' trivial
  have a2 := hK2.cell_some e2' trivial
  have fM := hM2.frozen
  have cM := hM2.cell
  go_upto_region 10 with (fail)
  obtain ⟨w3, hw3⟩ : ∃ w3, w3 = ((((w2.setCell ⟨w1.heap.size, 4, none⟩ (.bool true)).setCell ⟨w1.heap.size, 5, none⟩ (.bool (bt0 b0 4))).setCell ⟨w1.heap.size, 6, none⟩ (.int .u8 ((b0 : Int) % 8))).setCell ⟨w1.heap.size, 7, none⟩ (.int .u8 (b1 : Int))).setCell ⟨w1.heap.size, 8, none⟩ (.int .u8 (b2 : Int)) := ⟨_, rfl⟩
  have hK3 : Kp (· ≠ w1.heap.size) w2 w3 := hw3 ▸ (Kp.refl _ _).set_.set_.set_.set_.set_
  have hM3 : Blk w3 w1.heap.size 87 #[.bool (bt0 b0 0), .bool (bt0 b0 1), .bool (bt0 b0 2), .bool (bt0 b0 3), .bool true, .bool (bt0 b0 4), .int .u8 ((b0 : Int) % 8), .int .u8 (b1 : Int), .int .u8 (b2 : Int)] := by
    have := ((((hM2.set 4 (.bool true)).set 5 (.bool (bt0 b0 4))).set 6 (.int .u8 ((b0 : Int) % 8))).set 7 (.int .u8 (b1 : Int))).set 8 (.int .u8 (b2 : Int))
    simp only [List.setIfInBounds_toArray, List.set_cons_zero, List.set_cons_succ] at this
    rw [hw3]
    exact this
  have hlz := hZ1.lt
  have hZ3 := (hZ1.kp hK2 trivial).kp hK3 (Nat.ne_of_lt hlz)
  rw [← hw3]
  clear hw3 hfar fM cM a0 a1 a2 q4
  have fZ := hZ3.frozen
  have cZ := hZ3.cell
  have cM := hM3.cell
  go_wp2
  exact bodyPost_ret (results_ct rfl _ _ w.heap.size 87 _ (0, 0) _ rfl (st9_blk hZ3 _ _ _ _ _ _ _ _ _) Try.underlying87 rfl (by kernel_rfl)) rfl
    ⟨rfl, kp_far (kp_far (hK1.trans hK2) hK3 (fun k hk => by omega)) (st9_kp _ _ _ _ _ _ _ _ _ _ _) (fun k hk => by omega)⟩
set_option maxHeartbeats 2000000 in
set_option maxRecDepth 100000 in
theorem r4Parse_one {w : World} {A : Option Addr} {n c : Nat} {bs : List Nat} (hs : Sl w (.slice A n c) (bv bs)) (hn : n = 1) (hb : Bts bs) (h : bs.length = 1) (h16 : bs.getD 0 0 % 16 = 0) :
    Calls Try.prog 54 #[.slice A n c] w fun e w' => e = .returned (.tuple #[(parseM bs).1.agg, .int .i64 ((parseM bs).2 : Int)]) ∧ Kp (fun _ => True) w w' := by
  subst hn
  have HP := hd (parseM_one h)
  rw [if_pos h16] at HP
  have l0 := hb.getD 0
  obtain ⟨g, off, rfl, hg, c0⟩ := hs.at_ (bv_getD bs 0 (by omega))
  generalize bs.getD 0 0 = b0 at *
  clear hs hb h
  have d0 : ∀ o, (w.alloc o).cell? ⟨g, off, none⟩ = some (.int .u8 (b0 : Int)) := fun o => (World.cell?_alloc_lt w o _ hg).trans c0
  have q16 : ((b0 : Int) % 16 != 0) = false := by rw [bne_eq_false_iff_eq]; omega
  rw [HP.out]
  go_enter Try.func54, Try.ntmps54
  go_upto_region 3 with (fail)
  obtain ⟨w1, hw1⟩ : ∃ w1, w1 = w.alloc (.cells #[.bool false, .bool false, .bool false, .bool false, .bool false, .bool false, .int .u8 0, .int .u8 0, .int .u8 0] 87) := ⟨_, rfl⟩
  have hK1 : Kp (fun _ => True) w w1 := hw1 ▸ (Kp.refl _ _).alloc _
  have e0 := hw1 ▸ d0 (.cells #[.bool false, .bool false, .bool false, .bool false, .bool false, .bool false, .int .u8 0, .int .u8 0, .int .u8 0] 87)
  rw [← hw1]
  have hl1 : g < w1.heap.size := by rw [hw1]; simp; omega
  have hZ1 : Blk w1 w.heap.size 87 #[.bool false, .bool false, .bool false, .bool false, .bool false, .bool false, .int .u8 0, .int .u8 0, .int .u8 0] := hw1 ▸ Blk.new w _ _
  clear d0 hw1 q16
  have f0 : ∀ o, (w1.alloc o).cell? ⟨g, off, none⟩ = some (.int .u8 (b0 : Int)) := fun o => (World.cell?_alloc_lt w1 o _ hl1).trans e0
  go_region
  rw [bt_q0 b0 l0, show ((b0 : Int) / 64 % 2 == 1) = bt0 b0 1 from bt_q b0 1 64 rfl, show ((b0 : Int) / 32 % 2 == 1) = bt0 b0 2 from bt_q b0 2 32 rfl, show ((b0 : Int) / 16 % 2 == 1) = bt0 b0 3 from bt_q b0 3 16 rfl]
  obtain ⟨w2, hw2⟩ : ∃ w2, w2 = (w1.alloc (.cells #[.bool (bt0 b0 0), .bool (bt0 b0 1), .bool (bt0 b0 2), .bool (bt0 b0 3), .bool false, .bool false, .int .u8 0, .int .u8 0, .int .u8 0] 87)).drew := ⟨_, rfl⟩
  have hK2 : Kp (fun _ => True) w1 w2 := hw2 ▸ ((Kp.refl _ _).alloc _).drew
  have hM2 : Blk w2 w1.heap.size 87 #[.bool (bt0 b0 0), .bool (bt0 b0 1), .bool (bt0 b0 2), .bool (bt0 b0 3), .bool false, .bool false, .int .u8 0, .int .u8 0, .int .u8 0] := hw2 ▸ (Blk.new w1 _ _).drew
  have hZ2 := hZ1.kp hK2 trivial
  rw [← hw2]
  clear hw2 f0 e0
  have cM := hM2.cell
  have fZ := hZ2.frozen
  have cZ := hZ2.cell
  go_wp2
  exact bodyPost_ret (results_ct rfl _ _ w.heap.size 87 _ (0, 0) _ rfl (st9_blk hZ2 _ _ _ _ _ _ _ _ _) Try.underlying87 rfl (by kernel_rfl)) rfl
    ⟨rfl, kp_far (hK1.trans hK2) (st9_kp _ _ _ _ _ _ _ _ _ _ _) (fun k hk => by omega)⟩
set_option maxHeartbeats 2000000 in
set_option maxRecDepth 100000 in
theorem r4Parse_odd {w : World} {A : Option Addr} {n c : Nat} {bs : List Nat} (hs : Sl w (.slice A n c) (bv bs)) (hn : n = 1) (h : bs.length = 1) (h16 : ¬ bs.getD 0 0 % 16 = 0) :
    Calls Try.prog 54 #[.slice A n c] w fun e w' => e = .returned (.tuple #[(parseM bs).1.agg, .int .i64 ((parseM bs).2 : Int)]) ∧ Kp (fun _ => True) w w' := by
  subst hn
  have HP := hd (parseM_one h)
  rw [if_neg h16] at HP
  obtain ⟨g, off, rfl, hg, c0⟩ := hs.at_ (bv_getD bs 0 (by omega))
  generalize bs.getD 0 0 = b0 at *
  clear hs h
  have d0 : ∀ o, (w.alloc o).cell? ⟨g, off, none⟩ = some (.int .u8 (b0 : Int)) := fun o => (World.cell?_alloc_lt w o _ hg).trans c0
  have q16 : ((b0 : Int) % 16 != 0) = true := by rw [bne_iff_ne]; omega
  rw [HP.out]
  go_enter Try.func54, Try.ntmps54
  go_wp2
  exact bodyPost_ret (v := .tuple #[MK.no.agg, .int .i64 40]) (by simp [results, Try.results54, go_sem, MK.no, MK.agg]) rfl ⟨rfl, (Kp.refl _ _).alloc _⟩
set_option maxHeartbeats 2000000 in
set_option maxRecDepth 100000 in
theorem r4Parse_no {w : World} {A : Option Addr} {n c : Nat} {bs : List Nat} (hn : n = bs.length) (h : ¬(bs.length = 1 ∨ bs.length = 3)) :
    Calls Try.prog 54 #[.slice A n c] w fun e w' => e = .returned (.tuple #[(parseM bs).1.agg, .int .i64 ((parseM bs).2 : Int)]) ∧ Kp (fun _ => True) w w' := by
  have e1 : parseM bs = (MK.no, 40) := by unfold parseM; rw [if_neg h]
  rw [e1]
  have h1 : n ≠ 1 := by omega
  have h3 : n ≠ 3 := by omega
  have g1 : ((n : Int) != 1) = true := by rw [bne_iff_ne]; omega
  have g3 : ((n : Int) != 3) = true := by rw [bne_iff_ne]; omega
  clear h e1 hn
  go_enter Try.func54, Try.ntmps54
  go_wp2
  exact bodyPost_ret (v := .tuple #[MK.no.agg, .int .i64 40]) (by simp [results, Try.results54, go_sem, MK.no, MK.agg]) rfl ⟨rfl, (Kp.refl _ _).alloc _⟩
/-- easelref04.Parse, for all bytes. -/
theorem r4Parse_any {w : World} {A : Option Addr} {n c : Nat} {bs : List Nat} (hs : Sl w (.slice A n c) (bv bs)) (hn : n = bs.length) (hb : Bts bs) :
    Calls Try.prog 54 #[.slice A n c] w fun e w' => e = .returned (.tuple #[(parseM bs).1.agg, .int .i64 ((parseM bs).2 : Int)]) ∧ Kp (fun _ => True) w w' := by
  by_cases h1 : bs.length = 1
  · by_cases h16 : bs.getD 0 0 % 16 = 0
    · exact r4Parse_one hs (by omega) hb h1 h16
    · exact r4Parse_odd hs (by omega) h1 h16
  · by_cases h3 : bs.length = 3
    · exact r4Parse_three hs (by omega) hb h3
    · exact r4Parse_no hn (by omega)
end Go.Proofs.Ytjcejgolcdgipaa
