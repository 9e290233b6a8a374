/- Several texts of this session, one behind the other. -/
import Derived.Test.YtjcejgolcdgipaaK4x0
import Derived.Test.YtjcejgolcdgipaaB
import Derived.Test.YtjcejgolcdgipaaA
import Derived.Deep.RegionHeld3
import Derived.Laws.EntriesVeiled
import Derived.Test.YtjcejgolcdgipaaC

/- Chapter 03: package ext's Put, Find, Form, Parse and Known in the printed words: each contract holds for all arguments at which its plain function tells something. -/
namespace Go.Proofs.Ytjcejgolcdgipaa.K4
open Go.RowKit Go.Proofs.YtjcejgolcdgipaaW.PrintWords Go.Proofs.YtjcejgolcdgipaaW.PrintLast Go.Proofs.YtjcejgolcdgipaaW.PrintMore

/-- Bytes as natural numbers. -/
def nb (l : List Int) : List Nat := l.map Int.toNat
def ib (l : List Nat) : List Int := l.map Int.ofNat
def Oks (l : List Int) : Prop := ∀ x ∈ l, 0 ≤ x ∧ x < 256
instance (l : List Int) : Decidable (Oks l) := by unfold Oks; exact inferInstance
theorem nb_length (l : List Int) : (nb l).length = l.length := by simp [nb]
theorem ib_length (l : List Nat) : (ib l).length = l.length := by simp [ib]
theorem nb_bts {l : List Int} (h : Oks l) : Bts (nb l) := by
  intro b hb
  obtain ⟨x, hx, rfl⟩ := List.mem_map.1 hb
  have := h x hx
  omega
theorem ib_nb {l : List Int} (h : Oks l) : ib (nb l) = l := by
  unfold ib nb
  rw [List.map_map]
  conv => rhs; rw [← List.map_id l]
  apply List.map_congr_left
  intro x hx
  have := h x hx
  show Int.ofNat x.toNat = x
  simp; omega
theorem nb_ib (l : List Nat) : nb (ib l) = l := by
  unfold ib nb
  rw [List.map_map]
  conv => rhs; rw [← List.map_id l]
  apply List.map_congr_left
  intro x _
  simp
theorem ib_oks {l : List Nat} (h : Bts l) : Oks (ib l) := by
  intro x hx
  obtain ⟨b, hb, rfl⟩ := List.mem_map.1 hx
  have := h b hb
  simp; omega
theorem bv_nb {l : List Int} (h : Oks l) : bv (nb l) = l.map (Value.int .u8) := by
  unfold bv nb
  rw [List.map_map]
  apply List.map_congr_left
  intro x hx
  have := h x hx
  show Value.int .u8 ((x.toNat : Nat) : Int) = _
  rw [Int.toNat_of_nonneg this.1]
/-- A slice of scalars that is read, as the hand walks have it. -/
theorem sl_of_scalar {α : Type} {enc : α → Value} {h1 : ∀ x, (enc x).oneCell' = true} {w : World} {A : Option Addr} {l : List α} {c : Nat} (h : Kd.C (Kd.scalar enc h1) w A l.length l) (hc : l.length ≤ c) : Sl w (.slice A l.length c) (l.map enc) := by
  obtain ⟨_, _, hn⟩ := h
  rcases List.eq_nil_or_concat l with rfl | ⟨l', x', rfl⟩
  · exact .inl ⟨rfl, _, _, rfl⟩
  · rw [List.concat_eq_append] at *
    generalize hl : l' ++ [x'] = l at *
    have hpos : 0 < l.length := by rw [← hl]; simp
    obtain ⟨ad, rfl, hcell⟩ := hn hpos
    have hat : ∀ j u, l[j]? = some u → w.cell? (ad.add j) = some (enc u) := by
      intro j u hu
      obtain ⟨cs, _, hK, hcc⟩ := hcell j u hu
      have hK' : cs = [enc u] := hK
      subst hK'
      have := hcc 0 _ rfl
      rwa [show j * (Kd.scalar enc h1).sz + 0 = j from Nat.mul_one j] at this
    have h0 := hat 0 l[0] (List.getElem?_eq_getElem hpos)
    obtain ⟨b, off, spot⟩ := ad
    have hspot : spot = none := by simpa [Addr.add] using World.cell?_spot h0
    subst hspot
    have hb : b < w.heap.size := World.block_lt_of_cell? w _ h0
    refine .inr ⟨fun e => by rw [List.map_eq_nil_iff] at e; rw [e] at hpos; simp at hpos, b, off, c, by rw [List.length_map], by rw [List.length_map]; exact hc, hb, fun j u hu => ?_⟩
    rw [List.getElem?_map] at hu
    obtain ⟨x, hx, rfl⟩ := Option.map_eq_some_iff.1 hu
    have := hat j x hx
    rwa [Addr.add_lit] at this
theorem sl_of_C {w : World} {A : Option Addr} {l : List Int} {c : Nat} (h : Kd.C (Kd.int .u8) w A l.length l) (hc : l.length ≤ c) (ho : Oks l) : Sl w (.slice A l.length c) (bv (nb l)) := by
  rw [bv_nb ho]
  exact sl_of_scalar h hc
/-- A row of bytes of the call's own, as the print has it. -/
theorem R_of_own {w : World} {base : Nat} {e : TypeId} {v : Value} {n : Nat} {bs : List Nat} (h : w.ownsRow base e 1 v n (bv bs)) : Kd.R (Kd.int .u8) e w base (fun _ => True) v (ib bs) := by
  have hl : n = bs.length := by have := h.1; rw [bv_length] at this; omega
  subst hl
  have he : bv bs = encs (Value.int .u8) (ib bs) := by simp [bv, ib, encs]
  rw [he] at h
  exact ⟨fun _ _ => trivial, _, by rw [ib_length]; exact h, Kd.reps_scalar _⟩
theorem R_nilB (e : TypeId) (w : World) (base : Nat) : Kd.R (Kd.int .u8) e w base (fun _ => True) (.slice none 0 0) [] := Kd.R_nil _ _ _ _ _

/-- An element, as the print has it. -/
def toS (p : Nat × List Nat) : S160 := ⟨(p.1 : Int), ib p.2⟩
def ofS (x : S160) : Nat × List Nat := (x.f0.toNat, nb x.f1)
def OkE (x : S160) : Prop := 0 ≤ x.f0 ∧ x.f0 < 256 ∧ Oks x.f1 ∧ x.f1.length ≤ 100000
instance (x : S160) : Decidable (OkE x) := by unfold OkE; exact inferInstance
def OkEs (l : List S160) : Prop := l.length ≤ 100000 ∧ ∀ x ∈ l, OkE x
instance (l : List S160) : Decidable (OkEs l) := by unfold OkEs; exact inferInstance
theorem toS_ofS {x : S160} (h : OkE x) : toS (ofS x) = x := by
  obtain ⟨a, b⟩ := x
  unfold toS ofS
  have h1 := ib_nb h.2.2.1
  have h0 := h.1
  dsimp only at h1 h0 ⊢
  rw [h1, Int.toNat_of_nonneg h0]

theorem S_of_els {w : World} {base : Nat} {v : Value} {E : List (Nat × List Nat)} (h : ElsS base 160 w v E) : Kd.S k160 160 w base (fun _ => True) v (E.map toS) := by
  obtain ⟨L, ho, hl, hi, hD⟩ := h
  refine ⟨fun k => if h : ∃ i, ∃ hi : i < L.length, L[i].2.ownBlock = some k then h.choose else 0, fun _ _ => trivial, els L, ?_, ?_⟩
  · rw [List.length_zipIdx, List.length_map]; exact ho
  refine ⟨by rw [els_length, List.length_zipIdx, List.length_map]; exact congrArg (· * 2) hl, fun j p hj => ?_⟩
  have hjl : j < E.length := by
    have := (List.getElem?_eq_some_iff.1 hj).1
    simpa using this
  have hjL : j < L.length := by omega
  have hp : p = (toS E[j], j) := by
    rw [List.getElem?_zipIdx, List.getElem?_map, List.getElem?_eq_getElem hjl] at hj
    simpa using hj.symm
  subst hp
  obtain ⟨h1, h2, h3, h4⟩ := hi j hjl hjL
  have hseg : ((els L).drop (j * 2)).take 2 = [.int .u8 (L[j].1 : Int), L[j].2] := by
    apply List.ext_getElem?
    intro q
    rw [List.getElem?_take, List.getElem?_drop]
    by_cases hq : q < 2
    · rw [if_pos hq]
      rcases (by omega : q = 0 ∨ q = 1) with rfl | rfl
      · exact els_id L j hjL
      · exact els_data L j hjL
    · rw [if_neg hq, List.getElem?_eq_none (by simp; omega)]
  show (Kd.tag _ k160).M w base _ _ (((els L).drop (j * 2)).take 2)
  rw [hseg, h1]
  refine k160_mkM w base (fun k => (True ∧ some k ≠ v.ownBlock) ∧ (if h : ∃ i, ∃ hi : i < L.length, L[i].2.ownBlock = some k then h.choose else 0) = j) (toS E[j]) ?_
  refine Kd.R_mono (ok := fun k => L[j].2.ownBlock = some k) ?_ (fun k hk => ⟨⟨trivial, ?_⟩, ?_⟩)
  · obtain ⟨_, inner, ho', hr⟩ := R_of_own h4
    exact ⟨fun k hk => hk, inner, ho', hr⟩
  · exact fun e => (rows_ne ho h4 (by decide)) k e.symm hk.symm
  · have hex : ∃ i, ∃ hi : i < L.length, L[i].2.ownBlock = some k := ⟨j, hjL, hk⟩
    show (if h : ∃ i, ∃ hi : i < L.length, L[i].2.ownBlock = some k then h.choose else 0) = j
    rw [dif_pos hex]
    obtain ⟨hi', hk'⟩ := hex.choose_spec
    by_cases hne : hex.choose = j
    · exact hne
    · exact absurd hk (hD _ _ hi' hjL k hne hk')
end Go.Proofs.Ytjcejgolcdgipaa.K4

namespace Go.Proofs.Ytjcejgolcdgipaa
open Go.RowKit

/-- Whether a form may hold an element: its id, how many bytes. -/
def mayB (I L H id : Int) (n : Nat) : Bool := decide (0 < id) && (decide (id ≤ I) && (decide (L ≤ (n : Int)) && decide ((n : Int) ≤ H)))
theorem extMay_any (w : World) (D M I L H S id : Int) (A : Option Addr) (n c : Nat) (hi0 : 0 ≤ id) (hi : id < 256) :
    Calls Try.prog 125 #[.agg #[.int .i64 D, .int .i64 M, .int .i64 I, .int .i64 L, .int .i64 H, .int .u64 S], .agg #[.int .u8 id, .slice A n c]] w fun e w' =>
      e = .returned (.bool (mayB I L H id n)) ∧ Kp (fun _ => True) w w' := by
  unfold mayB
  by_cases h1 : 0 < id
  · have q1 : decide (0 < id) = true := decide_eq_true h1
    by_cases h2 : id ≤ I
    · have q2 : decide (id ≤ I) = true := decide_eq_true h2
      by_cases h3 : L ≤ (n : Int)
      · have q3 : decide (L ≤ (n : Int)) = true := decide_eq_true h3
        rw [q1, q2, q3]
        clear q1 q2 q3
        go_enter Try.func125, Try.ntmps125
        go_wp2
        go_ret
        exact ⟨by simp, ((Kp.refl _ _).alloc _).alloc _⟩
      · have q3 : decide (L ≤ (n : Int)) = false := decide_eq_false h3
        rw [q1, q2, q3]
        go_enter Try.func125, Try.ntmps125
        go_wp2
        go_ret
        exact ⟨by simp, ((Kp.refl _ _).alloc _).alloc _⟩
    · have q2 : decide (id ≤ I) = false := decide_eq_false h2
      rw [q1, q2]
      go_enter Try.func125, Try.ntmps125
      go_wp2
      go_ret
      exact ⟨by simp, ((Kp.refl _ _).alloc _).alloc _⟩
  · have q1 : decide (0 < id) = false := decide_eq_false h1
    rw [q1]
    go_enter Try.func125, Try.ntmps125
    go_wp2
    go_ret
    exact ⟨by simp, ((Kp.refl _ _).alloc _).alloc _⟩
/-- What one element puts: its head, its bytes; all elements, in one form. -/
def elD (D M : Nat) (p : Nat × List Nat) : List Nat := ofn p.1 D ++ (ofn (p.2.length - M) D ++ bd p.2)
def putD (D M : Nat) (E : List (Nat × List Nat)) : List Nat := E.flatMap (elD D M)
theorem putD_snoc (D M : Nat) (E : List (Nat × List Nat)) (p : Nat × List Nat) : putD D M (E ++ [p]) = putD D M E ++ elD D M p := by simp [putD]
theorem elD_length (D M : Nat) (p : Nat × List Nat) : (elD D M p).length = D + (D + 8 * p.2.length) := by simp [elD, ofn_length, bd_length]

/-- In Put's round: the writer, the element's box, the form's box, and what they hold. -/
structure PI (w : World) (p xb fb : Nat) (v : Value) (D : List Nat) (a b c d : Value) (xd : List Nat) : Prop where
  w2 : W2 w p v D
  fx : Far w p v xb
  ff : Far w p v fb
  x0 : w.cell? ⟨xb, 0, none⟩ = some a
  x1 : w.cell? ⟨xb, 1, none⟩ = some b
  f0 : w.cell? ⟨fb, 0, none⟩ = some c
  f1 : w.cell? ⟨fb, 1, none⟩ = some d
  sl : Sl w b (bv xd)
  fs : xd ≠ [] → ∀ g, b.ownBlock = some g → Far w p v g
section
variable {w w' : World} {p xb fb sb : Nat} {v v' : Value} {D D' : List Nat} {a b c d : Value} {xd : List Nat}
theorem PI.S (h : PI w p xb fb v D a b c d xd) : w.cell? ⟨xb, 0, none⟩ = some a ∧ w.cell? ⟨xb, 1, none⟩ = some b ∧ w.cell? ⟨fb, 0, none⟩ = some c ∧ w.cell? ⟨fb, 1, none⟩ = some d := ⟨h.x0, h.x1, h.f0, h.f1⟩
theorem PI.alloc (h : PI w p xb fb v D a b c d xd) (o : Obj) : PI (w.alloc o) p xb fb v D a b c d xd :=
  ⟨h.w2.alloc o, h.fx.alloc o, h.ff.alloc o, (World.cell?_alloc_lt w o _ h.fx.1).trans h.x0, (World.cell?_alloc_lt w o _ h.fx.1).trans h.x1, (World.cell?_alloc_lt w o _ h.ff.1).trans h.f0, (World.cell?_alloc_lt w o _ h.ff.1).trans h.f1, h.sl.alloc o, fun hne g hg => (h.fs hne g hg).alloc o⟩
theorem PI.next (h : PI w p xb fb v D a b c d xd) (hw : W2 w' p v' D') (hn : Nx w w' p v v') : PI w' p xb fb v' D' a b c d xd :=
  ⟨hw, h.fx.next hn, h.ff.next hn, hn.cell h.fx h.x0, hn.cell h.fx h.x1, hn.cell h.ff h.f0, hn.cell h.ff h.f1, hn.sl h.sl (fun hne => h.fs (fun e => hne (by rw [e]; rfl))), fun hne g hg => (h.fs hne g hg).next hn⟩
theorem PI.drew (h : PI w p xb fb v D a b c d xd) : PI w.drew p xb fb v D a b c d xd := ⟨h.w2.drew, h.fx, h.ff, h.x0, h.x1, h.f0, h.f1, h.sl, h.fs⟩
/-- The variadic's box, which holds the data. -/
def PB (w : World) (p sb : Nat) (v b : Value) : Prop := Far w p v sb ∧ w.cell? ⟨sb, 0, none⟩ = some b
theorem PB.new (h : W2 w p v D) (b : Value) (t : TypeId) : PB (w.alloc (.cells #[b] t)) p w.heap.size v b := ⟨h.new _, World.cell?_alloc_at _ _ _ _ rfl⟩
theorem PB.next (h : PB w p sb v b) (hn : Nx w w' p v v') : PB w' p sb v' b := ⟨h.1.next hn, hn.cell h.1 h.2⟩
theorem PI.sls (h : PI w p xb fb v D a b c d xd) (hb : PB w p sb v b) (hbt : Bts xd) : Sls (Far w p v) w (.slice (some ⟨sb, 0, none⟩) 1 1) [xd] := Sls.one hb.1 hb.2 h.sl h.fs hbt
end
/-- What Put has come to. -/
def PutPost (d m : Nat) (I L H : Int) (E : List (Nat × List Nat)) (w : World) (e : Ending) (w' : World) : Prop :=
  ∃ v, Kp (fun _ => True) w w' ∧
      ((E.all (fun x => mayB I L H x.1 x.2.length) = true ∧ e = .returned (.tuple #[v, .int .i64 0]) ∧ w'.ownsRow w.heap.size 5 1 v (pack (putD d m E ++ List.replicate (fillN (putD d m E).length 32) 0)).length (bv (pack (putD d m E ++ List.replicate (fillN (putD d m E).length 32) 0)))) ∨
       (E.all (fun x => mayB I L H x.1 x.2.length) = false ∧ e = .returned (.tuple #[.slice none 0 0, .int .i64 31])))
theorem mayB_le {I L H id : Int} {n : Nat} (h : mayB I L H id n = true) : L ≤ n := by
  unfold mayB at h
  simp at h
  exact h.2.2.1
theorem putD_le (d m : Nat) (hd : d ≤ 64) (E : List (Nat × List Nat)) (hx : ∀ x ∈ E, x.2.length ≤ 100000) : (putD d m E).length ≤ E.length * 900000 := by
  induction E with
  | nil => simp [putD]
  | cons x E ih =>
    have h1 := ih (fun y hy => hx y (List.mem_cons_of_mem _ hy))
    have h2 := hx x List.mem_cons_self
    have h3 : putD d m (x :: E) = elD d m x ++ putD d m E := by simp [putD]
    rw [h3, List.length_append, elD_length, List.length_cons, Nat.succ_mul]
    omega

set_option maxHeartbeats 4000000 in
set_option maxRecDepth 100000 in
theorem extPut_walk {w : World} {A : Option Addr} {c : Nat} {E : List (Nat × List Nat)} (p D M I L H S : Int) (d m : Nat) (hD : D = d) (hdd : d ≤ 64) (hM : M = m) (hmL : M ≤ L)
    (hof : ∀ w, Calls Try.prog 115 #[.int .u16 p] w fun e w' => e = .returned (.tuple #[.agg #[.int .i64 D, .int .i64 M, .int .i64 I, .int .i64 L, .int .i64 H, .int .u64 S], .bool true]) ∧ Kp (fun _ => True) w w')
    (h : Els w (.slice A E.length c) E) (hl : E.length ≤ 100000) (hx : ∀ x ∈ E, x.2.length ≤ 100000) :
    Calls Try.prog 93 #[.int .u16 p, .slice A E.length c] w (PutPost d m I L H E w) := by
  have HO := hd hof
  clear hof
  have HX := hd hx
  clear hx
  have HDD := hd hD
  have HMM := hd hM
  have hD0 : 0 ≤ D := by omega
  have hD64 : D ≤ 64 := by omega
  have hM0 : 0 ≤ M := by omega
  clear hD hM
  go_enter Try.func93, Try.ntmps93
  go_wp2_with fail
  refine (HO.out _).mono ?_
  rintro e w1 ⟨rfl, hK1⟩
  go_wp2_with fail
  refine (new2 _).mono ?_
  rintro e w2 ⟨rfl, hW2, hK2, hlt2⟩
  go_wp2_with fail
  have hK02 : Kp (fun _ => True) w w2 := (hK1.alloc _).trans (hK2.mono fun _ _ _ => trivial)
  have hFb : Blk w2 w1.heap.size 178 #[.int .i64 D, .int .i64 M, .int .i64 I, .int .i64 L, .int .i64 H, .int .u64 S] := (Blk.new w1 _ _).kp hK2 trivial
  have hsz : w.heap.size ≤ w1.heap.size := hK1.size
  simp only [World.size_alloc] at hW2 hlt2
  go_loopw [21] (fun iv wr => ∃ (i : Nat) (v : Value), i ≤ E.length ∧ iv = .int .i64 i ∧ Hd ((E.take i).all (fun x => mayB I L H x.1 x.2.length) = true) ∧ W2 wr (w1.heap.size + 1) v (putD d m (E.take i)) ∧ LW w2 wr (w1.heap.size + 1) v) (fun iv _ => E.length - (intOf iv).toNat)
  case atStart => exact ⟨0, _, Nat.zero_le _, rfl, hd rfl, hW2, ⟨(fun g hg => by cases hg), Kp.refl _ _, by omega⟩⟩
  case round =>
    obtain ⟨i, v, hi, rfl, hall, hW, hLW⟩ := hrel
    have hK := hLW.kp
    have hKw : Kp (· < w.heap.size) w wr := (hK02.mono fun _ _ _ => trivial).next hK (fun k hk _ => by omega)
    by_cases hlt : i < E.length
    · obtain ⟨g, off, Bv, cv, rfl, hg, hc0, hc1, hs, hbt, hid⟩ := h.at_ i hlt
      replace hc0 := hKw.cell_some hc0 hg
      replace hc1 := hKw.cell_some hc1 hg
      have hxl : E[i].2.length ≤ 100000 := HX.out _ (List.getElem_mem hlt)
      have htk : E.take (i + 1) = E.take i ++ [E[i]] := by rw [List.take_succ_eq_append_getElem hlt]
      have hallF : mayB I L H (E[i].1 : Int) E[i].2.length = false → E.all (fun x => mayB I L H x.1 x.2.length) = false := fun hf => by
        rw [List.all_eq_false]
        exact ⟨E[i], List.getElem_mem hlt, by simpa using hf⟩
      generalize hxe : E[i] = x at *
      clear hxe
      obtain ⟨xi, xd⟩ := x
      dsimp only at hc0 hc1 hs hbt hid hxl hallF
      have HTK := hd htk
      have HAF := hd hallF
      clear htk hallF
      have hfl : w1.heap.size < wr.heap.size := Nat.lt_of_lt_of_le hFb.lt hK.size
      have f0 : ∀ o, (wr.alloc o).cell? ⟨w1.heap.size, 0, none⟩ = some (.int .i64 D) := fun o => (World.cell?_alloc_lt wr o _ hfl).trans ((hK.cell (p := ⟨w1.heap.size, 0, none⟩) (by show w1.heap.size < _; omega) hFb.lt).trans (hFb.cell 0))
      have f1 : ∀ o, (wr.alloc o).cell? ⟨w1.heap.size, 1, none⟩ = some (.int .i64 M) := fun o => (World.cell?_alloc_lt wr o _ hfl).trans ((hK.cell (p := ⟨w1.heap.size, 1, none⟩) (by show w1.heap.size < _; omega) hFb.lt).trans (hFb.cell 1))
      have f2 : ∀ o, (wr.alloc o).cell? ⟨w1.heap.size, 2, none⟩ = some (.int .i64 I) := fun o => (World.cell?_alloc_lt wr o _ hfl).trans ((hK.cell (p := ⟨w1.heap.size, 2, none⟩) (by show w1.heap.size < _; omega) hFb.lt).trans (hFb.cell 2))
      have f3 : ∀ o, (wr.alloc o).cell? ⟨w1.heap.size, 3, none⟩ = some (.int .i64 L) := fun o => (World.cell?_alloc_lt wr o _ hfl).trans ((hK.cell (p := ⟨w1.heap.size, 3, none⟩) (by show w1.heap.size < _; omega) hFb.lt).trans (hFb.cell 3))
      have f4 : ∀ o, (wr.alloc o).cell? ⟨w1.heap.size, 4, none⟩ = some (.int .i64 H) := fun o => (World.cell?_alloc_lt wr o _ hfl).trans ((hK.cell (p := ⟨w1.heap.size, 4, none⟩) (by show w1.heap.size < _; omega) hFb.lt).trans (hFb.cell 4))
      have f5 : ∀ o, (wr.alloc o).cell? ⟨w1.heap.size, 5, none⟩ = some (.int .u64 S) := fun o => (World.cell?_alloc_lt wr o _ hfl).trans ((hK.cell (p := ⟨w1.heap.size, 5, none⟩) (by show w1.heap.size < _; omega) hFb.lt).trans (hFb.cell 5))
      cases hmb : mayB I L H (xi : Int) xd.length
      · have HMB := hd hmb
        clear hmb
        go_wp2_with fail
        refine (extMay_any _ _ _ _ _ _ _ _ _ _ _ (by omega) (by omega)).mono ?_
        rw [HMB.out]
        rintro e w3 ⟨rfl, hK4⟩
        go_wp2
        go_ret2
        exact ⟨.slice none 0 0, ((hKw.alloc _).low hK4 (fun _ _ => trivial)).all, .inr ⟨HAF.out HMB.out, rfl⟩⟩
      · have hLn := mayB_le hmb
        have HMB := hd hmb
        clear hmb
        go_wp2_with fail
        refine (extMay_any _ _ _ _ _ _ _ _ _ _ _ (by omega) (by omega)).mono ?_
        rw [HMB.out]
        rintro e w3 ⟨rfl, hK4⟩
        go_wp2_with fail
        have P3 : PI w3 (w1.heap.size + 1) wr.heap.size w1.heap.size v (putD d m (E.take i)) (.int .u8 (xi : Int)) (.slice Bv xd.length cv) (.int .i64 D) (.int .i64 M) xd :=
          ⟨(hW.alloc _).kp hK4 trivial (fun _ _ => trivial), (hW.new _).size hK4.size, ⟨by have := hK4.size; simp at this; omega, by omega, fun e => by have := hLW.own _ e.symm; omega⟩,
            hK4.cell_some ((Blk.new wr _ _).cell 0) trivial, hK4.cell_some ((Blk.new wr _ _).cell 1) trivial, hK4.cell_some (f0 _) trivial, hK4.cell_some (f1 _) trivial, ((hs.low hKw).alloc _).all hK4,
            fun hne g hg => by
              have h7 := hs.lt (fun e => hne (List.map_eq_nil_iff.1 e)) hg
              exact ⟨by have := hK4.size; simp at this; omega, by omega, fun e => by have := hLW.own _ e.symm; omega⟩⟩
        have hK4' : Kp (· < w.heap.size) w w3 := (hKw.alloc _).low hK4 (fun _ _ => trivial)
        have Q3 := ((hLW.alloc _).all hK4).drew
        have hDl : (putD d m (E.take i)).length ≤ 90000000000 := by
          have := putD_le d m hdd (E.take i) (fun x hx => HX.out x (List.mem_of_mem_take hx))
          have h4 : (E.take i).length ≤ 100000 := by rw [List.length_take]; omega
          have h5 := Nat.mul_le_mul_right 900000 h4
          omega
        clear f0 f1 f2 f3 f4 f5 hc0 hc1 hs
        obtain ⟨n, hn⟩ : ∃ n : Nat, (xd.length : Int) - M = n := ⟨((xd.length : Int) - M).toNat, by omega⟩
        have hn' : n = xd.length - m := by have := HMM.out; omega
        have HN := hd hn'
        have hnb : n ≤ 100000 := by omega
        have hw1 : IntKind.i64.wrap ((xd.length : Int) - M) = n := by rw [hn]; exact IntWalk.i64_in _ (by omega)
        have hw2 : IntKind.u64.wrap (n : Int) = n := IntWalk.u64_in _ (by omega)
        have hw3 : IntKind.u64.wrap (xi : Int) = xi := IntWalk.u64_in _ (by omega)
        have hpk : pk D = d := by rw [HDD.out]; exact pk_nat d hdd
        have HPK := hd hpk
        replace P3 := P3.drew
        have s3 := P3.S
        clear hn' hpk hn
        generalize hput : putD d m (E.take i) = PD at *
        have HPUT := hd hput
        clear hput
        go_region_held3 (fun W => W.cell? ⟨wr.heap.size, 0, none⟩ = some (.int .u8 (xi : Int)) ∧ W.cell? ⟨wr.heap.size, 1, none⟩ = some (.slice Bv xd.length cv) ∧ W.cell? ⟨w1.heap.size, 0, none⟩ = some (.int .i64 D) ∧ W.cell? ⟨w1.heap.size, 1, none⟩ = some (.int .i64 M))
          (first | exact s3 | exact (P3.alloc _).S | exact s4 | exact (P4.alloc _).S | exact s5 | exact (P5.alloc _).S | exact s6)
          (first
            | (go_at_call_of 84 (Value.int .u64 (xi : Int)); refine (put2 (v := v) (D := PD) (by first | exact P3.w2 | exact (P3.alloc _).w2) _ xi rfl (by omega) _ d HPK.out (by omega)).mono ?_; (rintro e w4 ⟨rfl, v4, hW4, hN4⟩); (first | (have P4 := P3.next hW4 hN4; have Q4 := Q3.next hN4 (Nat.le_refl _)) | (have P4 := (P3.alloc _).next hW4 hN4; have Q4 := (Q3.alloc _).next hN4 (Nat.le_refl _); have B4 := (PB.new P3.w2 (.slice Bv xd.length cv) 38).next hN4)); have s4 := P4.S)
            | (go_at_call_of 84 (Value.int .u64 (n : Int)); refine (put2 (v := v4) (D := PD ++ ofn xi d) (by first | exact P4.w2 | exact (P4.alloc _).w2) _ n rfl (by omega) _ d HPK.out (by simp [ofn_length]; omega)).mono ?_; (rintro e w5 ⟨rfl, v5, hW5, hN5⟩); (first | (have P5 := P4.next hW5 hN5; have Q5 := Q4.next hN5 (Nat.le_refl _); (try have B5 := B4.next hN5)) | (have P5 := (P4.alloc _).next hW5 hN5; have Q5 := (Q4.alloc _).next hN5 (Nat.le_refl _); have B5 := (PB.new P4.w2 (.slice Bv xd.length cv) 38).next hN5)); have s5 := P5.S)
            | (go_at_call 126; refine (bytes2 (v := v5) (bss := [xd]) (by first | exact P5.w2 | exact (P5.alloc _).w2) (by first | exact P5.sls B5 hbt | exact (P5.alloc _).sls (PB.new P5.w2 _ _) hbt) (by simp [ofn_length]; omega) (by simp)).mono ?_; (rintro e w6 ⟨rfl, v6, hW6, hN6⟩); (first | (have P6 := P5.next hW6 hN6; have Q6 := Q5.next hN6 (Nat.le_refl _)) | (have P6 := (P5.alloc _).next hW6 hN6; have Q6 := (Q5.alloc _).next hN6 (Nat.le_refl _))); have s6 := P6.S))
        all_goals
          go_wp2
          go_roundw
          case rel =>
            refine ⟨i + 1, v6, by omega, by go_num, hd ?_, ?_, Q6⟩
            · rw [HTK.out, List.all_append, hall.out]
              simp [HMB.out]
            · rw [HTK.out, putD_snoc, HPUT.out]
              have h9 := P6.w2
              simp only [List.flatten_cons, List.flatten_nil, List.append_nil, HN.out, List.append_assoc] at h9
              simp only [elD]
              exact h9
          case measure => simp [intOf]; omega
    · obtain rfl : i = E.length := by omega
      rw [List.take_length] at hall hW
      have hDl : (putD d m E).length ≤ 90000000000 := by
        have := putD_le d m hdd E HX.out
        have h5 := Nat.mul_le_mul_right 900000 hl
        omega
      have hf32 : fillN (putD d m E).length 32 ≤ 32 := by unfold fillN; simp only [show Int.toNat 32 = 32 from rfl]; split <;> omega
      go_wp2_with fail
      refine (fill2 hW 32 (by omega) (by omega)).mono ?_
      rintro e w3 ⟨rfl, v3, hW3, hN3⟩
      have Q3 := hLW.next hN3 (Nat.le_refl _)
      go_wp2_with fail
      refine (out2 hW3 (by rw [List.length_append, List.length_replicate]; omega)).mono ?_
      rintro e w4 ⟨v4, rfl, hO, hK4⟩
      go_wp2
      go_ret2
      have hs3 : w.heap.size ≤ w3.heap.size := Nat.le_trans hKw.size hN3.1.size
      exact ⟨v4, (((hK02.mono fun _ _ _ => trivial : Kp (· < w.heap.size) w w2).next Q3.kp (fun k hk _ => by omega)).low hK4 (fun _ _ => trivial)).all, .inl ⟨hall.out, rfl, own_mono hO hs3⟩⟩

set_option maxRecDepth 100000 in
theorem extPut_no {v : Value} (p : Nat) (w : World) (hp6 : p < 65536) (hk : isKnown p = false) :
    Calls Try.prog 93 #[.int .u16 p, v] w fun e w' => e = .returned (.tuple #[.slice none 0 0, .int .i64 30]) ∧ Kp (fun _ => True) w w' := by
  have H2 := hd hk
  clear hk
  go_enter Try.func93, Try.ntmps93
  go_wp2_with (go_at_call 115; refine (extOf_no p _ hp6 H2.out).mono ?_; rintro e w1 ⟨rfl, hK1⟩; unfold form0)
  go_ret2
  exact ⟨rfl, hK1.alloc _⟩
end Go.Proofs.Ytjcejgolcdgipaa

namespace Go.Proofs.Ytjcejgolcdgipaa
open Go.RowKit

/-- The first place where it holds. -/
def idx (P : Nat × List Nat → Bool) (E : List (Nat × List Nat)) : Int := match E.findIdx? P with
  | some i => (i : Int)
  | none => -1
theorem idx_at {P : Nat × List Nat → Bool} {E : List (Nat × List Nat)} {i : Nat} (h : i < E.length) (hp : P E[i] = true) (hn : ∀ x ∈ E.take i, P x = false) : idx P E = i := by
  have : E.findIdx? P = some i := by
    rw [List.findIdx?_eq_some_iff_getElem]
    refine ⟨h, hp, fun j hj => ?_⟩
    have := hn E[j] (by rw [List.mem_take_iff_getElem]; exact ⟨j, by omega, rfl⟩)
    simp [this]
  unfold idx
  rw [this]
theorem idx_no {P : Nat × List Nat → Bool} {E : List (Nat × List Nat)} (hn : ∀ x ∈ E, P x = false) : idx P E = -1 := by
  have : E.findIdx? P = none := by
    rw [List.findIdx?_eq_none_iff]
    exact hn
  unfold idx
  rw [this]
theorem nat_ne_neg (i : Nat) : ((i : Int) == -1) = false := by rw [beq_eq_false_iff_ne]; omega

set_option maxHeartbeats 1000000 in
set_option maxRecDepth 100000 in
theorem IndexFunc_extFind1 {w : World} {A : Option Addr} {c : Nat} {E : List (Nat × List Nat)} (cp : Value) (P : Nat × List Nat → Bool) (J : World → Prop) (hJ : ∀ w w', J w → Kp (fun _ => True) w w' → J w')
    (hc : ∀ (w : World) (x : Nat × List Nat) (B : Option Addr) (k : Nat), J w → x ∈ E → Calls Try.prog 118 #[.agg #[.int .u8 (x.1 : Int), .slice B x.2.length k], cp] w fun e w' => e = .returned (.bool (P x)) ∧ Kp (fun _ => True) w w')
    (h : Els w (.slice A E.length c) E) (hj : J w) (hl : E.length ≤ 100000) :
    Calls Try.prog 117 #[.slice A E.length c, .func (Fn.func 118) #[] #[cp]] w fun e w' => e = .returned (.int .i64 (idx P E)) ∧ Kp (fun _ => True) w w' := by
  have HC := hd hc
  have HJ := hd hJ
  clear hc hJ
  go_enter Try.func117, Try.ntmps117
  go_wp2
  go_loopw [8] (fun iv wr => ∃ i : Nat, i ≤ E.length ∧ iv = .int .i64 i ∧ Hd (∀ x ∈ E.take i, P x = false) ∧ J wr ∧ Kp (fun _ => True) w wr) (fun iv _ => E.length - (intOf iv).toNat)
  case atStart => exact ⟨0, Nat.zero_le _, rfl, hd (by simp), hj, Kp.refl _ _⟩
  case round =>
    obtain ⟨i, hi, rfl, hno, hjr, hK⟩ := hrel
    by_cases hlt : i < E.length
    · obtain ⟨g, off, Bv, cv, rfl, hg, hc0, hc1, hs, hbt, hid⟩ := (h.all hK).at_ i hlt
      have hmem : Hd (E[i] ∈ E) := hd (List.getElem_mem hlt)
      have hyes : Hd (P E[i] = true → idx P E = i) := hd (fun hp => idx_at hlt hp hno.out)
      have htk : Hd (P E[i] = false → ∀ x ∈ E.take (i + 1), P x = false) := hd (fun hp x hx => by
        rw [List.take_succ_eq_append_getElem hlt, List.mem_append] at hx
        rcases hx with hx | hx
        · exact hno.out x hx
        · rw [List.mem_singleton.1 hx]; exact hp)
      have hcc := HC.out wr E[i] Bv cv hjr hmem.out
      generalize E[i] = x at *
      cases hp : P x
      · rw [hp] at hcc
        have HCC := hd hcc
        have HP := hd hp
        clear hcc hp
        go_wp2_with fail
        refine (HCC.out).mono ?_
        rintro e w3 ⟨rfl, hK4⟩
        go_wp2
        go_roundw
        case rel => exact ⟨i + 1, by omega, by go_num, hd (htk.out HP.out), HJ.out _ _ hjr hK4, hK.trans hK4⟩
        case measure => simp [intOf]; omega
      · rw [hp] at hcc
        have HCC := hd hcc
        have HP := hd hp
        clear hcc hp
        go_wp2_with fail
        refine (HCC.out).mono ?_
        rintro e w3 ⟨rfl, hK4⟩
        go_wp2
        go_ret
        exact ⟨ret_int (hyes.out HP.out).symm, hK.trans hK4⟩
    · obtain rfl : i = E.length := by omega
      rw [List.take_length] at hno
      go_wp2
      go_ret
      exact ⟨ret_int (idx_no hno.out).symm, hK⟩

set_option maxHeartbeats 1000000 in
set_option maxRecDepth 100000 in
theorem IndexFunc_extForm1 {w : World} {A : Option Addr} {c : Nat} {E : List (Nat × List Nat)} (cp : Value) (P : Nat × List Nat → Bool) (J : World → Prop) (hJ : ∀ w w', J w → Kp (fun _ => True) w w' → J w')
    (hc : ∀ (w : World) (x : Nat × List Nat) (B : Option Addr) (k : Nat), J w → x ∈ E → Calls Try.prog 124 #[.agg #[.int .u8 (x.1 : Int), .slice B x.2.length k], cp] w fun e w' => e = .returned (.bool (P x)) ∧ Kp (fun _ => True) w w')
    (h : Els w (.slice A E.length c) E) (hj : J w) (hl : E.length ≤ 100000) :
    Calls Try.prog 117 #[.slice A E.length c, .func (Fn.func 124) #[] #[cp]] w fun e w' => e = .returned (.int .i64 (idx P E)) ∧ Kp (fun _ => True) w w' := by
  have HC := hd hc
  have HJ := hd hJ
  clear hc hJ
  go_enter Try.func117, Try.ntmps117
  go_wp2
  go_loopw [8] (fun iv wr => ∃ i : Nat, i ≤ E.length ∧ iv = .int .i64 i ∧ Hd (∀ x ∈ E.take i, P x = false) ∧ J wr ∧ Kp (fun _ => True) w wr) (fun iv _ => E.length - (intOf iv).toNat)
  case atStart => exact ⟨0, Nat.zero_le _, rfl, hd (by simp), hj, Kp.refl _ _⟩
  case round =>
    obtain ⟨i, hi, rfl, hno, hjr, hK⟩ := hrel
    by_cases hlt : i < E.length
    · obtain ⟨g, off, Bv, cv, rfl, hg, hc0, hc1, hs, hbt, hid⟩ := (h.all hK).at_ i hlt
      have hmem : Hd (E[i] ∈ E) := hd (List.getElem_mem hlt)
      have hyes : Hd (P E[i] = true → idx P E = i) := hd (fun hp => idx_at hlt hp hno.out)
      have htk : Hd (P E[i] = false → ∀ x ∈ E.take (i + 1), P x = false) := hd (fun hp x hx => by
        rw [List.take_succ_eq_append_getElem hlt, List.mem_append] at hx
        rcases hx with hx | hx
        · exact hno.out x hx
        · rw [List.mem_singleton.1 hx]; exact hp)
      have hcc := HC.out wr E[i] Bv cv hjr hmem.out
      generalize E[i] = x at *
      cases hp : P x
      · rw [hp] at hcc
        have HCC := hd hcc
        have HP := hd hp
        clear hcc hp
        go_wp2_with fail
        refine (HCC.out).mono ?_
        rintro e w3 ⟨rfl, hK4⟩
        go_wp2
        go_roundw
        case rel => exact ⟨i + 1, by omega, by go_num, hd (htk.out HP.out), HJ.out _ _ hjr hK4, hK.trans hK4⟩
        case measure => simp [intOf]; omega
      · rw [hp] at hcc
        have HCC := hd hcc
        have HP := hd hp
        clear hcc hp
        go_wp2_with fail
        refine (HCC.out).mono ?_
        rintro e w3 ⟨rfl, hK4⟩
        go_wp2
        go_ret
        exact ⟨ret_int (hyes.out HP.out).symm, hK.trans hK4⟩
    · obtain rfl : i = E.length := by omega
      rw [List.take_length] at hno
      go_wp2
      go_ret
      exact ⟨ret_int (idx_no hno.out).symm, hK⟩
end Go.Proofs.Ytjcejgolcdgipaa

namespace Go.Proofs.Ytjcejgolcdgipaa
open Go.RowKit

theorem find1_any (w : World) (x : Nat × List Nat) (B : Option Addr) (k : Nat) (b : Nat) (id : Nat) (hc : w.cell? ⟨b, 0, none⟩ = some (.int .u8 (id : Int))) :
    Calls Try.prog 118 #[.agg #[.int .u8 (x.1 : Int), .slice B x.2.length k], .pointer (some ⟨b, 0, none⟩)] w fun e w' => e = .returned (.bool (x.1 == id)) ∧ Kp (fun _ => True) w w' := by
  have hb := World.block_lt_of_cell? w _ hc
  have hc' : ∀ o, (w.alloc o).cell? ⟨b, 0, none⟩ = some (.int .u8 (id : Int)) := fun o => (World.cell?_alloc_lt w o _ hb).trans hc
  go_enter Try.func118, Try.ntmps118
  go_wp2
  go_ret
  exact ⟨ret_bool (by rw [Bool.eq_iff_iff, beq_iff_eq, beq_iff_eq]; omega), (Kp.refl _ _).alloc _⟩

/-- What Find has come to. -/
def FindPost (id : Nat) (E : List (Nat × List Nat)) (w : World) (e : Ending) (w' : World) : Prop :=
  ∃ v, Kp (fun _ => True) w w' ∧ ((∃ p, E.find? (fun x => x.1 == id) = some p ∧ e = .returned (.tuple #[v, .bool true]) ∧ w'.ownsRow w.heap.size 5 1 v p.2.length (bv p.2)) ∨
    (E.find? (fun x => x.1 == id) = none ∧ e = .returned (.tuple #[.slice none 0 0, .bool false])))

theorem idx_find {P : Nat × List Nat → Bool} {E : List (Nat × List Nat)} : (E.find? P = none ∧ idx P E = -1) ∨ ∃ (i : Nat) (h : i < E.length), idx P E = i ∧ E.find? P = some E[i] := by
  unfold idx
  cases h : E.findIdx? P with
  | none =>
    left
    rw [List.findIdx?_eq_none_iff] at h
    exact ⟨List.find?_eq_none.2 (fun x hx => by simp [h x hx]), rfl⟩
  | some i =>
    right
    have h2 := h
    rw [List.findIdx?_eq_some_iff_getElem] at h
    obtain ⟨hi, hp, _⟩ := h
    refine ⟨i, hi, rfl, ?_⟩
    rw [List.find?_eq_some_iff_getElem]
    exact ⟨hp, i, hi, rfl, fun j hj => by
      have := (List.findIdx?_eq_some_iff_getElem.1 h2).2.2 j hj
      simpa using this⟩

set_option maxRecDepth 100000 in
theorem extFind_any {w : World} {A : Option Addr} {c : Nat} {E : List (Nat × List Nat)} (id : Nat) (h : Els w (.slice A E.length c) E) (hl : E.length ≤ 100000) (hx : ∀ x ∈ E, x.2.length ≤ 100000) :
    Calls Try.prog 88 #[.int .u8 (id : Int), .slice A E.length c] w (FindPost id E w) := by
  have HX := hd hx
  clear hx
  have hmf : ∀ (fn : Fn) (first cap : Array Value) (w : World), (Instr.makeFunc fn first cap).run Try.prog w = .ok (.func fn first cap) w := fun _ _ _ _ => rfl
  go_enter Try.func88, Try.ntmps88
  go_wp2_with fail
  refine (IndexFunc_extFind1 (.pointer (some ⟨w.heap.size, 0, none⟩)) (fun x => x.1 == id) (fun w' => w'.cell? ⟨w.heap.size, 0, none⟩ = some (.int .u8 (id : Int))) (fun _ _ hj hk => hk.cell_some hj trivial) (fun w' x B k hj _ => find1_any w' x B k _ id hj) (h.all ((Kp.refl _ _).alloc _)) (World.cell?_alloc_at _ _ _ _ rfl) hl).mono ?_
  rintro e w1 ⟨rfl, hK1⟩
  have hKw := ((Kp.refl (fun _ => True) w).alloc (.cells #[.int .u8 (id : Int)] 5)).trans (hK1.mono fun _ _ _ => trivial)
  rcases idx_find (P := fun x : Nat × List Nat => x.1 == id) (E := E) with ⟨hf, hi⟩ | ⟨i, hlt, hi, hf⟩
  · rw [hi]
    have HF := hd hf
    clear hf hi
    go_wp2
    go_ret2
    exact ⟨.slice none 0 0, hKw, .inr ⟨HF.out, rfl⟩⟩
  · rw [hi]
    have HF := hd hf
    clear hf hi
    obtain ⟨g, off, Bv, cv, rfl, hg, hc0, hc1, hs, hbt, hid⟩ := (h.all hKw).at_ i hlt
    have hxl := HX.out _ (List.getElem_mem hlt)
    generalize E[i] = x at *
    go_wp2_with fail
    refine (CloneB_any hs (by omega)).mono ?_
    rintro e w2 ⟨v2, rfl, hO, hK2⟩
    go_wp2
    go_ret2
    exact ⟨v2, hKw.trans hK2, .inl ⟨x, HF.out, rfl, own_mono hO hKw.size⟩⟩
end Go.Proofs.Ytjcejgolcdgipaa

namespace Go.Proofs.Ytjcejgolcdgipaa
open Go.RowKit

/-- A form's cells in a box. -/
def FC (w : World) (b : Nat) (cs : Array Value) : Prop := Blk w b 178 cs
theorem form1_any (w : World) (x : Nat × List Nat) (B : Option Addr) (k b : Nat) (D M I L H S : Int) (hid : x.1 < 256) (hb : Blk w b 178 #[.int .i64 D, .int .i64 M, .int .i64 I, .int .i64 L, .int .i64 H, .int .u64 S]) :
    Calls Try.prog 124 #[.agg #[.int .u8 (x.1 : Int), .slice B x.2.length k], .pointer (some ⟨b, 0, none⟩)] w fun e w' => e = .returned (.bool (!mayB I L H x.1 x.2.length)) ∧ Kp (fun _ => True) w w' := by
  have f0 : ∀ o, (w.alloc o).cell? ⟨b, 0, none⟩ = some (.int .i64 D) := fun o => (hb.alloc o).cell 0
  have f1 : ∀ o, (w.alloc o).cell? ⟨b, 1, none⟩ = some (.int .i64 M) := fun o => (hb.alloc o).cell 1
  have f2 : ∀ o, (w.alloc o).cell? ⟨b, 2, none⟩ = some (.int .i64 I) := fun o => (hb.alloc o).cell 2
  have f3 : ∀ o, (w.alloc o).cell? ⟨b, 3, none⟩ = some (.int .i64 L) := fun o => (hb.alloc o).cell 3
  have f4 : ∀ o, (w.alloc o).cell? ⟨b, 4, none⟩ = some (.int .i64 H) := fun o => (hb.alloc o).cell 4
  have f5 : ∀ o, (w.alloc o).cell? ⟨b, 5, none⟩ = some (.int .u64 S) := fun o => (hb.alloc o).cell 5
  have hq : (x.1 : Int) < 256 := by omega
  cases hmb : mayB I L H (x.1 : Int) x.2.length
  all_goals
    have HM := hd hmb
    clear hmb
    go_enter Try.func124, Try.ntmps124
    go_wp2_with fail
    refine (extMay_any _ _ _ _ _ _ _ _ _ _ _ (by omega) (by omega)).mono ?_
    rw [HM.out]
    rintro e w1 ⟨rfl, hK1⟩
    go_wp2
    go_ret
    exact ⟨rfl, ((Kp.refl (fun _ => True) w).alloc _).trans (hK1.mono fun _ _ _ => trivial)⟩

/-- Whether some element is not for a form. -/
def notAll (I L H : Int) (E : List (Nat × List Nat)) : Bool := !E.all (fun x => mayB I L H x.1 x.2.length)
theorem idx_any (P : Nat × List Nat → Bool) (E : List (Nat × List Nat)) : decide ((0 : Int) ≤ idx (fun x => !P x) E) = !E.all P := by
  rcases idx_find (P := fun x => !P x) (E := E) with ⟨hf, hi⟩ | ⟨i, hlt, hi, hf⟩
  · rw [hi]
    have : E.all P = true := by
      rw [List.all_eq_true]
      intro x hx
      have := List.find?_eq_none.1 hf x hx
      simpa using this
    rw [this]
    rfl
  · rw [hi]
    have hp := List.find?_some hf
    have : E.all P = false := by
      rw [List.all_eq_false]
      exact ⟨E[i], List.getElem_mem hlt, by simpa using hp⟩
    rw [this]
    exact decide_eq_true (by omega)
theorem contains_any {w : World} {A : Option Addr} {c b : Nat} {E : List (Nat × List Nat)} (D M I L H S : Int) (h : Els w (.slice A E.length c) E) (hb : Blk w b 178 #[.int .i64 D, .int .i64 M, .int .i64 I, .int .i64 L, .int .i64 H, .int .u64 S]) (hl : E.length ≤ 100000) (hi : ∀ x ∈ E, x.1 < 256) :
    Calls Try.prog 123 #[.slice A E.length c, .func (Fn.func 124) #[] #[.pointer (some ⟨b, 0, none⟩)]] w fun e w' => e = .returned (.bool (notAll I L H E)) ∧ Kp (fun _ => True) w w' := by
  have HI := hd hi
  clear hi
  go_enter Try.func123, Try.ntmps123
  go_wp2_with fail
  refine (IndexFunc_extForm1 (.pointer (some ⟨b, 0, none⟩)) (fun x => !mayB I L H x.1 x.2.length) (fun w' => Blk w' b 178 #[.int .i64 D, .int .i64 M, .int .i64 I, .int .i64 L, .int .i64 H, .int .u64 S]) (fun _ _ hj hk => hj.kp hk trivial) (fun w' x B k hj hx => form1_any w' x B k b D M I L H S (HI.out x hx) hj) h hb hl).mono ?_
  rintro e w1 ⟨rfl, hK1⟩
  have hq := hd (idx_any (fun x => mayB I L H x.1 x.2.length) E)
  generalize idx (fun x => !mayB I L H x.1 x.2.length) E = j at *
  go_wp2
  go_ret
  exact ⟨ret_bool hq.out, hK1⟩

/-- What Form tells. -/
def formOf (E : List (Nat × List Nat)) : Nat × Bool := if notAll 14 1 16 E = false then (48862, true) else if notAll 255 0 255 E = false then (4096, true) else (0, false)
set_option maxHeartbeats 1000000 in
set_option maxRecDepth 100000 in
theorem extForm_any {w : World} {A : Option Addr} {c : Nat} {E : List (Nat × List Nat)} (h : Els w (.slice A E.length c) E) (hl : E.length ≤ 100000) (hi : ∀ x ∈ E, x.1 < 256) :
    Calls Try.prog 92 #[.slice A E.length c] w fun e w' => e = .returned (.tuple #[.int .u16 (formOf E).1, .bool (formOf E).2]) ∧ Kp (fun _ => True) w w' := by
  have HI := hd hi
  clear hi
  have hmf : ∀ (fn : Fn) (first cap : Array Value) (w : World), (Instr.makeFunc fn first cap).run Try.prog w = .ok (.func fn first cap) w := fun _ _ _ _ => rfl
  have i0 : ∀ w, (Instr.index 188 (.agg #[.int .i64 4, .int .i64 1, .int .i64 14, .int .i64 1, .int .i64 16, .int .u64 15, .int .i64 8, .int .i64 0, .int .i64 255, .int .i64 0, .int .i64 255, .int .u64 256]) (.int .i64 0)).run Try.prog w = .ok (.agg #[.int .i64 4, .int .i64 1, .int .i64 14, .int .i64 1, .int .i64 16, .int .u64 15]) w := fun _ => by kernel_rfl
  have i1 : ∀ w, (Instr.index 188 (.agg #[.int .i64 4, .int .i64 1, .int .i64 14, .int .i64 1, .int .i64 16, .int .u64 15, .int .i64 8, .int .i64 0, .int .i64 255, .int .i64 0, .int .i64 255, .int .u64 256]) (.int .i64 1)).run Try.prog w = .ok (.agg #[.int .i64 8, .int .i64 0, .int .i64 255, .int .i64 0, .int .i64 255, .int .u64 256]) w := fun _ => by kernel_rfl
  have j0 : ∀ w, (Instr.index 191 (.agg #[.int .u16 48862, .int .u16 4096]) (.int .i64 0)).run Try.prog w = .ok (.int .u16 48862) w := fun _ => by kernel_rfl
  have j1 : ∀ w, (Instr.index 191 (.agg #[.int .u16 48862, .int .u16 4096]) (.int .i64 1)).run Try.prog w = .ok (.int .u16 4096) w := fun _ => by kernel_rfl
  go_enter Try.func92, Try.ntmps92
  go_wp2_with (go_at_call 122; refine (extForms_any _).mono ?_; rintro e w1 ⟨rfl, rfl⟩)
  have HF1 : Hd (notAll 14 1 16 E = false → formOf E = (48862, true)) := hd (fun hf => by unfold formOf; rw [if_pos hf])
  have HF2 : Hd (notAll 14 1 16 E = true → notAll 255 0 255 E = false → formOf E = (4096, true)) := hd (fun hf h2 => by unfold formOf; rw [if_neg (by rw [hf]; decide), if_pos h2])
  have HF3 : Hd (notAll 14 1 16 E = true → notAll 255 0 255 E = true → formOf E = (0, false)) := hd (fun hf h2 => by unfold formOf; rw [if_neg (by rw [hf]; decide), if_neg (by rw [h2]; decide)])
  have B1 : Hd ( notAll 14 1 16 E = false ∨ notAll 14 1 16 E = true) := hd (by cases notAll 14 1 16 E <;> simp)
  have B2 : Hd ( notAll 255 0 255 E = false ∨ notAll 255 0 255 E = true) := hd (by cases notAll 255 0 255 E <;> simp)
  go_loopw [7] (fun iv wr => ∃ i : Nat, i ≤ 2 ∧ iv = .int .i64 i ∧ Hd ((1 ≤ i → notAll 14 1 16 E = true) ∧ (2 ≤ i → notAll 255 0 255 E = true)) ∧ Kp (fun _ => True) w wr) (fun iv _ => 2 - (intOf iv).toNat)
  case atStart => exact ⟨0, by omega, rfl, hd ⟨fun h => by omega, fun h => by omega⟩, (Kp.refl _ _).alloc _⟩
  case round =>
    obtain ⟨i, hi, rfl, hh, hK⟩ := hrel
    rcases (by omega : i = 0 ∨ i = 1 ∨ i = 2) with rfl | rfl | rfl
    · rcases B1.out with hq | hq
      · have HQ := hd hq
        clear hq
        go_wp2_with fail
        refine (contains_any _ _ _ _ _ _ (h.all (hK.alloc _)) (Blk.new _ _ _) hl HI.out).mono ?_
        rw [HQ.out]
        rintro e w2 ⟨rfl, hK2⟩
        go_wp2
        go_ret2
        rw [HF1.out HQ.out]
        exact ⟨rfl, (hK.alloc _).trans hK2⟩
      · have HQ := hd hq
        clear hq
        go_wp2_with fail
        refine (contains_any _ _ _ _ _ _ (h.all (hK.alloc _)) (Blk.new _ _ _) hl HI.out).mono ?_
        rw [HQ.out]
        rintro e w2 ⟨rfl, hK2⟩
        go_wp2
        go_roundw
        case rel => exact ⟨1, by omega, rfl, hd ⟨fun _ => HQ.out, fun h => by omega⟩, (hK.alloc _).trans hK2⟩
        case measure => simp [intOf]
    · rcases B2.out with hq | hq
      · have HQ := hd hq
        clear hq
        go_wp2_with fail
        refine (contains_any _ _ _ _ _ _ (h.all (hK.alloc _)) (Blk.new _ _ _) hl HI.out).mono ?_
        rw [HQ.out]
        rintro e w2 ⟨rfl, hK2⟩
        go_wp2
        go_ret2
        rw [HF2.out (hh.out.1 (by omega)) HQ.out]
        exact ⟨rfl, (hK.alloc _).trans hK2⟩
      · have HQ := hd hq
        clear hq
        go_wp2_with fail
        refine (contains_any _ _ _ _ _ _ (h.all (hK.alloc _)) (Blk.new _ _ _) hl HI.out).mono ?_
        rw [HQ.out]
        rintro e w2 ⟨rfl, hK2⟩
        go_wp2
        go_roundw
        case rel => exact ⟨2, by omega, rfl, hd ⟨fun _ => hh.out.1 (by omega), fun _ => HQ.out⟩, (hK.alloc _).trans hK2⟩
        case measure => simp [intOf]
    · go_wp2
      go_ret2
      rw [HF3.out (hh.out.1 (by omega)) (hh.out.2 (by omega))]
      exact ⟨rfl, hK⟩
end Go.Proofs.Ytjcejgolcdgipaa

namespace Go.Proofs.Ytjcejgolcdgipaa.K4
open Go.RowKit Go.Proofs.YtjcejgolcdgipaaW.PrintWords Go.Proofs.YtjcejgolcdgipaaW.PrintLast Go.Proofs.YtjcejgolcdgipaaW.PrintMore

theorem list_choose {α : Type} (P : Nat → α → Prop) : ∀ n, (∀ j, j < n → ∃ y, P j y) → ∃ L : List α, L.length = n ∧ ∀ j (h : j < L.length), P j L[j]
  | 0, _ => ⟨[], rfl, fun j h => absurd h (by simp)⟩
  | n + 1, h => by
    obtain ⟨L, hl, hp⟩ := list_choose P n (fun j hj => h j (by omega))
    obtain ⟨y, hy⟩ := h n (by omega)
    refine ⟨L ++ [y], by simp [hl], fun j hj => ?_⟩
    by_cases hlt : j < L.length
    · rw [List.getElem_append_left hlt]; exact hp j hlt
    · have : j = n := by simp at hj; omega
      subst this
      rw [List.getElem_append_right (by omega)]
      simp [hl]; exact hy
/-- Elements that are read, as the hand walks have them. -/
theorem els_of_C {w : World} {A : Option Addr} {l : List S160} {c : Nat} (h : Kd.C k160 w A l.length l) (hc : l.length ≤ c) (ho : OkEs l) : Els w (.slice A (l.map ofS).length c) (l.map ofS) := by
  obtain ⟨_, _, hn⟩ := h
  rw [List.length_map]
  rcases Nat.eq_zero_or_pos l.length with h0 | hpos
  · have : l = [] := List.eq_nil_of_length_eq_zero h0
    subst this
    exact ⟨[], ⟨rfl, .inl ⟨rfl, _, _, rfl⟩⟩, rfl, fun i h => absurd h (by simp)⟩
  obtain ⟨ad, rfl, hcell⟩ := hn hpos
  have hch : ∀ j, j < l.length → ∃ y : Nat × Value, ∃ hj : j < l.length, y.1 = (ofS l[j]).1 ∧ w.cell? (ad.add (j * 2)) = some (.int .u8 (y.1 : Int)) ∧ w.cell? (ad.add (j * 2 + 1)) = some y.2 ∧ Sl w y.2 (bv (ofS l[j]).2) := by
    intro j hj
    obtain ⟨cs, hcl, hK, hcc⟩ := hcell j l[j] (List.getElem?_eq_getElem hj)
    obtain ⟨A1, c1, rfl, hl1, hC⟩ := k160_open hK
    have hok := ho.2 _ (List.getElem_mem hj)
    refine ⟨((ofS l[j]).1, .slice A1 l[j].f1.length c1), hj, rfl, ?_, ?_, sl_of_C hC hl1 hok.2.2.1⟩
    · have := hcc 0 _ rfl
      rw [show j * k160.sz + 0 = j * 2 from rfl] at this
      rw [this]
      show _ = some (Value.int .u8 ((l[j].f0.toNat : Nat) : Int))
      rw [Int.toNat_of_nonneg hok.1]
    · have := hcc 1 _ rfl
      rw [show j * k160.sz + 1 = j * 2 + 1 from rfl] at this
      exact this
  obtain ⟨L, hL, hp⟩ := list_choose _ _ hch
  have h0 := hp 0 (by omega)
  obtain ⟨_, _, hc0, _, _⟩ := h0
  obtain ⟨b, off, spot⟩ := ad
  have hspot : spot = none := by simpa [Addr.add] using World.cell?_spot hc0
  subst hspot
  have hb : b < w.heap.size := World.block_lt_of_cell? w _ hc0
  refine ⟨L, ⟨by rw [els_length, hL, List.length_map], .inr ⟨by rw [List.length_map]; omega, b, off, c, by rw [List.length_map], by rw [List.length_map]; exact hc, hb, fun j u hu => ?_⟩⟩, by rw [hL, List.length_map], fun i h h' => ?_⟩
  · have hj2 : j / 2 < L.length := by
      have := (List.getElem?_eq_some_iff.1 hu).1
      rw [els_length] at this
      omega
    obtain ⟨hjl, _, h1, h2, _⟩ := hp _ hj2
    rw [Addr.add_lit] at h1 h2
    rcases (by omega : j = j / 2 * 2 ∨ j = j / 2 * 2 + 1) with hj | hj
    · rw [hj, els_id L _ hj2] at hu
      injection hu with hu
      rw [hj, ← hu]
      exact h1
    · rw [hj, els_data L _ hj2] at hu
      injection hu with hu
      rw [hj, ← hu]
      exact h2
  · obtain ⟨hjl, h1, _, _, h4⟩ := hp i h'
    have hok := ho.2 _ (List.getElem_mem hjl)
    rw [List.getElem_map]
    exact ⟨h1, by show l[i].f0.toNat < 256; have := hok.1; have := hok.2.1; omega, nb_bts hok.2.2.1, h4⟩
theorem okEs_len {l : List S160} (h : OkEs l) : (l.map ofS).length ≤ 100000 := by rw [List.length_map]; exact h.1
theorem okEs_data {l : List S160} (h : OkEs l) : ∀ x ∈ l.map ofS, x.2.length ≤ 100000 := by
  intro x hx
  obtain ⟨y, hy, rfl⟩ := List.mem_map.1 hx
  show (nb y.f1).length ≤ _
  rw [nb_length]
  exact (h.2 y hy).2.2.2
theorem okEs_id {l : List S160} (h : OkEs l) : ∀ x ∈ l.map ofS, x.1 < 256 := by
  intro x hx
  obtain ⟨y, hy, rfl⟩ := List.mem_map.1 hx
  have := h.2 y hy
  show y.f0.toNat < 256
  have := this.1
  have := (h.2 y hy).2.1
  omega
theorem drawn_below {w w' : World} (h : Kp (fun _ => True) w w') : Below w.heap.size w w' := h.below

def l3_works.f : Option (Bool) := some true
/-- What Put puts. -/
def putR (p : Nat) (E : List (Nat × List Nat)) : List Nat × Nat :=
  if isOne p = true then (if E.all (fun x => mayB 14 1 16 x.1 x.2.length) = true then (pack (putD 4 1 E ++ List.replicate (fillN (putD 4 1 E).length 32) 0), 0) else ([], 31))
  else if isTwo p = true then (if E.all (fun x => mayB 255 0 255 x.1 x.2.length) = true then (pack (putD 8 0 E ++ List.replicate (fillN (putD 8 0 E).length 32) 0), 0) else ([], 31))
  else ([], 30)
def ext_Put.f (a0 : Int) (l1 : List (S160)) : Option (List Int × Int) :=
  if 0 ≤ a0 ∧ a0 < 65536 ∧ OkEs l1 then some (ib (putR a0.toNat (l1.map ofS)).1, ((putR a0.toNat (l1.map ofS)).2 : Int)) else none
theorem putPost_calls {d m : Nat} {I L H : Int} {E : List (Nat × List Nat)} {w : World} {e : Ending} {w' : World} (h : PutPost d m I L H E w e w') :
    ∃ v0_ : Value, e = .returned (.tuple #[v0_, .int .i64 ((if E.all (fun x => mayB I L H x.1 x.2.length) = true then (pack (putD d m E ++ List.replicate (fillN (putD d m E).length 32) 0), 0) else ([], 31) : List Nat × Nat).2 : Int)]) ∧ Kd.R (Kd.int .u8) 5 w' w.heap.size (fun _ => True) v0_ (ib (if E.all (fun x => mayB I L H x.1 x.2.length) = true then (pack (putD d m E ++ List.replicate (fillN (putD d m E).length 32) 0), 0) else ([], 31) : List Nat × Nat).1) ∧ Below w.heap.size w w' := by
  obtain ⟨v, hk, ⟨ha, rfl, ho⟩ | ⟨ha, rfl⟩⟩ := h
  · rw [if_pos ha]
    exact ⟨v, rfl, R_of_own ho, hk.below⟩
  · rw [if_neg (by rw [ha]; decide)]
    exact ⟨_, rfl, R_nilB _ _ _, hk.below⟩
theorem ext_Put.calls (a0 : Int) (A1 : Option Addr) (c1 : Nat) (l1 : List (S160)) (r1 : List Int) (r2 : Int) (w : World) (hr1 : Kd.C k160 w A1 l1.length l1) (hc1 : l1.length ≤ c1) (h : ext_Put.f a0 l1 = some (r1, r2)) :
    Calls Try.prog 93 #[.int .u16 a0, .slice A1 l1.length c1] w fun e w' => ∃ v0_ : Value, e = .returned (.tuple #[v0_, .int .i64 r2]) ∧ Kd.R (Kd.int .u8) 5 w' w.heap.size (fun _ => True) v0_ r1 ∧ Below w.heap.size w w' := by
  unfold ext_Put.f at h
  split at h
  · rename_i hok
    obtain ⟨h0, h6, hE⟩ := hok
    obtain ⟨p, rfl⟩ := Int.eq_ofNat_of_zero_le h0
    rw [Int.toNat_natCast] at h
    injection h with h
    injection h with ha hb
    subst ha hb
    have hels := els_of_C hr1 hc1 hE
    have hlen : l1.length = (l1.map ofS).length := by rw [List.length_map]
    have hl := okEs_len hE
    have hx := okEs_data hE
    rw [hlen]
    generalize l1.map ofS = E at *
    unfold putR
    have hp6 : p < 65536 := by omega
    by_cases h1 : isOne p = true
    · rw [if_pos h1]
      have : p = 48862 := by unfold isOne at h1; simpa using h1
      subst this
      exact (extPut_walk 48862 4 1 14 1 16 15 4 1 rfl (by omega) rfl (by omega) (fun w => extOf_one w) hels hl hx).mono fun e w' hp => putPost_calls hp
    · rw [if_neg h1]
      by_cases h2 : isTwo p = true
      · rw [if_pos h2]
        exact (extPut_walk (p : Int) 8 0 255 0 255 256 8 0 rfl (by omega) rfl (by omega) (fun w => extOf_two p w hp6 h2) hels hl hx).mono fun e w' hp => putPost_calls hp
      · rw [if_neg h2]
        have hk : isKnown p = false := by unfold isKnown; simp [h1, h2]
        exact (extPut_no p w hp6 hk).mono fun e w' ⟨he, hk⟩ => ⟨_, he, R_nilB _ _ _, hk.below⟩
  · cases h

def ext_Form.f (l0 : List (S160)) : Option (Int × Bool) := if OkEs l0 then some (((formOf (l0.map ofS)).1 : Int), (formOf (l0.map ofS)).2) else none
theorem ext_Form.calls (A0 : Option Addr) (c0 : Nat) (l0 : List (S160)) (r1 : Int) (r2 : Bool) (w : World) (hr0 : Kd.C k160 w A0 l0.length l0) (hc0 : l0.length ≤ c0) (h : ext_Form.f l0 = some (r1, r2)) :
    Calls Try.prog 92 #[.slice A0 l0.length c0] w fun e w' => e = .returned (.tuple #[.int .u16 r1, .bool r2]) ∧ Below w.heap.size w w' := by
  unfold ext_Form.f at h
  split at h
  · rename_i hE
    injection h with h
    injection h with ha hb
    subst ha hb
    have hels := els_of_C hr0 hc0 hE
    have hlen : l0.length = (l0.map ofS).length := by rw [List.length_map]
    rw [hlen]
    exact (extForm_any hels (okEs_len hE) (okEs_id hE)).mono fun e w' ⟨he, hk⟩ => ⟨he, hk.below⟩
  · cases h

def findR (id : Nat) (E : List (Nat × List Nat)) : List Nat × Bool := match E.find? (fun x => x.1 == id) with
  | some p => (p.2, true)
  | none => ([], false)
def ext_Find.f (a0 : Int) (l1 : List (S160)) : Option (List Int × Bool) := if 0 ≤ a0 ∧ OkEs l1 then some (ib (findR a0.toNat (l1.map ofS)).1, (findR a0.toNat (l1.map ofS)).2) else none
theorem ext_Find.calls (a0 : Int) (A1 : Option Addr) (c1 : Nat) (l1 : List (S160)) (r1 : List Int) (r2 : Bool) (w : World) (hr1 : Kd.C k160 w A1 l1.length l1) (hc1 : l1.length ≤ c1) (h : ext_Find.f a0 l1 = some (r1, r2)) :
    Calls Try.prog 88 #[.int .u8 a0, .slice A1 l1.length c1] w fun e w' => ∃ v0_ : Value, e = .returned (.tuple #[v0_, .bool r2]) ∧ Kd.R (Kd.int .u8) 5 w' w.heap.size (fun _ => True) v0_ r1 ∧ Below w.heap.size w w' := by
  unfold ext_Find.f at h
  split at h
  · rename_i hok
    obtain ⟨h0, hE⟩ := hok
    obtain ⟨p, rfl⟩ := Int.eq_ofNat_of_zero_le h0
    rw [Int.toNat_natCast] at h
    injection h with h
    injection h with ha hb
    subst ha hb
    have hels := els_of_C hr1 hc1 hE
    have hlen : l1.length = (l1.map ofS).length := by rw [List.length_map]
    rw [hlen]
    refine (extFind_any p hels (okEs_len hE) (okEs_data hE)).mono fun e w' hp => ?_
    obtain ⟨v, hk, ⟨q, hf, rfl, ho⟩ | ⟨hf, rfl⟩⟩ := hp
    · unfold findR
      rw [hf]
      exact ⟨v, rfl, R_of_own ho, hk.below⟩
    · unfold findR
      rw [hf]
      exact ⟨_, rfl, R_nilB _ _ _, hk.below⟩
  · cases h

def ext_Parse.f (a0 : Int) (l1 : List Int) : Option ((List (S160)) × Int) := if 0 ≤ a0 ∧ a0 < 65536 ∧ Oks l1 ∧ l1.length ≤ 1000000 then some ((extP a0.toNat (nb l1)).1.map toS, ((extP a0.toNat (nb l1)).2 : Int)) else none
theorem ext_Parse.calls (a0 : Int) (A1 : Option Addr) (c1 : Nat) (l1 : List Int) (r1 : List (S160)) (r2 : Int) (w : World) (hr1 : Kd.C (Kd.int .u8) w A1 l1.length l1) (hc1 : l1.length ≤ c1) (h : ext_Parse.f a0 l1 = some (r1, r2)) :
    Calls Try.prog 87 #[.int .u16 a0, .slice A1 l1.length c1] w fun e w' => ∃ v0_ : Value, e = .returned (.tuple #[v0_, .int .i64 r2]) ∧ Kd.S k160 160 w' w.heap.size (fun _ => True) v0_ r1 ∧ Below w.heap.size w w' := by
  unfold ext_Parse.f at h
  split at h
  · rename_i hok
    obtain ⟨h0, h6, hb, hl⟩ := hok
    obtain ⟨p, rfl⟩ := Int.eq_ofNat_of_zero_le h0
    rw [Int.toNat_natCast] at h
    injection h with h
    injection h with ha hb'
    subst ha hb'
    exact (extParse_anyS p (by omega) (sl_of_C hr1 hc1 hb) (nb_bts hb) (by rw [nb_length]; exact hl)).mono fun e w' ⟨lv, he, hE, hk⟩ => ⟨lv, he, S_of_els hE, hk.below⟩
  · cases h

def l3_ExtReads.f (a0 : Int) (l1 : List Int) : Option (Bool) := if 0 ≤ a0 ∧ a0 < 65536 ∧ Oks l1 ∧ l1.length ≤ 100000000 then some true else none
end Go.Proofs.Ytjcejgolcdgipaa.K4

/- Chapter 04: package mark's Put and Parse in the printed words. -/
namespace Go.Proofs.Ytjcejgolcdgipaa.K4
open Go.RowKit Go.Proofs.YtjcejgolcdgipaaW.PrintWords Go.Proofs.YtjcejgolcdgipaaW.PrintLast Go.Proofs.YtjcejgolcdgipaaW.PrintMore

def mark_Put.f (s e i d l b : Bool) (t li tl : Int) : Option (List Int × Int) :=
  if 0 ≤ t ∧ t < 256 ∧ 0 ≤ li ∧ li < 256 ∧ 0 ≤ tl ∧ tl < 256 then some (ib (putM s e i d l b t.toNat li.toNat tl.toNat).1, ((putM s e i d l b t.toNat li.toNat tl.toNat).2 : Int)) else none
theorem mark_Put.calls (a0_0 : Bool) (a0_1 : Bool) (a0_2 : Bool) (a0_3 : Bool) (a0_4 : Bool) (a0_5 : Bool) (a0_6 : Int) (a0_7 : Int) (a0_8 : Int) (r1 : List Int) (r2 : Int) (w : World) (h : mark_Put.f a0_0 a0_1 a0_2 a0_3 a0_4 a0_5 a0_6 a0_7 a0_8 = some (r1, r2)) :
    Calls Try.prog 49 #[.agg #[.bool a0_0, .bool a0_1, .bool a0_2, .bool a0_3, .bool a0_4, .bool a0_5, .int .u8 a0_6, .int .u8 a0_7, .int .u8 a0_8]] w fun e w' => ∃ v0_ : Value, e = .returned (.tuple #[v0_, .int .i64 r2]) ∧ Kd.R (Kd.int .u8) 5 w' w.heap.size (fun _ => True) v0_ r1 ∧ Below w.heap.size w w' := by
  unfold mark_Put.f at h
  split at h
  · rename_i hc
    obtain ⟨h1, h2, h3, h4, h5, h6⟩ := hc
    obtain ⟨t, rfl⟩ := Int.eq_ofNat_of_zero_le h1
    obtain ⟨li, rfl⟩ := Int.eq_ofNat_of_zero_le h3
    obtain ⟨tl, rfl⟩ := Int.eq_ofNat_of_zero_le h5
    simp only [Int.toNat_natCast, Option.some.injEq, Prod.mk.injEq] at h
    obtain ⟨rfl, rfl⟩ := h
    refine (markPut_any w a0_0 a0_1 a0_2 a0_3 a0_4 a0_5 t li tl (by omega) (by omega) (by omega)).mono ?_
    rintro e w' ⟨v0, rfl, ho, hK⟩
    exact ⟨v0, rfl, R_of_own ho, hK.below⟩
  · cases h
def mkTuple (x : MK × Nat) : Bool × Bool × Bool × Bool × Bool × Bool × Int × Int × Int × Int := (x.1.s, x.1.e, x.1.i, x.1.d, x.1.l, x.1.b, (x.1.t : Int), (x.1.li : Int), (x.1.tl : Int), (x.2 : Int))
def mark_Parse.f (l0 : List Int) : Option (Bool × Bool × Bool × Bool × Bool × Bool × Int × Int × Int × Int) := if Oks l0 then some (mkTuple (parseM (nb l0))) else none
theorem mark_Parse.calls (A0 : Option Addr) (c0 : Nat) (l0 : List Int) (r1 : Bool) (r2 : Bool) (r3 : Bool) (r4 : Bool) (r5 : Bool) (r6 : Bool) (r7 : Int) (r8 : Int) (r9 : Int) (r10 : Int) (w : World) (hr0 : Kd.C (Kd.int .u8) w A0 l0.length l0) (hc0 : l0.length ≤ c0) (h : mark_Parse.f l0 = some (r1, r2, r3, r4, r5, r6, r7, r8, r9, r10)) :
    Calls Try.prog 53 #[.slice A0 l0.length c0] w fun e w' => e = .returned (.tuple #[.agg #[.bool r1, .bool r2, .bool r3, .bool r4, .bool r5, .bool r6, .int .u8 r7, .int .u8 r8, .int .u8 r9], .int .i64 r10]) ∧ Below w.heap.size w w' := by
  unfold mark_Parse.f at h
  split at h
  · rename_i ho
    simp only [mkTuple, Option.some.injEq, Prod.mk.injEq] at h
    obtain ⟨rfl, rfl, rfl, rfl, rfl, rfl, rfl, rfl, rfl, rfl⟩ := h
    exact (markParse_any (sl_of_C hr0 hc0 ho) (nb_length l0).symm (nb_bts ho)).mono fun e w' ⟨he, hK⟩ => ⟨he, hK.below⟩
  · cases h
end Go.Proofs.Ytjcejgolcdgipaa.K4

/- Chapter 03, plain: elements put and parsed; no program. -/
namespace Go.Proofs.Ytjcejgolcdgipaa

/-! digits of bytes -/
theorem ofn_getD (x : Nat) : ∀ k j, j < k → (ofn x k).getD j 0 = x / 2 ^ (k - 1 - j) % 2
  | 0, j, h => absurd h (by omega)
  | k + 1, 0, _ => by simp [ofn]
  | k + 1, j + 1, h => by
    have := ofn_getD x k j (by omega)
    simp only [ofn, List.getD_cons_succ]
    rw [this, show k + 1 - 1 - (j + 1) = k - 1 - j by omega]
theorem bd_dgs (bs : List Nat) : Dgs (bd bs) := by
  intro d hd
  obtain ⟨b, _, h⟩ := List.mem_flatMap.1 hd
  exact ofn_lt b 8 d h
theorem bd_getD (bs : List Nat) : ∀ i, (bd bs).getD i 0 = dig bs i := by
  induction bs with
  | nil => intro i; simp [bd, dig]
  | cons b bs ih =>
    intro i
    have hb : bd (b :: bs) = ofn b 8 ++ bd bs := by simp [bd]
    rw [hb]
    by_cases h : i < 8
    · rw [List.getD_eq_getElem?_getD, List.getElem?_append_left (by rw [ofn_length]; exact h), ← List.getD_eq_getElem?_getD, ofn_getD _ _ _ h]
      unfold dig
      rw [show i / 8 = 0 by omega, show i % 8 = i by omega]
      simp
    · rw [List.getD_eq_getElem?_getD, List.getElem?_append_right (by rw [ofn_length]; omega), ofn_length, ← List.getD_eq_getElem?_getD, ih]
      unfold dig
      rw [show i / 8 = (i - 8) / 8 + 1 by omega, show (i - 8) % 8 = i % 8 by omega]
      simp
theorem eq_of_dig {a b : List Nat} (ha : Bts a) (hb : Bts b) (hl : a.length = b.length) (h : ∀ i, dig a i = dig b i) : a = b := by
  apply List.ext_getElem hl
  intro i h1 h2
  have e1 := vl_byte a i (ha.getD i)
  have e2 := vl_byte b i (hb.getD i)
  have : vl a (8 * i) 8 = vl b (8 * i) 8 := vf_congr _ _ _ _ (fun j _ _ => h j)
  rw [e1, e2] at this
  simpa [h1, h2] using this
theorem pack_bd {bs : List Nat} (h : Bts bs) : pack (bd bs) = bs := by
  refine eq_of_dig (pack_bytes (bd_dgs bs)) h (by rw [pack_length, bd_length]; omega) (fun i => ?_)
  rw [dig_pack (bd_dgs bs), bd_getD]

/-! elements put -/
def hdB (one : Bool) (p : Nat × List Nat) : List Nat := if one = true then [p.1 * 16 + p.2.length - 1] else [p.1, p.2.length]
def putB (one : Bool) (E : List (Nat × List Nat)) : List Nat := E.flatMap fun p => hdB one p ++ p.2
def pad4 (bs : List Nat) : List Nat := bs ++ List.replicate ((4 - bs.length % 4) % 4) 0
def OkEl (one : Bool) (x : Nat × List Nat) : Prop := Bts x.2 ∧ (if one = true then 1 ≤ x.1 ∧ x.1 ≤ 14 ∧ 1 ≤ x.2.length ∧ x.2.length ≤ 16 else 1 ≤ x.1 ∧ x.1 ≤ 255 ∧ x.2.length ≤ 255)
theorem putB_cons (one : Bool) (x : Nat × List Nat) (E : List (Nat × List Nat)) : putB one (x :: E) = hdB one x ++ (x.2 ++ putB one E) := by simp [putB]
theorem putB_snoc (one : Bool) (E : List (Nat × List Nat)) (x : Nat × List Nat) : putB one (E ++ [x]) = putB one E ++ (hdB one x ++ x.2) := by simp [putB]
theorem pad4_mod (bs : List Nat) : (pad4 bs).length % 4 = 0 := by unfold pad4; rw [List.length_append, List.length_replicate]; omega
theorem pad4_le (bs : List Nat) (n : Nat) (h : bs.length ≤ n) (hn : n % 4 = 0) : (pad4 bs).length ≤ n := by unfold pad4; rw [List.length_append, List.length_replicate]; omega
theorem hdB_bts {one : Bool} {x : Nat × List Nat} (h : OkEl one x) : Bts (hdB one x) := by
  obtain ⟨_, h⟩ := h
  unfold hdB
  cases one
  · simp at h ⊢
    intro b hb
    simp at hb
    omega
  · simp at h ⊢
    intro b hb
    simp at hb
    omega
theorem putB_bts {one : Bool} {E : List (Nat × List Nat)} (h : ∀ x ∈ E, OkEl one x) : Bts (putB one E) := by
  intro b hb
  obtain ⟨x, hx, hb⟩ := List.mem_flatMap.1 hb
  rcases List.mem_append.1 hb with hb | hb
  · exact hdB_bts (h x hx) b hb
  · exact (h x hx).1 b hb
theorem pad4_bts {bs : List Nat} (h : Bts bs) : Bts (pad4 bs) := h.append (fun b hb => by rw [List.eq_of_mem_replicate hb]; decide)
theorem nib (a b : Nat) (ha : a < 16) (hb : b < 16) : ofn a 4 ++ ofn b 4 = ofn (a * 16 + b) 8 := by
  have : ∀ a, a < 16 → ∀ b, b < 16 → ofn a 4 ++ ofn b 4 = ofn (a * 16 + b) 8 := by decide
  exact this a ha b hb
theorem putD_one {E : List (Nat × List Nat)} (h : ∀ x ∈ E, OkEl true x) : putD 4 1 E = bd (putB true E) := by
  induction E with
  | nil => rfl
  | cons x E ih =>
    have h1 := (h x List.mem_cons_self).2
    simp at h1
    have h2 : putD 4 1 (x :: E) = elD 4 1 x ++ putD 4 1 E := by simp [putD]
    rw [h2, ih (fun y hy => h y (List.mem_cons_of_mem _ hy)), putB_cons, bd_append, bd_append, ← List.append_assoc]
    congr 1
    unfold elD hdB
    rw [if_pos rfl, ← List.append_assoc, nib _ _ (by omega) (by omega), bd_single, show x.1 * 16 + (x.2.length - 1) = x.1 * 16 + x.2.length - 1 by omega]
theorem putD_two {E : List (Nat × List Nat)} : putD 8 0 E = bd (putB false E) := by
  induction E with
  | nil => rfl
  | cons x E ih =>
    have h2 : putD 8 0 (x :: E) = elD 8 0 x ++ putD 8 0 E := by simp [putD]
    rw [h2, ih, putB_cons, bd_append, bd_append, ← List.append_assoc]
    congr 1
theorem bd_zeros (n : Nat) : bd (List.replicate n 0) = List.replicate (8 * n) 0 := by
  induction n with
  | zero => rfl
  | succ n ih =>
    rw [List.replicate_succ, show (0 :: List.replicate n 0) = [0] ++ List.replicate n 0 from rfl, bd_append, ih, bd_single, show 8 * (n + 1) = 8 + 8 * n by omega, ← List.replicate_append_replicate]
    rfl
theorem pack_fill {bs : List Nat} (h : Bts bs) : pack (bd bs ++ List.replicate (fillN (bd bs).length 32) 0) = pad4 bs := by
  have hf : fillN (bd bs).length 32 = 8 * ((4 - bs.length % 4) % 4) := by
    rw [bd_length]
    unfold fillN
    simp only [show Int.toNat 32 = 32 from rfl]
    rw [if_pos (by decide)]
    omega
  rw [hf, ← bd_zeros, ← bd_append]
  exact pack_bd (pad4_bts h)
theorem may_one {x : Nat × List Nat} (h : mayB 14 1 16 x.1 x.2.length = true) (hb : Bts x.2) : OkEl true x := by
  unfold mayB at h
  simp at h
  exact ⟨hb, by simp; omega⟩
theorem may_two {x : Nat × List Nat} (h : mayB 255 0 255 x.1 x.2.length = true) (hb : Bts x.2) : OkEl false x := by
  unfold mayB at h
  simp at h
  exact ⟨hb, by simp; omega⟩
theorem one_may {x : Nat × List Nat} (h : OkEl true x) : mayB 14 1 16 x.1 x.2.length = true := by
  have := h.2
  simp at this
  unfold mayB
  simp; omega
theorem two_may {x : Nat × List Nat} (h : OkEl false x) : mayB 255 0 255 x.1 x.2.length = true := by
  have := h.2
  simp at this
  unfold mayB
  simp; omega

/-! what is put is parsed as it was -/
theorem parse_zeros {one : Bool} {R : List (Nat × List Nat) × Nat} {acc : List (Nat × List Nat)} : ∀ (z : Nat) (pre : List Nat), Still one (pre ++ List.replicate z 0) R pre.length acc → R = (acc, 0)
  | 0, pre, h => h.end_ (by simp)
  | z + 1, pre, h => by
    have h2 := h.pad (by simp) (by simp)
    have := parse_zeros (one := one) (R := R) (acc := acc) z (pre ++ [0]) (by
      simpa [List.replicate_succ, List.append_assoc] using h2)
    exact this
theorem parse_put {one : Bool} {R : List (Nat × List Nat) × Nat} (z : Nat) : ∀ (E : List (Nat × List Nat)) (pre : List Nat) (acc : List (Nat × List Nat)), (∀ x ∈ E, OkEl one x) → Still one (pre ++ (putB one E ++ List.replicate z 0)) R pre.length acc → R = (acc ++ E, 0)
  | [], pre, acc, _, h => by
    rw [List.append_nil]
    exact parse_zeros z pre (by simpa [putB] using h)
  | x :: E, pre, acc, hE, h => by
    have hx := (hE x List.mem_cons_self).2
    rw [putB_cons] at h
    have ih := parse_put (one := one) (R := R) z E (pre ++ (hdB one x ++ x.2)) (acc ++ [x]) (fun y hy => hE y (List.mem_cons_of_mem _ hy))
    rw [List.append_assoc] at ih
    have hq : pre ++ (hdB one x ++ (x.2 ++ putB one E) ++ List.replicate z 0) = pre ++ (hdB one x ++ x.2 ++ (putB one E ++ List.replicate z 0)) := by simp [List.append_assoc]
    rw [hq] at h
    have goal : acc ++ x :: E = acc ++ [x] ++ E := by simp
    rw [goal]
    apply ih
    cases one
    · simp [hdB] at hx h ⊢
      generalize hr : (putB false E ++ List.replicate z 0) = rest at *
      have g0 : (pre ++ x.1 :: x.2.length :: (x.2 ++ rest)).getD pre.length 0 = x.1 := by simp
      have g1 : (pre ++ x.1 :: x.2.length :: (x.2 ++ rest)).getD (pre.length + 1) 0 = x.2.length := by simp [List.getD_eq_getElem?_getD]
      have h2 := h.two_ (by simp) (by rw [g0]; omega) (by simp) (by rw [g1]; simp; omega)
      rw [g0, g1] at h2
      have ht : ((pre ++ x.1 :: x.2.length :: (x.2 ++ rest)).drop (pre.length + 2)).take x.2.length = x.2 := by
        rw [show pre ++ x.1 :: x.2.length :: (x.2 ++ rest) = (pre ++ [x.1, x.2.length]) ++ (x.2 ++ rest) by simp, show pre.length + 2 = (pre ++ [x.1, x.2.length]).length by simp, List.drop_left, List.take_left]
      rw [ht] at h2
      rw [show pre.length + (x.2.length + 1 + 1) = pre.length + 2 + x.2.length by omega]
      exact h2
    · simp [hdB] at hx h ⊢
      generalize hr : (putB true E ++ List.replicate z 0) = rest at *
      have g0 : (pre ++ (x.1 * 16 + x.2.length - 1) :: (x.2 ++ rest)).getD pre.length 0 = x.1 * 16 + x.2.length - 1 := by simp
      have h2 := h.one_ (by simp) (by rw [g0]; omega) (by rw [g0]; omega) (by rw [g0]; omega) (by rw [g0]; simp; omega)
      rw [g0, show (x.1 * 16 + x.2.length - 1) / 16 = x.1 by omega, show (x.1 * 16 + x.2.length - 1) % 16 + 1 = x.2.length by omega] at h2
      have ht : ((pre ++ (x.1 * 16 + x.2.length - 1) :: (x.2 ++ rest)).drop (pre.length + 1)).take x.2.length = x.2 := by
        rw [show pre ++ (x.1 * 16 + x.2.length - 1) :: (x.2 ++ rest) = (pre ++ [x.1 * 16 + x.2.length - 1]) ++ (x.2 ++ rest) by simp, show pre.length + 1 = (pre ++ [x.1 * 16 + x.2.length - 1]).length by simp, List.drop_left, List.take_left]
      rw [ht] at h2
      rw [show pre.length + (x.2.length + 1) = pre.length + 1 + x.2.length by omega]
      exact h2
theorem extP_put {p : Nat} {E : List (Nat × List Nat)} (hk : isKnown p = true) (hE : ∀ x ∈ E, OkEl (isOne p) x) : extP p (pad4 (putB (isOne p) E)) = (E, 0) := by
  unfold extP
  rw [if_neg (by rw [hk]; decide), if_neg (by rw [pad4_mod]; decide)]
  have := parse_put (one := isOne p) (R := prs (isOne p) (pad4 (putB (isOne p) E)) ((pad4 (putB (isOne p) E)).length + 1) 0 []) ((4 - (putB (isOne p) E).length % 4) % 4) E [] [] hE ⟨_, by simp [pad4], rfl⟩
  rw [this, List.nil_append]

/-! what is parsed may be put, in no more bytes -/
theorem prs_ok {one : Bool} {bs : List Nat} (hb : Bts bs) : ∀ f i acc, (∀ x ∈ acc, OkEl one x) → (putB one acc).length ≤ i → i ≤ bs.length → (prs one bs f i acc).2 = 0 →
    (∀ x ∈ (prs one bs f i acc).1, OkEl one x) ∧ (putB one (prs one bs f i acc).1).length ≤ bs.length
  | 0, i, acc, h1, h2, h3, _ => ⟨h1, Nat.le_trans h2 h3⟩
  | f + 1, i, acc, h1, h2, h3, h0 => by
    have hbi := hb.getD i
    have hbj := hb.getD (i + 1)
    simp only [prs] at h0 ⊢
    split at h0
    · rename_i hc
      rw [if_pos hc]
      exact ⟨h1, Nat.le_trans h2 h3⟩
    rename_i hc
    rw [if_neg hc]
    split at h0
    · rename_i hz
      rw [if_pos hz]
      exact prs_ok hb f _ _ h1 (by omega) (by omega) h0
    rename_i hz
    rw [if_neg hz]
    split at h0
    · rename_i ho
      subst ho
      rw [if_pos rfl]
      split at h0
      · rename_i hs
        rw [if_pos hs]
        exact ⟨h1, Nat.le_trans h2 h3⟩
      rename_i hs
      rw [if_neg hs]
      split at h0
      · simp at h0
      rename_i hs2
      rw [if_neg hs2]
      split at h0
      · simp at h0
      rename_i hs3
      rw [if_neg hs3]
      have hl : ((bs.drop (i + 1)).take (bs.getD i 0 % 16 + 1)).length = bs.getD i 0 % 16 + 1 := by rw [List.length_take, List.length_drop]; omega
      refine prs_ok hb f _ _ (fun x hx => ?_) ?_ (by omega) h0
      · rcases List.mem_append.1 hx with hx | hx
        · exact h1 x hx
        · rw [List.mem_singleton.1 hx]
          refine ⟨(hb.drop _).take _, ?_⟩
          simp only [if_true]
          rw [hl]
          omega
      · rw [putB_snoc, List.length_append, List.length_append, hl]
        simp [hdB]
        omega
    · rename_i ho
      rw [if_neg ho]
      have ho' : one = false := by simpa using ho
      subst ho'
      split at h0
      · simp at h0
      rename_i hs2
      rw [if_neg hs2]
      split at h0
      · simp at h0
      rename_i hs3
      rw [if_neg hs3]
      have hl : ((bs.drop (i + 2)).take (bs.getD (i + 1) 0)).length = bs.getD (i + 1) 0 := by rw [List.length_take, List.length_drop]; omega
      refine prs_ok hb f _ _ (fun x hx => ?_) ?_ (by omega) h0
      · rcases List.mem_append.1 hx with hx | hx
        · exact h1 x hx
        · rw [List.mem_singleton.1 hx]
          refine ⟨(hb.drop _).take _, ?_⟩
          simp only [Bool.false_eq_true, if_false]
          rw [hl]
          omega
      · rw [putB_snoc, List.length_append, List.length_append, hl]
        simp [hdB]
        omega
theorem extP_ok {p : Nat} {bs : List Nat} (hb : Bts bs) (h : (extP p bs).2 = 0) : isKnown p = true ∧ (∀ x ∈ (extP p bs).1, OkEl (isOne p) x) ∧ (pad4 (putB (isOne p) (extP p bs).1)).length ≤ bs.length := by
  unfold extP at h ⊢
  split at h
  · simp at h
  rename_i hk
  rw [if_neg hk]
  split at h
  · simp at h
  rename_i h4
  rw [if_neg h4]
  obtain ⟨h1, h2⟩ := prs_ok hb _ _ _ (by simp) (by simp [putB]) (Nat.zero_le _) h
  exact ⟨by simpa using hk, h1, pad4_le _ _ h2 (by omega)⟩
end Go.Proofs.Ytjcejgolcdgipaa
