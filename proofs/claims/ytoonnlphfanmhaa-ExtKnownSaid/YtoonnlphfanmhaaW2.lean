/- A writer with its slice's value in sight: what else there is, it leaves alone. -/
import Derived.Test.YtoonnlphfanmhaaWriteC
namespace Go.Proofs.Ytoonnlphfanmhaa
open Go.RowKit

/-- A writer in block p that has put D; v: its slice. -/
structure W2 (w : World) (p : Nat) (v : Value) (D : List Nat) : Prop where
  blk : Blk w p 102 #[v, .int .i64 D.length]
  own : w.ownsRow 0 5 1 v (pack D).length (bv (pack D))
  dgs : Dgs D
/-- A block that is there and none of the writer's. -/
def Far (w : World) (p : Nat) (v : Value) (b : Nat) : Prop := b < w.heap.size ∧ b ≠ p ∧ some b ≠ v.ownBlock
/-- The writer has put more: v has become v'. -/
def Nx (w w' : World) (p : Nat) (v v' : Value) : Prop := Kp (Far w p v) w w' ∧ ∀ g, v'.ownBlock = some g → v.ownBlock = some g ∨ w.heap.size ≤ g
section
variable {w w' : World} {p b : Nat} {v v' : Value} {D D' : List Nat} {F : Nat → Prop}
theorem W2.ne (h : W2 w p v D) : v.ownBlock ≠ some p := own_blk_ne h.own h.blk (by decide)
theorem W2.wr (h : W2 w p v D) : Wr (Far w p v) w p D := ⟨v, h.blk, h.own, h.dgs, fun hf => hf.2.1 rfl, fun _ hg hf => hf.2.2 hg.symm⟩
theorem W2.of (h : Wr F w p D) : ∃ v, W2 w p v D ∧ (∀ k, F k → k ≠ p ∧ some k ≠ v.ownBlock) := by
  obtain ⟨v, h1, h2, h3, h4, h5⟩ := h
  exact ⟨v, ⟨h1, h2, h3⟩, fun k hk => ⟨fun e => h4 (e ▸ hk), fun e => h5 k e.symm hk⟩⟩
theorem W2.next (hw : Wr (Far w p v) w' p D') (hk : Kp (Far w p v) w w') : ∃ v', W2 w' p v' D' ∧ Nx w w' p v v' := by
  obtain ⟨v', h1, h2, h3, h4, h5⟩ := hw
  refine ⟨v', ⟨h1, h2, h3⟩, hk, fun g hg => ?_⟩
  have h6 := h5 g hg
  by_cases hl : g < w.heap.size
  · left
    by_cases hp : g = p
    · subst hp; exact absurd hg (own_blk_ne h2 h1 (by decide))
    · by_cases hv : v.ownBlock = some g
      · exact hv
      · exact absurd ⟨hl, hp, fun e => hv e.symm⟩ h6
  · right; omega
theorem W2.alloc (h : W2 w p v D) (o : Obj) : W2 (w.alloc o) p v D := ⟨h.blk.alloc o, own_kp h.own ((Kp.refl (fun _ => True) w).alloc o) (fun _ _ _ => trivial), h.dgs⟩
theorem W2.drewN (h : W2 w p v D) (n : Nat) : W2 (w.drewN n) p v D := ⟨h.blk, h.own, h.dgs⟩
theorem W2.drew (h : W2 w p v D) : W2 w.drew p v D := ⟨h.blk, h.own, h.dgs⟩
theorem W2.kp (h : W2 w p v D) (hk : Kp F w w') (hp : F p) (hF : ∀ g, v.ownBlock = some g → F g) : W2 w' p v D := ⟨h.blk.kp hk hp, own_kp h.own hk (fun _ _ hg => hF _ hg), h.dgs⟩
theorem Far.next (h : Far w p v b) (hn : Nx w w' p v v') : Far w' p v' b :=
  ⟨Nat.lt_of_lt_of_le h.1 hn.1.size, h.2.1, fun e => by
    rcases hn.2 b e.symm with h1 | h1
    · exact h.2.2 h1.symm
    · have := h.1; omega⟩
theorem Far.alloc (h : Far w p v b) (o : Obj) : Far (w.alloc o) p v b := ⟨by have := h.1; simp; omega, h.2⟩
theorem Far.size (h : Far w p v b) (hs : w.heap.size ≤ w'.heap.size) : Far w' p v b := ⟨Nat.lt_of_lt_of_le h.1 hs, h.2⟩
theorem W2.new (h : W2 w p v D) (o : Obj) : Far (w.alloc o) p v w.heap.size := ⟨by simp, fun e => by have := h.blk.lt; omega, fun e => by have := (h.own.lt _ e.symm).2; omega⟩
theorem Nx.cell (hn : Nx w w' p v v') {i : Nat} {u : Value} (hb : Far w p v b) (hc : w.cell? ⟨b, i, none⟩ = some u) : w'.cell? ⟨b, i, none⟩ = some u := (hn.1.cell (p := ⟨b, i, none⟩) hb hb.1).trans hc
theorem Nx.sl (hn : Nx w w' p v v') {u : Value} {xs : List Value} (hs : Sl w u xs) (hf : xs ≠ [] → ∀ g, u.ownBlock = some g → Far w p v g) : Sl w' u xs := hs.kp hn.1 (fun hne g hg _ => hf hne g hg)
theorem Nx.trans {w'' : World} {v'' : Value} (h : Nx w w' p v v') (k : Nx w' w'' p v' v'') : Nx w w'' p v v'' :=
  ⟨h.1.next k.1 (fun b hb _ => hb.next h), fun g hg => by
    rcases k.2 g hg with h1 | h1
    · exact h.2 g h1
    · right; have := h.1.size; omega⟩
theorem Nx.drewN (h : Nx w w' p v v') (n : Nat) : Nx w (w'.drewN n) p v v' := ⟨h.1.drewN n, h.2⟩
end

/-- Since w0 the writer has left alone what lies below B. -/
structure LW (w0 w : World) (B : Nat) (v : Value) : Prop where
  own : ∀ g, v.ownBlock = some g → B ≤ g
  kp : Kp (· < B) w0 w
  size : B ≤ w.heap.size
section
variable {w0 w w' : World} {p B : Nat} {v v' : Value}
theorem LW.next (h : LW w0 w B v) (hn : Nx w w' p v v') (hp : B ≤ p) : LW w0 w' B v' :=
  ⟨fun g hg => by
    rcases hn.2 g hg with h1 | h1
    · exact h.own g h1
    · have := h.size; omega, h.kp.next hn.1 (fun k hk hl => ⟨Nat.lt_of_lt_of_le hk h.size, fun e => by omega, fun e => by have := h.own k e.symm; omega⟩), Nat.le_trans h.size hn.1.size⟩
theorem LW.alloc (h : LW w0 w B v) (o : Obj) : LW w0 (w.alloc o) B v := ⟨h.own, h.kp.alloc o, by have := h.size; simp; omega⟩
theorem LW.drew (h : LW w0 w B v) : LW w0 w.drew B v := ⟨h.own, h.kp.drew, h.size⟩
theorem LW.drewN (h : LW w0 w B v) (n : Nat) : LW w0 (w.drewN n) B v := ⟨h.own, h.kp.drewN n, h.size⟩
theorem LW.all (h : LW w0 w B v) (hk : Kp (fun _ => True) w w') : LW w0 w' B v := ⟨h.own, h.kp.next hk (fun _ _ _ => trivial), Nat.le_trans h.size hk.size⟩
end

theorem put2 {w : World} {p : Nat} {v : Value} {D : List Nat} (h : W2 w p v D) (a : Int) (x : Nat) (ha : a = x) (hx : x < 2 ^ 64) (c : Int) (k : Nat) (hk : pk c = k) (hl : D.length ≤ 999999999900) :
    Calls Try.prog 16 #[.pointer (some ⟨p, 0, none⟩), .int .u64 a, .int .i64 c] w fun e w' => e = .returned (.pointer (some ⟨p, 0, none⟩)) ∧ ∃ v', W2 w' p v' (D ++ ofn x k) ∧ Nx w w' p v v' := by
  refine (Put_any h.wr a x ha hx c k hk (fun _ hf => hf.1) hl).mono ?_
  rintro e w' ⟨rfl, hW, hK⟩
  exact ⟨rfl, W2.next hW hK⟩
theorem flag2 {w : World} {p : Nat} {v : Value} {D : List Nat} (h : W2 w p v D) (b : Bool) (hl : D.length ≤ 999999999900) :
    Calls Try.prog 27 #[.pointer (some ⟨p, 0, none⟩), .bool b] w fun e w' => e = .returned (.pointer (some ⟨p, 0, none⟩)) ∧ ∃ v', W2 w' p v' (D ++ [b.toNat]) ∧ Nx w w' p v v' := by
  refine (WFlag_any h.wr b (fun _ hf => hf.1) hl).mono ?_
  rintro e w' ⟨rfl, hW, hK⟩
  exact ⟨rfl, W2.next hW hK⟩
theorem fill2 {w : World} {p : Nat} {v : Value} {D : List Nat} (h : W2 w p v D) (c : Int) (hc : c ≤ 999999999900) (hl : D.length + fillN D.length c ≤ 999999999900) :
    Calls Try.prog 29 #[.pointer (some ⟨p, 0, none⟩), .int .i64 c] w fun e w' => e = .returned (.pointer (some ⟨p, 0, none⟩)) ∧ ∃ v', W2 w' p v' (D ++ List.replicate (fillN D.length c) 0) ∧ Nx w w' p v v' := by
  refine (Fill_any h.wr c hc (fun _ hf => hf.1) hl).mono ?_
  rintro e w' ⟨rfl, hW, hK⟩
  exact ⟨rfl, W2.next hW hK⟩
theorem bytes2 {w : World} {p : Nat} {v : Value} {D : List Nat} (h : W2 w p v D) {u : Value} {bss : List (List Nat)} (hv : Sls (Far w p v) w u bss) (hl : D.length + 8 * bss.flatten.length ≤ 999999999900) (hn : bss.length ≤ 1000000000) :
    Calls Try.prog 28 #[.pointer (some ⟨p, 0, none⟩), u] w fun e w' => e = .returned (.pointer (some ⟨p, 0, none⟩)) ∧ ∃ v', W2 w' p v' (D ++ bd bss.flatten) ∧ Nx w w' p v v' := by
  refine (WBytes_any h.wr hv (fun _ hf => hf.1) hl hn).mono ?_
  rintro e w' ⟨rfl, hW, hK⟩
  exact ⟨rfl, W2.next hW hK⟩
theorem new2 (w : World) : Calls Try.prog 15 #[] w fun e w' => e = .returned (.pointer (some ⟨w.heap.size, 0, none⟩)) ∧ W2 w' w.heap.size (.slice none 0 0) [] ∧ Kp (fun _ => True) w w' ∧ w.heap.size < w'.heap.size := by
  go_enter Try.func15, Try.ntmps15
  go_wp2
  go_ret
  exact ⟨rfl, ⟨Blk.new _ _ _, World.ownsRow_nil _ _ _ _, Dgs.nil⟩, (Kp.refl _ _).alloc _, by simp⟩
theorem out2 {w : World} {p : Nat} {v : Value} {D : List Nat} (h : W2 w p v D) (hl : D.length ≤ 1000000000000) :
    Calls Try.prog 19 #[.pointer (some ⟨p, 0, none⟩)] w fun e w' => ∃ v', e = .returned v' ∧ w'.ownsRow w.heap.size 5 1 v' (pack D).length (bv (pack D)) ∧ Kp (fun _ => True) w w' := Out_any h.wr hl
/-- One slice of bytes in a row of slices that was just laid. -/
theorem Sls.one {F : Nat → Prop} {w : World} {b : Nat} {u : Value} {bs : List Nat} (hb : F b) (hc : w.cell? ⟨b, 0, none⟩ = some u) (hu : Sl w u (bv bs)) (hF : bs ≠ [] → ∀ g, u.ownBlock = some g → F g) (hbt : Bts bs) : Sls F w (.slice (some ⟨b, 0, none⟩) 1 1) [bs] := by
  have hlt := World.block_lt_of_cell? w _ hc
  obtain ⟨A, cap, rfl⟩ := hu.form8
  refine ⟨[.slice A bs.length cap], .inr ⟨by simp, b, 0, 1, rfl, Nat.le_refl _, hlt, fun j x hx => ?_⟩, fun _ g hg => ?_, rfl, fun i hi => ?_⟩
  · rcases j with _ | j
    · simp at hx; subst hx; exact hc
    · simp at hx
  · have : b = g := by simpa [Value.ownBlock] using hg
    subst this
    exact hb
  · simp at hi
    subst hi
    exact ⟨hbt, A, cap, rfl, hu, fun hne g hg => hF (fun e => hne (by rw [e]; rfl)) g hg⟩
end Go.Proofs.Ytoonnlphfanmhaa
