/- Texts of this session, one behind the other, what the row does not use left out: walks and laws over plain data. -/
import Derived.WalkKit
import Derived.Deep.QuietTactic
import Derived.BigQuiet
import Derived.Lib.Hide
import Derived.Deep.Draws
import Derived.Maps.AppendAt
import Derived.Deep.AppendLies
import Derived.Test.YthgjhdcifdfhoaaProg
import Derived.StillTailTactics
import Derived.Deep.RegionHeld3
import Derived.WalkSpells
import Derived.Deep.LoopGhost
import Derived.OpenShut

namespace Go.Proofs.Ythgjhdcifdfhoaa
open Go.RowKit

/-- Of the blocks that were there, those of F are as they were; the streams too; no block has gone. -/
structure Kp (F : Nat → Prop) (w w' : World) : Prop where
  os : w'.os = w.os
  tape : w'.tape = w.tape
  output : w'.output = w.output
  size : w.heap.size ≤ w'.heap.size
  block : ∀ k, F k → k < w.heap.size → w'.heap[k]? = w.heap[k]?

section
variable {F G : Nat → Prop} {a b c w w' : World}
theorem Kp.refl (F : Nat → Prop) (w : World) : Kp F w w := ⟨rfl, rfl, rfl, Nat.le_refl _, fun _ _ _ => rfl⟩
theorem Kp.trans (h : Kp F a b) (k : Kp F b c) : Kp F a c :=
  ⟨k.os.trans h.os, k.tape.trans h.tape, k.output.trans h.output, Nat.le_trans h.size k.size, fun i hi hl => (k.block i hi (Nat.lt_of_lt_of_le hl h.size)).trans (h.block i hi hl)⟩
theorem Kp.next (h : Kp F a b) (k : Kp G b c) (hG : ∀ i, F i → i < a.heap.size → G i) : Kp F a c :=
  ⟨k.os.trans h.os, k.tape.trans h.tape, k.output.trans h.output, Nat.le_trans h.size k.size, fun i hi hl => (k.block i (hG i hi hl) (Nat.lt_of_lt_of_le hl h.size)).trans (h.block i hi hl)⟩
theorem Kp.mono (h : Kp F w w') (hG : ∀ k, G k → k < w.heap.size → F k) : Kp G w w' := ⟨h.os, h.tape, h.output, h.size, fun k hk hl => h.block k (hG k hk hl) hl⟩
theorem Kp.drewN (h : Kp F a w) (n : Nat) : Kp F a (w.drewN n) := ⟨h.os, h.tape, h.output, h.size, h.block⟩
theorem Kp.drew (h : Kp F a w) : Kp F a w.drew := ⟨h.os, h.tape, h.output, h.size, h.block⟩
theorem Kp.alloc (h : Kp F a w) (o : Obj) : Kp F a (w.alloc o) :=
  ⟨h.os, h.tape, h.output, Nat.le_trans h.size (by simp), fun k hk hl => (Below.heap_alloc w o k (Nat.lt_of_lt_of_le hl h.size)).trans (h.block k hk hl)⟩
theorem Kp.setCell (h : Kp F a w) {p : Addr} (hp : ∀ k, F k → k < a.heap.size → k ≠ p.block) (u : Value) : Kp F a (w.setCell p u) :=
  ⟨h.os, h.tape, h.output, Nat.le_trans h.size (by simp [World.setCell]), fun k hk hl => (Below.heap_setCell w p u k (hp k hk hl)).trans (h.block k hk hl)⟩
theorem Kp.set (h : Kp F a w) {p i : Nat} {u : Value} (hp : ∀ k, F k → k < a.heap.size → k ≠ p) : Kp F a (w.setCell ⟨p, i, none⟩ u) := h.setCell (p := ⟨p, i, none⟩) hp u
theorem Kp.set_ {p i : Nat} {u : Value} (h : Kp (· ≠ p) a w) : Kp (· ≠ p) a (w.setCell ⟨p, i, none⟩ u) := h.setCell (p := ⟨p, i, none⟩) (fun _ hk _ => hk) u
theorem Kp.grown {row : Option Nat} (h : Kp F a w) (hg : w.grownBy w' row) (hr : ∀ k, F k → k < a.heap.size → some k ≠ row) : Kp F a w' :=
  ⟨hg.os.trans h.os, hg.tape.trans h.tape, hg.output.trans h.output, Nat.le_trans h.size hg.size, fun k hk hl => (hg.block k (Nat.lt_of_lt_of_le hl h.size) (hr k hk hl)).trans (h.block k hk hl)⟩
theorem Kp.of_grown {row : Option Nat} (hg : w.grownBy w' row) (hr : ∀ k, F k → k < w.heap.size → some k ≠ row) : Kp F w w' := (Kp.refl F w).grown hg hr
theorem Kp.to_below {B : Nat} (h : Kp F w w') (hB : B ≤ w.heap.size) (hF : ∀ k, k < B → F k) : Below B w w' := ⟨h.os, h.tape, h.output, h.size, fun k hk => h.block k (hF k hk) (by omega)⟩
theorem Kp.of_below {B : Nat} (h : Below B w w') (hF : ∀ k, F k → k < w.heap.size → k < B) : Kp F w w' := ⟨h.os, h.tape, h.output, h.size, fun k hk hl => h.block k (hF k hk hl)⟩
theorem Kp.cell (h : Kp F w w') {p : Addr} (hp : F p.block) (hl : p.block < w.heap.size) : w'.cell? p = w.cell? p := World.cell?_of_block (w := w) (h.block p.block hp hl)
theorem Kp.cell_some (h : Kp F w w') {p : Addr} {v : Value} (hc : w.cell? p = some v) (hp : F p.block) : w'.cell? p = some v :=
  (h.cell hp (World.block_lt_of_cell? w p hc)).trans hc
theorem Kp.frozen (h : Kp F w w') {p : Addr} (hp : F p.block) (hl : p.block < w.heap.size) : w'.frozen? p = w.frozen? p := World.frozen?_of_block (w := w) (h.block p.block hp hl)
end

/-- Block g is just the cells cs of element type t, none frozen. -/
def Blk (w : World) (g : Nat) (t : TypeId) (cs : Array Value) : Prop := w.heap[g]? = some (.cells cs t (0, 0))
section
variable {w w' : World} {g : Nat} {t : TypeId} {cs : Array Value} {F : Nat → Prop}
theorem Blk.lt (h : Blk w g t cs) : g < w.heap.size := lt_of_block h
theorem Blk.cell (h : Blk w g t cs) (i : Nat) : w.cell? ⟨g, i, none⟩ = cs[i]? := cell_of_row w g i cs t (0, 0) h
theorem Blk.frozen (h : Blk w g t cs) (i : Nat) : w.frozen? ⟨g, i, none⟩ = false := by
  unfold Blk at h
  simp [World.frozen?, h]
theorem Blk.new (w : World) (t : TypeId) (cs : Array Value) : Blk (w.alloc (.cells cs t)) w.heap.size t cs := heap_alloc_new w _
theorem Blk.drew (h : Blk w g t cs) : Blk w.drew g t cs := h
theorem Blk.drewN (h : Blk w g t cs) (n : Nat) : Blk (w.drewN n) g t cs := h
theorem Blk.alloc (h : Blk w g t cs) (o : Obj) : Blk (w.alloc o) g t cs := (Below.heap_alloc w o g h.lt).trans h
theorem Blk.set (h : Blk w g t cs) (i : Nat) (u : Value) : Blk (w.setCell ⟨g, i, none⟩ u) g t (cs.setIfInBounds i u) := by
  unfold Blk at h ⊢
  simp [World.setCell, Array.getElem?_modify, h]
theorem Blk.far (h : Blk w g t cs) {p : Addr} (hp : g ≠ p.block) (u : Value) : Blk (w.setCell p u) g t cs := (Below.heap_setCell w p u g hp).trans h
theorem Blk.kp (h : Blk w g t cs) (hk : Kp F w w') (hg : F g) : Blk w' g t cs := (hk.block g hg h.lt).trans h
theorem Blk.grown {row : Option Nat} (h : Blk w g t cs) (hb : w.grownBy w' row) (hg : some g ≠ row) : Blk w' g t cs := (hb.block g h.lt hg).trans h
theorem Blk.ne_ {g' : Nat} {t' : TypeId} {cs' : Array Value} (h : Blk w g t cs) (h' : Blk w g' t' cs') (hne : t ≠ t') : g ≠ g' := by
  rintro rfl
  unfold Blk at h h'
  rw [h] at h'
  injection h' with h'
  injection h' with _ ht
  exact hne ht
theorem own_blk_ne {base : Nat} {e : TypeId} {size n : Nat} {v : Value} {xs : List Value} (h : w.ownsRow base e size v n xs) (hg : Blk w g t cs) (hne : e ≠ t) : v.ownBlock ≠ some g := by
  rcases h.2 with ⟨rfl, _⟩ | ⟨g', cap, cur, rfl, _, hh, _⟩
  · simp [Value.ownBlock]
  · intro he
    have : g' = g := by simpa [Value.ownBlock] using he
    subst this
    exact Blk.ne_ (t := e) hh hg hne rfl
end

/-- A slice value reads as the cells xs (each element one cell): it is empty, or its cells lie in one block, from some place on. -/
def Sl (w : World) (v : Value) (xs : List Value) : Prop :=
  (xs = [] ∧ ∃ A cap, v = .slice A 0 cap) ∨
    (xs ≠ [] ∧ ∃ g off cap, v = .slice (some ⟨g, off, none⟩) xs.length cap ∧ xs.length ≤ cap ∧ g < w.heap.size ∧ ∀ j u, xs[j]? = some u → w.cell? ⟨g, off + j, none⟩ = some u)
section
variable {w w' : World} {v : Value} {xs : List Value} {F : Nat → Prop}
theorem Sl.nil (w : World) : Sl w (.slice none 0 0) [] := .inl ⟨rfl, _, _, rfl⟩
theorem Sl.keep (h : Sl w v xs) (hs : w.heap.size ≤ w'.heap.size) (hk : xs ≠ [] → ∀ p : Addr, some p.block = v.ownBlock → p.block < w.heap.size → w'.cell? p = w.cell? p) : Sl w' v xs := by
  rcases h with h | ⟨hne, g, off, cap, rfl, hl, hg, hc⟩
  · exact .inl h
  · exact .inr ⟨hne, g, off, cap, rfl, hl, by omega, fun j u hu => (hk hne ⟨g, off + j, none⟩ rfl hg).trans (hc j u hu)⟩
theorem Sl.kp (h : Sl w v xs) (hk : Kp F w w') (hF : xs ≠ [] → ∀ g, v.ownBlock = some g → g < w.heap.size → F g) : Sl w' v xs :=
  h.keep hk.size fun hne _ hp hl => hk.cell (hF hne _ hp.symm hl) hl
theorem Sl.low (h : Sl w v xs) (hk : Kp (· < w.heap.size) w w') : Sl w' v xs := h.kp hk fun _ _ _ hl => hl
theorem Sl.all (h : Sl w v xs) (hk : Kp (fun _ => True) w w') : Sl w' v xs := h.kp hk fun _ _ _ _ => trivial
theorem Sl.drewN (h : Sl w v xs) (n : Nat) : Sl (w.drewN n) v xs := h
theorem Sl.lt (h : Sl w v xs) (hne : xs ≠ []) {g : Nat} (hg : v.ownBlock = some g) : g < w.heap.size := by
  rcases h with ⟨h0, _⟩ | ⟨_, g', off, cap, rfl, _, h, _⟩
  · exact absurd h0 hne
  · simp [Value.ownBlock] at hg; omega
theorem Sl.alloc (h : Sl w v xs) (o : Obj) : Sl (w.alloc o) v xs := h.keep (by simp) fun _ _ _ hl => World.cell?_alloc_lt w o _ hl
theorem Sl.far (h : Sl w v xs) {p : Addr} (hp : v.ownBlock ≠ some p.block) (u : Value) : Sl (w.setCell p u) v xs :=
  h.keep (by simp [World.setCell]) fun _ q hq _ => World.cell?_setCell_other w p q u (fun e => by subst e; exact hp hq.symm)
theorem Sl.of_own {base : Nat} {e : TypeId} {n : Nat} (h : w.ownsRow base e 1 v n xs) : Sl w v xs := by
  obtain ⟨hl, h2⟩ := h
  rcases h2 with ⟨rfl, rfl⟩ | ⟨g, cap, cur, rfl, hb, hg, hn, hm, hcs, ht⟩
  · exact .inl ⟨List.eq_nil_of_length_eq_zero (by simpa using hl), _, _, rfl⟩
  · have hl' : n = xs.length := by omega
    subst hl'
    by_cases hne : xs = []
    · subst hne
      exact .inl ⟨rfl, _, _, rfl⟩
    · refine .inr ⟨hne, g, 0, cap, rfl, hn, lt_of_block hg, fun j u hu => ?_⟩
      rw [cell_of_row w g _ cur e (0, 0) hg, Nat.zero_add]
      rw [← ht, List.getElem?_take] at hu
      split at hu
      · simpa using hu
      · cases hu
/-- The value of a slice that reads as xs: its length is theirs. -/
theorem Sl.form (h : Sl w v xs) : ∃ A cap, v = .slice A xs.length cap := by
  rcases h with ⟨rfl, A, cap, rfl⟩ | ⟨_, g, off, cap, rfl, _⟩
  · exact ⟨A, cap, rfl⟩
  · exact ⟨_, cap, rfl⟩
/-- A cell of it. -/
theorem Sl.at_ {A : Option Addr} {n cap k : Nat} {u : Value} (h : Sl w (.slice A n cap) xs) (hu : xs[k]? = some u) : ∃ g off, A = some ⟨g, off, none⟩ ∧ g < w.heap.size ∧ w.cell? ⟨g, off + k, none⟩ = some u := by
  rcases h with ⟨h0, _⟩ | ⟨_, g, off, c, he, _, hg, hc⟩
  · subst h0; simp at hu
  · injection he with he
    exact ⟨g, off, he, hg, hc k u hu⟩
end

theorem Sl.le_cap {w : World} {A : Option Addr} {n cap : Nat} {xs : List Value} (h : Sl w (.slice A n cap) xs) (hne : xs ≠ []) : n ≤ cap := by
  rcases h with ⟨h0, _⟩ | ⟨_, g, off, c, he, h1, _⟩
  · exact absurd h0 hne
  · injection he with h3 h4 h5; subst h4 h5; exact h1
theorem ret_int {k : IntKind} {a b : Int} (h : a = b) : Ending.returned (.int k a) = .returned (.int k b) := by rw [h]
theorem ret_bool {a b : Bool} (h : a = b) : Ending.returned (.bool a) = .returned (.bool b) := by rw [h]
/-- A fact under a name that the walk does not look behind. -/
def Hd (p : Prop) : Prop := p
theorem Hd.out {p : Prop} (h : Hd p) : p := h
theorem hd {p : Prop} (h : p) : Hd p := h
/-- Bytes as values. -/
def bv (bs : List Nat) : List Value := bs.map fun (n : Nat) => Value.int .u8 (n : Int)
theorem bv_length (bs : List Nat) : (bv bs).length = bs.length := by simp [bv]
theorem bv_append (a b : List Nat) : bv (a ++ b) = bv a ++ bv b := by simp [bv]
theorem bv_getD (bs : List Nat) (j : Nat) (h : j < bs.length) : (bv bs)[j]? = some (.int .u8 (bs.getD j 0 : Nat)) := by simp [bv, h]
def Bts (bs : List Nat) : Prop := ∀ b ∈ bs, b < 256
theorem Bts.nil : Bts [] := fun _ h => by cases h
theorem Bts.getD {bs : List Nat} (h : Bts bs) (j : Nat) : bs.getD j 0 < 256 := by
  by_cases hj : j < bs.length
  · simp [hj]; exact h _ (List.getElem_mem hj)
  · simp [Nat.not_lt.1 hj]
theorem Bts.append {a b : List Nat} (ha : Bts a) (hb : Bts b) : Bts (a ++ b) := fun x hx => by
  rcases List.mem_append.1 hx with h | h
  · exact ha x h
  · exact hb x h
theorem Bts.take {a : List Nat} (h : Bts a) (n : Nat) : Bts (a.take n) := fun x hx => h x (List.mem_of_mem_take hx)
theorem Bts.drop {a : List Nat} (h : Bts a) (n : Nat) : Bts (a.drop n) := fun x hx => h x (List.mem_of_mem_drop hx)
theorem bv_oneCell (bs : List Nat) : ∀ u ∈ bv bs, u.oneCell' = true := by
  intro u hu
  simp only [bv, List.mem_map] at hu
  obtain ⟨n, _, rfl⟩ := hu
  rfl

theorem own_kp {w w' : World} {base : Nat} {e : TypeId} {size : Nat} {v : Value} {n : Nat} {xs : List Value} {F : Nat → Prop} (h : w.ownsRow base e size v n xs) (hk : Kp F w w') (hF : ∀ g, base ≤ g → v.ownBlock = some g → F g) : w'.ownsRow base e size v n xs := by
  have hlt := h.lt
  refine ⟨h.1, ?_⟩
  rcases h.2 with hn | ⟨g, cap, cur, rfl, hb, hgg, rest⟩
  · exact .inl hn
  · refine .inr ⟨g, cap, cur, rfl, hb, ?_, rest⟩
    rw [hk.block g (hF g hb rfl) (lt_of_block hgg)]
    exact hgg
/-- Behind an append on a row of the call's own: below its base all is kept. -/
theorem kp_own {w w' : World} {base : Nat} {e : TypeId} {size : Nat} {v : Value} {n : Nat} {xs : List Value} (h : w.ownsRow base e size v n xs) (hg : w.grownBy w' v.ownBlock) : Kp (· < base) w w' :=
  Kp.of_grown hg fun k hk _ e => by have := (h.lt k e.symm).1; omega
/-- 'append(s, x)', one element more on a row of the call's own; its cells were laid in a new block first: that block is passed over. -/
theorem wpList_app {P : Program} {w0 : World} {ops : Array Oper} {rest : List Oper} {o : Oper} {a : Act} {Q : Exit → Act → World → Prop} (hgd : o.guard = none) (s x : Operand) (t : TypeId)
    (ho : o.op = .call { callee := .builtin .append, args := #[s, x], argTypes := #[t, t] })
    (base : Nat) (e : TypeId) (i : TypeInfo) (z : Value) (size bytes : Nat) (ht : P.underlying t = some (.slice e)) (hi : P.info? e = some i) (hz : i.zero = some z)
    (hsize : i.size = size) (hby : i.bytes = bytes) (hzs : z.cells.size = size) (hsz : 0 < size)
    (v : Value) (n : Nat) (xs : List Value) (hs : a.eval s = v) (hown : w0.ownsRow base e size v n xs)
    (news : List Value) (c : Nat) (hx : a.eval x = .slice (some ⟨w0.heap.size, 0, none⟩) 1 c) (hl : news.length = size) (h1 : ∀ u ∈ news, u.oneCell' = true)
    (hbytes : (n + 1) * bytes ≤ 140737488355328) (hb1 : 0 < bytes) (hbase : base ≤ w0.heap.size)
    (h : ∀ (g c' : Nat) (w' : World), w'.ownsRow base e size (.slice (some ⟨g, 0, none⟩) (n + 1) c') (n + 1) (xs ++ news) → w0.grownBy w' v.ownBlock → (v.ownBlock = some g ∨ w0.heap.size ≤ g) →
      wpList P ops Q rest (a.put o.dst (.slice (some ⟨g, 0, none⟩) (n + 1) c')) w') :
    wpList P ops Q (o :: rest) a (w0.alloc (.cells news.toArray e)) := by
  have hmax : n + 1 ≤ maxLen := by unfold maxLen; have := Nat.le_trans (Nat.le_mul_of_pos_right (n + 1) hb1) hbytes; omega
  have hcells : ∀ j u, news[j]? = some u → (w0.alloc (.cells news.toArray e)).cell? ((⟨w0.heap.size, 0, none⟩ : Addr).add j) = some u := by
    intro j u hu
    have hadd : (⟨w0.heap.size, 0, none⟩ : Addr).add j = ⟨w0.heap.size, j, none⟩ := by unfold Addr.add; split <;> simp_all
    rw [hadd, cell_of_row _ _ _ _ _ _ (heap_alloc_new w0 _)]
    simpa using hu
  refine wpList_plain hgd fun K hK => ?_
  obtain ⟨v', w', hr, ho', hg, _, hv'⟩ := run_append_own_at (P := P) (w0.alloc (.cells news.toArray e)) base t o.type e i z size bytes ht hi hz hsize hby hzs hsz v n xs (hown.alloc _) ⟨w0.heap.size, 0, none⟩ 1 c news (by omega) hcells h1 hmax hbytes (by simp; omega)
  obtain ⟨g, c', rfl, _, _⟩ := ho'.form (by omega)
  unfold Oper.wp execOp
  simp only [ho, resolve, invoke, builtin, Sem.run_bind, Sem.run_pure, Result.andThen_ok, List.map_toArray, List.map_cons, List.map_nil, hs, hx, hr]
  refine hK _ _ (h g c' w' ho' ⟨hg.os, hg.tape, hg.output, Nat.le_trans (by simp) hg.size, fun k hk hne => (hg.block k (by simp; omega) hne).trans (Below.heap_alloc w0 _ k hk)⟩ ?_)
  rcases hv' with hv' | hv'
  · exact .inl hv'.symm
  · right
    have hq : g = w0.heap.size + 1 := by simpa [Value.ownBlock] using hv'
    omega

theorem run_append_of_nil {P : Program} (w : World) (base : Nat) (t ty e : TypeId) (i : TypeInfo) (size : Nat) (ht : P.underlying t = some (.slice e)) (hi : P.info? e = some i)
    (v : Value) (n : Nat) (xs : List Value) (hown : w.ownsRow base e size v n xs) (c : Nat) : (Builtin.append_ #[t, t] ty #[v, .slice none 0 c]).run P w = .ok v w := by
  rcases hown.2 with ⟨rfl, rfl⟩ | ⟨g, cap, cur, rfl, _, _, hnc, _⟩
  · simp [Builtin.append_, run_underlying ht, sizeOf, typeInfo, hi, Builtin.lenOf, Builtin.firstCells]
  · simp [Builtin.append_, run_underlying ht, sizeOf, typeInfo, hi, Builtin.lenOf, Builtin.firstCells, hnc, storeCells]

/-- 'append(s, x...)' on a row of the call's own, elements of one cell: x nil, empty or not. -/
theorem wpList_apps {P : Program} {w : World} {ops : Array Oper} {rest : List Oper} {o : Oper} {a : Act} {Q : Exit → Act → World → Prop} (hgd : o.guard = none) (s x : Operand) (t : TypeId)
    (ho : o.op = .call { callee := .builtin .append, args := #[s, x], argTypes := #[t, t] })
    (base : Nat) (e : TypeId) (i : TypeInfo) (z : Value) (bytes : Nat) (ht : P.underlying t = some (.slice e)) (hi : P.info? e = some i) (hz : i.zero = some z)
    (hsize : i.size = 1) (hby : i.bytes = bytes) (hzs : z.cells.size = 1)
    (v : Value) (n : Nat) (xs : List Value) (hs : a.eval s = v) (hown : w.ownsRow base e 1 v n xs)
    (u : Value) (news : List Value) (hx : a.eval x = u) (hu : Sl w u news) (h1 : ∀ u ∈ news, u.oneCell' = true)
    (hbytes : (n + news.length) * bytes ≤ 140737488355328) (hb1 : 0 < bytes) (hbase : base ≤ w.heap.size)
    (h : ∀ (v' : Value) (w' : World), w'.ownsRow base e 1 v' (n + news.length) (xs ++ news) → w.grownBy w' v.ownBlock → (v'.ownBlock = v.ownBlock ∨ v'.ownBlock = some w.heap.size) →
      wpList P ops Q rest (a.put o.dst v') w') :
    wpList P ops Q (o :: rest) a w := by
  have hmax : n + news.length ≤ maxLen := by unfold maxLen; have := Nat.le_trans (Nat.le_mul_of_pos_right (n + news.length) hb1) hbytes; omega
  refine wpList_plain hgd fun K hK => ?_
  rcases hu with ⟨rfl, A, cap, rfl⟩ | ⟨_, g, off, cap, rfl, hl, hg, hc⟩
  · cases A with
    | none =>
      have hr := run_append_of_nil w base t o.type e i 1 ht hi v n xs hown cap
      unfold Oper.wp execOp
      simp only [ho, resolve, invoke, builtin, Sem.run_bind, Sem.run_pure, Result.andThen_ok, List.map_toArray, List.map_cons, List.map_nil, hs, hx, hr]
      exact hK _ _ (h v w (by simpa using hown) ⟨rfl, rfl, rfl, Nat.le_refl _, fun _ _ _ => rfl⟩ (.inl rfl))
    | some ad =>
      obtain ⟨v', w', hr, ho', hgr, _, hv'⟩ := run_append_own_at (P := P) w base t o.type e i z 1 bytes ht hi hz hsize hby hzs (by decide) v n xs hown ad 0 cap [] (by simp) (by simp) h1 hmax hbytes hbase
      unfold Oper.wp execOp
      simp only [ho, resolve, invoke, builtin, Sem.run_bind, Sem.run_pure, Result.andThen_ok, List.map_toArray, List.map_cons, List.map_nil, hs, hx, hr]
      exact hK _ _ (h v' w' ho' hgr hv')
  · have hcells : ∀ j u, news[j]? = some u → w.cell? ((⟨g, off, none⟩ : Addr).add j) = some u := by
      intro j u hu
      rw [Addr.add_lit]
      exact hc j u hu
    obtain ⟨v', w', hr, ho', hgr, _, hv'⟩ := run_append_own_at (P := P) w base t o.type e i z 1 bytes ht hi hz hsize hby hzs (by decide) v n xs hown ⟨g, off, none⟩ news.length cap news (by omega) hcells h1 hmax hbytes hbase
    unfold Oper.wp execOp
    simp only [ho, resolve, invoke, builtin, Sem.run_bind, Sem.run_pure, Result.andThen_ok, List.map_toArray, List.map_cons, List.map_nil, hs, hx, hr]
    exact hK _ _ (h v' w' ho' hgr hv')
end Go.Proofs.Ythgjhdcifdfhoaa

namespace Go.Proofs.Ythgjhdcifdfhoaa

/-- The number that the digits f at .. make, n of them, the first one the greatest. -/
def vf (f : Nat → Nat) (at_ : Nat) : Nat → Nat
  | 0 => 0
  | n + 1 => 2 * vf f at_ n + f (at_ + n)
theorem vf_lt (f : Nat → Nat) (a n : Nat) (h : ∀ i, f i < 2) : vf f a n < 2 ^ n := by
  induction n with
  | zero => simp [vf]
  | succ n ih => have := h (a + n); simp only [vf, Nat.pow_succ]; omega
theorem vf_add (f : Nat → Nat) (a m n : Nat) : vf f a (m + n) = vf f a m * 2 ^ n + vf f (a + m) n := by
  induction n with
  | zero => simp [vf]
  | succ n ih =>
    show 2 * vf f a (m + n) + f (a + (m + n)) = vf f a m * 2 ^ (n + 1) + (2 * vf f (a + m) n + f (a + m + n))
    rw [ih, Nat.pow_succ, ← Nat.add_assoc a m n, Nat.mul_add, ← Nat.mul_assoc, Nat.mul_comm 2 (vf f a m), Nat.mul_assoc, Nat.mul_comm 2 (2 ^ n)]
    omega
theorem vf_congr (f g : Nat → Nat) (a n : Nat) (h : ∀ i, a ≤ i → i < a + n → f i = g i) : vf f a n = vf g a n := by
  induction n with
  | zero => rfl
  | succ n ih => simp only [vf]; rw [ih (fun i h1 h2 => h i h1 (by omega)), h (a + n) (by omega) (by omega)]

/-- The digit i of bytes. -/
def dig (bs : List Nat) (i : Nat) : Nat := bs.getD (i / 8) 0 / 2 ^ (7 - i % 8) % 2
theorem dig_lt (bs : List Nat) (i : Nat) : dig bs i < 2 := Nat.mod_lt _ (by decide)
/-- The number of n digits of bytes from a on. -/
def vl (bs : List Nat) (a n : Nat) : Nat := vf (dig bs) a n
theorem vl_lt (bs : List Nat) (a n : Nat) : vl bs a n < 2 ^ n := vf_lt _ _ _ (dig_lt bs)
theorem vl_zero (bs : List Nat) (a : Nat) : vl bs a 0 = 0 := rfl
theorem vl_succ (bs : List Nat) (a n : Nat) : vl bs a (n + 1) = 2 * vl bs a n + dig bs (a + n) := rfl
theorem vl_add (bs : List Nat) (a m n : Nat) : vl bs a (m + n) = vl bs a m * 2 ^ n + vl bs (a + m) n := vf_add _ _ _ _
theorem dig_at (bs : List Nat) (k j : Nat) (h : j < 8) : dig bs (8 * k + j) = bs.getD k 0 / 2 ^ (7 - j) % 2 := by
  unfold dig
  rw [show (8 * k + j) / 8 = k from by omega, show (8 * k + j) % 8 = j from by omega]
theorem vl_byte (bs : List Nat) (k : Nat) (h : bs.getD k 0 < 256) : vl bs (8 * k) 8 = bs.getD k 0 := by
  simp only [vl_succ, vl_zero, dig_at bs k 0 (by decide), dig_at bs k 1 (by decide), dig_at bs k 2 (by decide), dig_at bs k 3 (by decide), dig_at bs k 4 (by decide), dig_at bs k 5 (by decide), dig_at bs k 6 (by decide), dig_at bs k 7 (by decide)]
  generalize bs.getD k 0 = b at *
  omega
/-- The lowest k digits of x, the greatest first. -/
def ofn (x : Nat) : Nat → List Nat
  | 0 => []
  | k + 1 => (x / 2 ^ k % 2) :: ofn x k
theorem ofn_length (x k : Nat) : (ofn x k).length = k := by induction k with | zero => rfl | succ k ih => simp [ofn, ih]
theorem ofn_lt (x k : Nat) : ∀ d ∈ ofn x k, d < 2 := by
  induction k with
  | zero => intro d h; cases h
  | succ k ih => intro d h; rcases List.mem_cons.1 h with h | h; · subst h; exact Nat.mod_lt _ (by decide)
                 · exact ih d h
theorem vf_ofn (x k : Nat) : ∀ (A B : List Nat), vf (fun i => (A ++ (ofn x k ++ B)).getD i 0) A.length k = x % 2 ^ k := by
  induction k with
  | zero => intro A B; simp [vf, Nat.mod_one]
  | succ k ih =>
    intro A B
    rw [Nat.add_comm k 1, vf_add]
    have h1 : vf (fun i => (A ++ (ofn x (1 + k) ++ B)).getD i 0) A.length 1 = x / 2 ^ k % 2 := by
      rw [Nat.add_comm 1 k]
      simp [vf, ofn]
    have h2 := ih (A ++ [x / 2 ^ k % 2]) B
    have h3 : A ++ [x / 2 ^ k % 2] ++ (ofn x k ++ B) = A ++ (ofn x (1 + k) ++ B) := by
      rw [Nat.add_comm 1 k]; simp [ofn]
    rw [h3] at h2
    rw [List.length_append, show [x / 2 ^ k % 2].length = 1 from rfl] at h2
    rw [h1, h2, Nat.add_comm 1 k, Nat.mod_pow_succ]
    rw [Nat.mul_comm]; omega

/-- Byte i of digits. -/
def byteAt (D : List Nat) (i : Nat) : Nat :=
  D.getD (8 * i) 0 * 128 + D.getD (8 * i + 1) 0 * 64 + D.getD (8 * i + 2) 0 * 32 + D.getD (8 * i + 3) 0 * 16 + D.getD (8 * i + 4) 0 * 8 + D.getD (8 * i + 5) 0 * 4 + D.getD (8 * i + 6) 0 * 2 + D.getD (8 * i + 7) 0
/-- The bytes that digits make, filled up. -/
def pack (D : List Nat) : List Nat := (List.range ((D.length + 7) / 8)).map (byteAt D)
def Dgs (D : List Nat) : Prop := ∀ d ∈ D, d < 2
theorem Dgs.nil : Dgs [] := fun _ h => by cases h
theorem Dgs.getD {D : List Nat} (h : Dgs D) (j : Nat) : D.getD j 0 < 2 := by
  by_cases hj : j < D.length
  · simp [hj]; exact h _ (List.getElem_mem hj)
  · simp [Nat.not_lt.1 hj]
theorem Dgs.append {a b : List Nat} (ha : Dgs a) (hb : Dgs b) : Dgs (a ++ b) := fun x hx => by
  rcases List.mem_append.1 hx with h | h
  · exact ha x h
  · exact hb x h
theorem pack_length (D : List Nat) : (pack D).length = (D.length + 7) / 8 := by simp [pack]
theorem pack_nil : pack [] = [] := rfl
theorem pack_getD (D : List Nat) (i : Nat) : (pack D).getD i 0 = byteAt D i := by
  by_cases h : i < (D.length + 7) / 8
  · simp [pack, h]
  · have h8 : D.length ≤ 8 * i := by omega
    have h0 : ∀ j, 8 * i ≤ j → D.getD j 0 = 0 := fun j hj => by simp [List.getD, List.getElem?_eq_none (by omega : D.length ≤ j)]
    rw [List.getD_eq_getElem?_getD, List.getElem?_eq_none (by rw [pack_length]; omega)]
    simp only [byteAt, h0 _ (Nat.le_refl _), h0 (8 * i + 1) (by omega), h0 (8 * i + 2) (by omega), h0 (8 * i + 3) (by omega), h0 (8 * i + 4) (by omega), h0 (8 * i + 5) (by omega), h0 (8 * i + 6) (by omega), h0 (8 * i + 7) (by omega)]
    rfl
theorem byteAt_lt {D : List Nat} (h : Dgs D) (i : Nat) : byteAt D i < 256 := by
  unfold byteAt
  have h0 := h.getD (8 * i); have h1 := h.getD (8 * i + 1); have h2 := h.getD (8 * i + 2); have h3 := h.getD (8 * i + 3)
  have h4 := h.getD (8 * i + 4); have h5 := h.getD (8 * i + 5); have h6 := h.getD (8 * i + 6); have h7 := h.getD (8 * i + 7)
  omega
theorem dig_pack {D : List Nat} (h : Dgs D) (i : Nat) : dig (pack D) i = D.getD i 0 := by
  have hi : i = 8 * (i / 8) + i % 8 := by omega
  generalize i / 8 = k at hi
  have hj : i % 8 < 8 := Nat.mod_lt _ (by decide)
  generalize i % 8 = j at hi hj
  subst hi
  rw [dig_at _ _ _ hj, pack_getD]
  unfold byteAt
  have h0 := h.getD (8 * k); have h1 := h.getD (8 * k + 1); have h2 := h.getD (8 * k + 2); have h3 := h.getD (8 * k + 3)
  have h4 := h.getD (8 * k + 4); have h5 := h.getD (8 * k + 5); have h6 := h.getD (8 * k + 6); have h7 := h.getD (8 * k + 7)
  rcases (by omega : j = 0 ∨ j = 1 ∨ j = 2 ∨ j = 3 ∨ j = 4 ∨ j = 5 ∨ j = 6 ∨ j = 7) with rfl | rfl | rfl | rfl | rfl | rfl | rfl | rfl <;> (try simp only [Nat.add_zero]) <;>
  · generalize D.getD (8 * k) 0 = a0 at *; generalize D.getD (8 * k + 1) 0 = a1 at *; generalize D.getD (8 * k + 2) 0 = a2 at *; generalize D.getD (8 * k + 3) 0 = a3 at *
    generalize D.getD (8 * k + 4) 0 = a4 at *; generalize D.getD (8 * k + 5) 0 = a5 at *; generalize D.getD (8 * k + 6) 0 = a6 at *; generalize D.getD (8 * k + 7) 0 = a7 at *
    omega
theorem pack_bytes {D : List Nat} (h : Dgs D) : ∀ b ∈ pack D, b < 256 := by
  intro b hb
  simp only [pack, List.mem_map] at hb
  obtain ⟨i, _, rfl⟩ := hb
  exact byteAt_lt h i
/-- What stands at its place: a number that was put. -/
theorem vl_pack {A B : List Nat} (x k : Nat) (hA : Dgs A) (hB : Dgs B) : vl (pack (A ++ (ofn x k ++ B))) A.length k = x % 2 ^ k := by
  rw [← vf_ofn x k A B]
  exact vf_congr _ _ _ _ fun i _ _ => dig_pack (hA.append (Dgs.append (ofn_lt x k) hB)) i
theorem getD_snoc (D : List Nat) (d j : Nat) : (D ++ [d]).getD j 0 = if j = D.length then d else D.getD j 0 := by
  simp only [List.getD_eq_getElem?_getD, List.getElem?_append]
  by_cases h : j < D.length
  · rw [if_pos h, if_neg (by omega)]
  · rw [if_neg h]
    by_cases h2 : j = D.length
    · rw [if_pos h2]; subst h2; simp
    · rw [if_neg h2, List.getElem?_eq_none (by simp; omega), List.getElem?_eq_none (by omega)]
theorem byteAt_snoc_other (D : List Nat) (d i : Nat) (h : i ≠ D.length / 8) : byteAt (D ++ [d]) i = byteAt D i := by
  unfold byteAt
  simp only [getD_snoc]
  rw [if_neg (by omega), if_neg (by omega), if_neg (by omega), if_neg (by omega), if_neg (by omega), if_neg (by omega), if_neg (by omega), if_neg (by omega)]
theorem byteAt_snoc (D : List Nat) (d : Nat) : byteAt (D ++ [d]) (D.length / 8) = byteAt D (D.length / 8) + d * 2 ^ (7 - D.length % 8) := by
  have h0 : ∀ j, D.length ≤ j → D.getD j 0 = 0 := fun j hj => by simp [List.getD, List.getElem?_eq_none hj]
  have hl := h0 D.length (Nat.le_refl _)
  have hi : D.length = 8 * (D.length / 8) + D.length % 8 := by omega
  have hj : D.length % 8 < 8 := Nat.mod_lt _ (by decide)
  unfold byteAt
  simp only [getD_snoc]
  generalize D.length % 8 = j at *
  generalize D.length / 8 = k at *
  rw [hi] at hl ⊢
  rcases (by omega : j = 0 ∨ j = 1 ∨ j = 2 ∨ j = 3 ∨ j = 4 ∨ j = 5 ∨ j = 6 ∨ j = 7) with rfl | rfl | rfl | rfl | rfl | rfl | rfl | rfl <;> simp only [Nat.add_zero] at hl ⊢ <;> rw [hl] <;> simp <;> omega
/-- A digit more, where a byte begins. -/
theorem pack_snoc_new (D : List Nat) (d : Nat) (h : D.length % 8 = 0) : pack (D ++ [d]) = pack D ++ [d * 128] := by
  apply List.ext_getElem?
  intro i
  have e1 : ∀ (L : List Nat) (j : Nat), j < L.length → L[j]? = some (L.getD j 0) := fun L j hj => by simp [hj]
  by_cases hi : i < (D.length + 7) / 8
  · rw [List.getElem?_append_left (by rw [pack_length]; exact hi), e1 _ _ (by rw [pack_length]; simp; omega), e1 _ _ (by rw [pack_length]; exact hi), pack_getD, pack_getD, byteAt_snoc_other _ _ _ (by omega)]
  · rw [List.getElem?_append_right (by rw [pack_length]; omega), pack_length]
    by_cases h2 : i = (D.length + 7) / 8
    · subst h2
      rw [e1 _ _ (by rw [pack_length]; simp; omega), pack_getD]
      have h8 : (D.length + 7) / 8 = D.length / 8 := by omega
      have hb := byteAt_snoc D d
      have h0 : byteAt D (D.length / 8) = 0 := by
        have hz : ∀ j, D.length ≤ j → D.getD j 0 = 0 := fun j hj => by simp [List.getD, List.getElem?_eq_none hj]
        unfold byteAt
        rw [hz _ (by omega), hz _ (by omega), hz _ (by omega), hz _ (by omega), hz _ (by omega), hz _ (by omega), hz _ (by omega), hz _ (by omega)]
      rw [h8, hb, h0, h]
      simp
    · rw [List.getElem?_eq_none (by rw [pack_length]; simp; omega), List.getElem?_eq_none (by simp; omega)]
/-- .. within a byte. -/
theorem pack_snoc_in (D : List Nat) (d : Nat) (h : D.length % 8 ≠ 0) : pack (D ++ [d]) = (pack D).set (D.length / 8) ((pack D).getD (D.length / 8) 0 + d * 2 ^ (7 - D.length % 8)) := by
  apply List.ext_getElem?
  intro i
  have e1 : ∀ (L : List Nat) (j : Nat), j < L.length → L[j]? = some (L.getD j 0) := fun L j hj => by simp [hj]
  by_cases hi : i < (D.length + 7) / 8
  · rw [e1 _ _ (by rw [pack_length]; simp; omega), pack_getD]
    by_cases h2 : i = D.length / 8
    · subst h2
      rw [List.getElem?_set_self (by rw [pack_length]; exact hi), byteAt_snoc, pack_getD]
    · rw [List.getElem?_set_ne (by omega), e1 _ _ (by rw [pack_length]; exact hi), pack_getD, byteAt_snoc_other _ _ _ h2]
  · rw [List.getElem?_eq_none (by rw [pack_length]; simp; omega), List.getElem?_eq_none (by simp [pack_length]; omega)]
end Go.Proofs.Ythgjhdcifdfhoaa

namespace Go.Proofs.Ythgjhdcifdfhoaa
open Go.RowKit

theorem Sl.form8 {w : World} {v : Value} {bs : List Nat} (h : Sl w v (bv bs)) : ∃ A cap, v = .slice A bs.length cap := by
  obtain ⟨A, cap, rfl⟩ := h.form
  exact ⟨A, cap, by rw [bv_length]⟩

/-- A reader in block p: its bytes, how many digits were taken, its error, and the value of its slice. -/
structure Rd (w : World) (p : Nat) (bs : List Nat) (at_ : Nat) (err : Int) (v : Value) : Prop where
  blk : Blk w p 151 #[v, .int .i64 at_, .int .i64 err]
  sl : Sl w v (bv bs)
  own : v.ownBlock ≠ some p
  vlt : ∀ g, v.ownBlock = some g → g < w.heap.size
  bts : Bts bs
  len : bs.length ≤ 140737488351232
  le : at_ ≤ 8 * bs.length

section
variable {w w' : World} {p : Nat} {bs : List Nat} {at_ : Nat} {err : Int} {v : Value}
theorem Rd.cell0 (h : Rd w p bs at_ err v) : w.cell? ⟨p, 0, none⟩ = some v := h.blk.cell 0
theorem Rd.cell1 (h : Rd w p bs at_ err v) : w.cell? ⟨p, 1, none⟩ = some (.int .i64 at_) := h.blk.cell 1
theorem Rd.cell2 (h : Rd w p bs at_ err v) : w.cell? ⟨p, 2, none⟩ = some (.int .i64 err) := h.blk.cell 2
theorem Rd.drewN (h : Rd w p bs at_ err v) (n : Nat) : Rd (w.drewN n) p bs at_ err v := ⟨h.blk, h.sl, h.own, h.vlt, h.bts, h.len, h.le⟩
theorem Rd.kp {F : Nat → Prop} (h : Rd w p bs at_ err v) (hk : Kp F w w') (hp : F p) (hF : ∀ g, v.ownBlock = some g → F g) : Rd w' p bs at_ err v :=
  ⟨h.blk.kp hk hp, h.sl.kp hk (fun _ g hg _ => hF g hg), h.own, fun g hg => Nat.lt_of_lt_of_le (h.vlt g hg) hk.size, h.bts, h.len, h.le⟩
theorem Rd.setErr (h : Rd w p bs at_ err v) (e : Int) : Rd (w.setCell ⟨p, 2, none⟩ (.int .i64 e)) p bs at_ e v :=
  ⟨h.blk.set 2 _, h.sl.far h.own _, h.own, fun g hg => by simpa [World.setCell] using h.vlt g hg, h.bts, h.len, h.le⟩
theorem Rd.setAt (h : Rd w p bs at_ err v) (n : Nat) (hn : n ≤ 8 * bs.length) : Rd (w.setCell ⟨p, 1, none⟩ (.int .i64 n)) p bs n err v :=
  ⟨h.blk.set 1 _, h.sl.far h.own _, h.own, fun g hg => by simpa [World.setCell] using h.vlt g hg, h.bts, h.len, hn⟩
theorem Rd.alloc (h : Rd w p bs at_ err v) (o : Obj) : Rd (w.alloc o) p bs at_ err v := ⟨h.blk.alloc o, h.sl.alloc o, h.own, fun g hg => by have := h.vlt g hg; simp; omega, h.bts, h.len, h.le⟩
theorem kp_set (w : World) (p i : Nat) (u : Value) : Kp (· ≠ p) w (w.setCell ⟨p, i, none⟩ u) := (Kp.refl _ w).set_
end

theorem left_any {w : World} {p : Nat} {bs : List Nat} {at_ : Nat} {err : Int} {v : Value} (h : Rd w p bs at_ err v) :
    Calls Try.prog 58 #[.pointer (some ⟨p, 0, none⟩)] w fun e w' => e = .returned (.int .i64 (8 * bs.length - at_)) ∧ ∃ n, w' = w.drewN n := by
  have c0 := h.cell0
  have c1 := h.cell1
  have hl := h.len
  have hat := h.le
  obtain ⟨A, cap, rfl⟩ := h.sl.form8
  clear h
  go_enter Try.func58, Try.ntmps58
  go_wp2
  go_quiet (fail)
  go_wp2
  go_ret
  exact ⟨rfl, _, rfl⟩

theorem rerr_any {w : World} {p : Nat} {bs : List Nat} {at_ : Nat} {err : Int} {v : Value} (h : Rd w p bs at_ err v) :
    Calls Try.prog 50 #[.pointer (some ⟨p, 0, none⟩)] w fun e w' => e = .returned (.int .i64 err) ∧ w' = w := by
  have c2 := h.cell2
  clear h
  go_enter Try.func50, Try.ntmps50
  go_wp2
  go_ret
  exact ⟨rfl, rfl⟩

/-- What a reader's error is, when n digits are asked for. -/
def ferr (err n left : Int) : Int := if err ≠ 0 then err else if n < 0 then 2 else if left < n then 10 else 0

theorem fails_no {w : World} {p : Nat} {bs : List Nat} {at_ : Nat} {v : Value} (h : Rd w p bs at_ 0 v) (n : Int) (h0 : 0 ≤ n) (hn : n ≤ 8 * bs.length - at_) :
    Calls Try.prog 99 #[.pointer (some ⟨p, 0, none⟩), .int .i64 n] w fun e w' => e = .returned (.bool false) ∧ ∃ m, w' = w.drewN m := by
  have c2 := h.cell2
  go_enter Try.func99, Try.ntmps99
  go_wp2_with (go_at_call 58; refine (left_any h).mono ?_; rintro e w' ⟨rfl, m, rfl⟩)
  go_ret
  exact ⟨rfl, _, rfl⟩

theorem fails_yes {w : World} {p : Nat} {bs : List Nat} {at_ : Nat} {err : Int} {v : Value} (h : Rd w p bs at_ err v) (n : Int) (hf : ferr err n (8 * bs.length - at_) ≠ 0) :
    Calls Try.prog 99 #[.pointer (some ⟨p, 0, none⟩), .int .i64 n] w fun e w' => e = .returned (.bool true) ∧ Rd w' p bs at_ (ferr err n (8 * bs.length - at_)) v ∧ Kp (· ≠ p) w w' := by
  have c2 := h.cell2
  have hfr := h.blk.frozen 2
  by_cases he : err = 0
  · subst he
    by_cases hn : n < 0
    · have hq : ferr 0 n (8 * bs.length - at_) = 2 := by simp [ferr, hn]
      rw [hq]
      clear hf hq
      go_enter Try.func99, Try.ntmps99
      go_wp2
      go_ret
      exact ⟨rfl, h.setErr 2, kp_set _ _ _ _⟩
    · by_cases hl : (8 * bs.length - at_ : Int) < n
      · have hq : ferr 0 n (8 * bs.length - at_) = 10 := by simp [ferr, hn, hl]
        rw [hq]
        clear hf hq
        go_enter Try.func99, Try.ntmps99
        go_wp2_with (go_at_call 58; refine (left_any h).mono ?_; rintro e w' ⟨rfl, m, rfl⟩)
        go_ret
        exact ⟨rfl, (h.drewN _).setErr 10, ((Kp.refl _ _).drewN _).set_⟩
      · exact absurd (by unfold ferr; rw [if_neg (by simp), if_neg hn, if_neg hl]) hf
  · have hq : ferr err n (8 * bs.length - at_) = err := by simp [ferr, he]
    rw [hq]
    have hb : (err != 0) = true := by simpa using he
    clear hf hq
    go_enter Try.func99, Try.ntmps99
    go_wp2
    go_ret
    exact ⟨rfl, h, Kp.refl _ _⟩

/-- The closure of take: the next digit. -/
theorem u64_bit (b k : Nat) (hb : b < 256) : IntKind.u64.wrap (bits .and .u8 ((b : Int) / 2 ^ k) 1) = ((b / 2 ^ k % 2 : Nat) : Int) := by
  have e : (b : Int) / 2 ^ k = ((b / 2 ^ k : Nat) : Int) := by simp
  have hlt : b / 2 ^ k < 256 := Nat.lt_of_le_of_lt (Nat.div_le_self _ _) hb
  rw [e, show (1 : Int) = ((1 : Nat) : Int) from rfl, u8_and_nat _ 1 hlt (by decide), Nat.and_one_is_mod, IntWalk.u64_in _ (by omega)]
theorem Rd.byte {w : World} {p : Nat} {bs : List Nat} {at_ : Nat} {err : Int} {v : Value} (h : Rd w p bs at_ err v) (hlt : at_ < 8 * bs.length) :
    ∃ g off cap b, v = .slice (some ⟨g, off, none⟩) bs.length cap ∧ w.cell? ⟨g, off + at_ / 8, none⟩ = some (.int .u8 (b : Nat)) ∧ b < 256 ∧ b / 2 ^ (7 - at_ % 8) % 2 = dig bs at_ := by
  have hi : at_ / 8 < bs.length := by omega
  obtain ⟨A, cap, rfl⟩ := h.sl.form8
  obtain ⟨g, off, rfl, _, hc⟩ := h.sl.at_ (bv_getD bs (at_ / 8) hi)
  exact ⟨g, off, cap, bs.getD (at_ / 8) 0, rfl, hc, h.bts.getD _, rfl⟩

theorem take1_any {w : World} {p x : Nat} {bs : List Nat} {at_ : Nat} {err : Int} {v : Value} (h : Rd w p bs at_ err v) (hx : w.cell? ⟨x, 0, none⟩ = some (.pointer (some ⟨p, 0, none⟩))) (hlt : at_ < 8 * bs.length) :
    Calls Try.prog 109 #[.pointer (some ⟨x, 0, none⟩)] w fun e w' => e = .returned (.int .u64 (dig bs at_)) ∧ Rd w' p bs (at_ + 1) err v ∧ Kp (· ≠ p) w w' := by
  have c0 := h.cell0
  have c1 := h.cell1
  have hfr := h.blk.frozen 1
  have hl := h.len
  have hi : at_ / 8 < bs.length := by omega
  obtain ⟨g, off, cap, b, rfl, hcell, hb, hdig⟩ := h.byte hlt
  have HD := hd hdig
  clear hdig
  go_enter Try.func109, Try.ntmps109
  go_wp2
  go_quiet (fail)
  go_wp2
  go_ret
  exact ⟨ret_int (by rw [u64_bit b _ hb, HD.out]), (h.drewN _).setAt (at_ + 1) (by omega), ((Kp.refl _ _).drewN _).set_⟩

theorem u64_shl_or (x d : Nat) (hx : x < 2 ^ 63) (hd : d < 2) : bits .or .u64 (IntKind.u64.wrap ((x : Int) * 2)) (d : Int) = ((2 * x + d : Nat) : Int) := by
  have hx' : x < 9223372036854775808 := by simpa using hx
  rw [IntWalk.u64_in _ (by omega), show (x : Int) * 2 = ((x * 2 : Nat) : Int) from by omega, u64_or_nat _ _ (by omega) (by omega)]
  have e : x * 2 ||| d = x * 2 + d := by
    have := Nat.two_pow_add_eq_or_of_lt (i := 1) (b := d) (by simpa using hd) x
    rw [Nat.pow_one, Nat.mul_comm] at this
    exact this.symm
  rw [e, Nat.mul_comm]

theorem take_any {w : World} {p : Nat} {bs : List Nat} {at_ : Nat} {err : Int} {v : Value} (h : Rd w p bs at_ err v) (c : Int) (n : Nat) (hc : c = n) (hn : n ≤ 64) (hle : at_ + n ≤ 8 * bs.length) :
    Calls Try.prog 100 #[.pointer (some ⟨p, 0, none⟩), .int .i64 c] w fun e w' => e = .returned (.int .u64 (vl bs at_ n)) ∧ Rd w' p bs (at_ + n) err v ∧ Kp (· ≠ p) w w' := by
  subst hc
  have hp := h.blk.lt
  have hl := h.len
  go_enter Try.func100, Try.ntmps100
  go_wp2
  go_loopw [4, 8] (fun x i wr => ∃ k : Nat, k ≤ n ∧ i = .int .i64 k ∧ x = .int .u64 (vl bs at_ k) ∧ Rd wr p bs (at_ + k) err v ∧ wr.cell? ⟨w.heap.size, 0, none⟩ = some (.pointer (some ⟨p, 0, none⟩)) ∧ Kp (· ≠ p) w wr) (fun _ i _ => n - (intOf i).toNat)
  case atStart => exact ⟨0, Nat.zero_le _, rfl, rfl, h.alloc _, World.cell?_alloc_at _ _ _ _ rfl, (Kp.refl _ _).alloc _⟩
  case round =>
    obtain ⟨k, hk, rfl, rfl, hR, hc, hK⟩ := hrel
    by_cases hlt : k < n
    · go_wp2_with (go_at_call 109; refine (take1_any hR hc (by omega)).mono ?_; rintro e w' ⟨rfl, hR', hK'⟩)
      have hv : vl bs at_ k < 2 ^ 63 := Nat.lt_of_lt_of_le (vl_lt bs at_ k) (Nat.pow_le_pow_right (by decide) (by omega))
      go_roundw
      case rel => exact ⟨k + 1, by omega, by go_num, by rw [u64_shl_or _ _ hv (dig_lt _ _), vl_succ], hR', hK'.cell_some hc (Nat.ne_of_gt hp), hK.trans hK'⟩
      case measure => simp [intOf]; omega
    · obtain rfl : k = n := by omega
      go_wp2
      go_ret
      exact ⟨rfl, hR, hK⟩

/-- A reader's error behind Take. -/
def tErr (err n left : Int) : Int := if err ≠ 0 then err else if n < 0 ∨ 64 < n then 2 else if left < n then 10 else 0

theorem Take_ok {w : World} {p : Nat} {bs : List Nat} {at_ : Nat} {v : Value} (h : Rd w p bs at_ 0 v) (c : Int) (n : Nat) (hc : c = n) (hn : n ≤ 64) (hle : at_ + n ≤ 8 * bs.length) :
    Calls Try.prog 68 #[.pointer (some ⟨p, 0, none⟩), .int .i64 c] w fun e w' => e = .returned (.int .u64 (vl bs at_ n)) ∧ Rd w' p bs (at_ + n) 0 v ∧ Kp (· ≠ p) w w' := by
  subst hc
  have hn' : (n : Int) ≤ 64 := by omega
  go_enter Try.func68, Try.ntmps68
  go_wp2_with (go_at_call 99; refine (fails_no h n (by omega) (by omega)).mono ?_; rintro e w' ⟨rfl, m, rfl⟩)
  refine (take_any (h.drewN m) _ n rfl hn hle).mono ?_
  rintro e w' ⟨rfl, hR, hK⟩
  go_wp2
  go_ret
  exact ⟨rfl, hR, ((Kp.refl _ _).drewN m).trans hK⟩

theorem Take_bad {w : World} {p : Nat} {bs : List Nat} {at_ : Nat} {err : Int} {v : Value} (h : Rd w p bs at_ err v) (n : Int) (hf : tErr err n (8 * bs.length - at_) ≠ 0) :
    Calls Try.prog 68 #[.pointer (some ⟨p, 0, none⟩), .int .i64 n] w fun e w' => e = .returned (.int .u64 0) ∧ Rd w' p bs at_ (tErr err n (8 * bs.length - at_)) v ∧ Kp (· ≠ p) w w' := by
  by_cases hn : 64 < n
  · have hq : tErr err n (8 * bs.length - at_) = ferr err (-1) (8 * bs.length - at_) := by
      unfold tErr ferr; simp [hn]
    rw [hq] at hf ⊢
    have HF := hd hf
    clear hf hq
    go_enter Try.func68, Try.ntmps68
    go_wp2_with (go_at_call 99; refine (fails_yes h (-1) HF.out).mono ?_; rintro e w' ⟨rfl, hR, hK⟩)
    go_ret
    exact ⟨rfl, hR, hK⟩
  · have hq : tErr err n (8 * bs.length - at_) = ferr err n (8 * bs.length - at_) := by
      unfold tErr ferr; simp [hn]
    rw [hq] at hf ⊢
    have HF := hd hf
    clear hf hq
    go_enter Try.func68, Try.ntmps68
    go_wp2_with (go_at_call 99; refine (fails_yes h n HF.out).mono ?_; rintro e w' ⟨rfl, hR, hK⟩)
    go_ret
    exact ⟨rfl, hR, hK⟩

/-- What Take tells, in whatever state. -/
def tVal (bs : List Nat) (at_ : Nat) (err n : Int) : Nat := if tErr err n (8 * bs.length - at_) = 0 then vl bs at_ n.toNat else 0
def tAt (bs : List Nat) (at_ : Nat) (err n : Int) : Nat := if tErr err n (8 * bs.length - at_) = 0 then at_ + n.toNat else at_
theorem tErr_zero {err n left : Int} (h : tErr err n left = 0) : err = 0 ∧ 0 ≤ n ∧ n ≤ 64 ∧ n ≤ left := by
  unfold tErr at h
  split at h
  · omega
  · split at h
    · omega
    · split at h
      · omega
      · omega
theorem Take_all {w : World} {p : Nat} {bs : List Nat} {at_ : Nat} {err : Int} {v : Value} (h : Rd w p bs at_ err v) (n : Int) :
    Calls Try.prog 68 #[.pointer (some ⟨p, 0, none⟩), .int .i64 n] w fun e w' => e = .returned (.int .u64 (tVal bs at_ err n)) ∧ Rd w' p bs (tAt bs at_ err n) (tErr err n (8 * bs.length - at_)) v ∧ Kp (· ≠ p) w w' := by
  by_cases hf : tErr err n (8 * bs.length - at_) = 0
  · obtain ⟨rfl, h0, h64, hl⟩ := tErr_zero hf
    obtain ⟨m, rfl⟩ := Int.eq_ofNat_of_zero_le h0
    unfold tVal tAt
    rw [if_pos hf, if_pos hf, hf, Int.toNat_natCast]
    exact Take_ok h _ m rfl (by omega) (by omega)
  · unfold tVal tAt
    rw [if_neg hf, if_neg hf]
    exact Take_bad h n hf

theorem RFlag_all {w : World} {p : Nat} {bs : List Nat} {at_ : Nat} {err : Int} {v : Value} (h : Rd w p bs at_ err v) :
    Calls Try.prog 69 #[.pointer (some ⟨p, 0, none⟩)] w fun e w' => e = .returned (.bool (tVal bs at_ err 1 == 1)) ∧ Rd w' p bs (tAt bs at_ err 1) (tErr err 1 (8 * bs.length - at_)) v ∧ Kp (· ≠ p) w w' := by
  go_enter Try.func69, Try.ntmps69
  go_wp2_with (go_at_call 68; refine (Take_all h 1).mono ?_; rintro e w' ⟨rfl, hR, hK⟩)
  go_ret
  exact ⟨ret_bool (by rw [Bool.eq_iff_iff, beq_iff_eq, beq_iff_eq]; omega), hR, hK⟩

end Go.Proofs.Ythgjhdcifdfhoaa

namespace Go.Proofs.Ythgjhdcifdfhoaa
open Go.RowKit

theorem Try.info_u8 : (Try.prog.info? 5).map (fun i => (i.zero, i.size, i.bytes)) = some (some (.int .u8 0), 1, 1) := by kernel_rfl

/-- n bytes of digits, from digit a on. -/
def bys (bs : List Nat) (a n : Nat) : List Nat := (List.range n).map fun i => vl bs (a + 8 * i) 8
theorem bys_succ (bs : List Nat) (a n : Nat) : bys bs a (n + 1) = bys bs a n ++ [vl bs (a + 8 * n) 8] := by simp [bys, List.range_succ]
theorem bys_whole {bs : List Nat} (h : Bts bs) (k n : Nat) (hn : k + n ≤ bs.length) : bys bs (8 * k) n = (bs.drop k).take n := by
  induction n with
  | zero => simp [bys]
  | succ n ih =>
    rw [bys_succ, ih (by omega), ← Nat.mul_add, vl_byte _ _ (h.getD _), List.take_succ_eq_append_getElem (by simp; omega)]
    simp [show k + n < bs.length by omega]

set_option maxRecDepth 100000 in
theorem RBytes_ok {w : World} {p : Nat} {bs : List Nat} {at_ : Nat} {v : Value} (h : Rd w p bs at_ 0 v) (c : Int) (n : Nat) (hc : c = n) (hle : at_ + 8 * n ≤ 8 * bs.length) :
    Calls Try.prog 71 #[.pointer (some ⟨p, 0, none⟩), .int .i64 c] w fun e w' => ∃ v', e = .returned v' ∧ w'.ownsRow w.heap.size 5 1 v' n (bv (bys bs at_ n)) ∧ Rd w' p bs (at_ + 8 * n) 0 v ∧ Kp (· ≠ p) w w' := by
  subst hc
  have hp := h.blk.lt
  have hl := h.len
  have hvg := h.vlt
  have hl2 : (8 * bs.length - at_ : Int) / 8 + 1 > n := by omega
  obtain ⟨i0, hi, hz0, hz1, hz2⟩ := info_parts Try.info_u8
  go_enter Try.func71, Try.ntmps71
  go_wp2_with (first | (go_at_call 58; refine (left_any h).mono ?_; rintro e w' ⟨rfl, m, rfl⟩) | (go_at_call 99; refine (fails_no (h.drewN m) _ (by omega) (by omega)).mono ?_; rintro e w' ⟨rfl, m2, rfl⟩))
  go_loopw [5, 18] (fun x i wr => ∃ k : Nat, k ≤ n ∧ i = .int .i64 k ∧ wr.ownsRow w.heap.size 5 1 x k (bv (bys bs at_ k)) ∧ Rd wr p bs (at_ + 8 * k) 0 v ∧ Kp (· ≠ p) w wr) (fun _ i _ => n - (intOf i).toNat)
  case atStart => exact ⟨0, Nat.zero_le _, rfl, World.ownsRow_nil _ _ _ _, h.drewN _, (Kp.refl _ _).drewN _⟩
  case round =>
    obtain ⟨k, hk, rfl, hown, hR, hK⟩ := hrel
    by_cases hlt : k < n
    · have hv : vl bs (at_ + 8 * k) 8 < 256 := vl_lt _ _ 8
      go_wp2_with (first | (go_at_call 100; refine (take_any hR _ 8 rfl (by decide) (by omega)).mono ?_; rintro e w' ⟨rfl, hR', hK'⟩; have hown' := own_kp hown hK' (fun g hg _ => by omega)) | (at_builtin; refine wpList_app rfl _ _ 22 rfl w.heap.size 5 i0 (.int .u8 0) 1 1 Try.underlying22 hi hz0 hz1 hz2 rfl (by decide) _ k _ rfl hown' [.int .u8 (vl bs (at_ + 8 * k) 8 : Nat)] _ rfl rfl (bv_oneCell [_]) (by omega) (by decide) (Nat.le_trans hK.size hK'.size) ?_; intro g2 c2 w2 ho2 hg2 _))
      have hb := kp_own hown' hg2
      go_roundw
      case rel => exact ⟨k + 1, by omega, by go_num, by rw [bys_succ, bv_append]; exact ho2, hR'.kp hb hp (fun g hg => hvg g hg), (hK.trans hK').next hb (fun _ _ hl => hl)⟩
      case measure => simp [intOf]; omega
    · obtain rfl : k = n := by omega
      go_wp2
      go_ret
      exact ⟨_, rfl, hown, hR, hK⟩

/-- Rest of a reader that has failed, or that stands within a byte; and of one that stands between bytes. -/
theorem Rest_ok {w : World} {p : Nat} {bs : List Nat} {at_ : Nat} {v : Value} (h : Rd w p bs at_ 0 v) (n : Nat) (hn : at_ + 8 * n = 8 * bs.length) :
    Calls Try.prog 52 #[.pointer (some ⟨p, 0, none⟩)] w fun e w' => ∃ v', e = .returned v' ∧ w'.ownsRow w.heap.size 5 1 v' n (bv (bys bs at_ n)) ∧ Rd w' p bs (at_ + 8 * n) 0 v ∧ Kp (· ≠ p) w w' := by
  have c2 := h.cell2
  have hl := h.len
  have hq : ((8 * bs.length - at_ : Int) % 8 != 0) = false := by simp; omega
  have hq2 : (8 * bs.length - at_ : Int) / 8 = n := by omega
  have HN := hd hn
  clear hn
  go_enter Try.func52, Try.ntmps52
  go_wp2_with (first | (go_at_call 58; refine (left_any (by first | exact h | exact h.drewN _)).mono ?_; rintro e w' ⟨rfl, m, rfl⟩))
  refine (RBytes_ok (h.drewN _) _ n rfl (by have := HN.out; omega)).mono ?_
  rintro e w' ⟨v', rfl, ho, hR, hK⟩
  go_wp2
  go_ret
  exact ⟨v', rfl, ho, hR, ((Kp.refl _ _).drewN _).trans hK⟩
end Go.Proofs.Ythgjhdcifdfhoaa

namespace Go.Proofs.Ythgjhdcifdfhoaa
open Go.RowKit

/-- A writer in block p that has put the digits D; it shares no block with F. -/
def Wr (F : Nat → Prop) (w : World) (p : Nat) (D : List Nat) : Prop :=
  ∃ v, Blk w p 170 #[v, .int .i64 D.length] ∧ w.ownsRow 0 5 1 v (pack D).length (bv (pack D)) ∧ Dgs D ∧ ¬ F p ∧ ∀ g, v.ownBlock = some g → ¬ F g

theorem Wr.mono {F G : Nat → Prop} {w : World} {p : Nat} {D : List Nat} (h : Wr F w p D) (hG : ∀ k, k < w.heap.size → G k → F k) : Wr G w p D := by
  obtain ⟨v, hb, ho, hD, hp, hv⟩ := h
  exact ⟨v, hb, ho, hD, fun h => hp (hG _ hb.lt h), fun g hg h => hv g hg (hG _ (ho.lt _ hg).2 h)⟩
theorem Wr.kp {F G : Nat → Prop} {w w' : World} {p : Nat} {D : List Nat} (h : Wr F w p D) (hk : Kp G w w') (hG : ∀ k, k < w.heap.size → ¬ F k → G k) : Wr F w' p D := by
  obtain ⟨v, hb, ho, hD, hp, hv⟩ := h
  exact ⟨v, hb.kp hk (hG _ hb.lt hp), own_kp ho hk (fun g _ hg => hG _ (ho.lt _ hg).2 (hv g hg)), hD, hp, hv⟩
theorem Wr.drewN {F : Nat → Prop} {w : World} {p : Nat} {D : List Nat} (h : Wr F w p D) (n : Nat) : Wr F (w.drewN n) p D := h
theorem Wr.lt {F : Nat → Prop} {w : World} {p : Nat} {D : List Nat} (h : Wr F w p D) : p < w.heap.size := by
  obtain ⟨v, hb, _⟩ := h
  exact hb.lt
theorem Wr.dgs {F : Nat → Prop} {w : World} {p : Nat} {D : List Nat} (h : Wr F w p D) : Dgs D := by
  obtain ⟨v, _, _, h, _⟩ := h
  exact h

theorem Wr.cell1 {F : Nat → Prop} {w : World} {p : Nat} {D : List Nat} (h : Wr F w p D) : w.cell? ⟨p, 1, none⟩ = some (.int .i64 D.length) := by
  obtain ⟨v, hb, _⟩ := h
  exact hb.cell 1

theorem byteAt_low {D : List Nat} : byteAt D (D.length / 8) % 2 ^ (8 - D.length % 8) = 0 := by
  have h0 : ∀ j, D.length ≤ j → D.getD j 0 = 0 := fun j hj => by simp [List.getD, List.getElem?_eq_none hj]
  have hi : D.length = 8 * (D.length / 8) + D.length % 8 := by omega
  have hj : D.length % 8 < 8 := Nat.mod_lt _ (by decide)
  unfold byteAt
  generalize D.length % 8 = j at *
  generalize D.length / 8 = k at *
  have z0 : 1 ≤ 8 - j → D.getD (8 * k + 7) 0 = 0 := fun _ => h0 _ (by omega)
  have z1 : 2 ≤ 8 - j → D.getD (8 * k + 6) 0 = 0 := fun _ => h0 _ (by omega)
  have z2 : 3 ≤ 8 - j → D.getD (8 * k + 5) 0 = 0 := fun _ => h0 _ (by omega)
  have z3 : 4 ≤ 8 - j → D.getD (8 * k + 4) 0 = 0 := fun _ => h0 _ (by omega)
  have z4 : 5 ≤ 8 - j → D.getD (8 * k + 3) 0 = 0 := fun _ => h0 _ (by omega)
  have z5 : 6 ≤ 8 - j → D.getD (8 * k + 2) 0 = 0 := fun _ => h0 _ (by omega)
  have z6 : 7 ≤ 8 - j → D.getD (8 * k + 1) 0 = 0 := fun _ => h0 _ (by omega)
  have z7 : 8 ≤ 8 - j → D.getD (8 * k) 0 = 0 := fun _ => h0 _ (by omega)
  generalize D.getD (8 * k) 0 = a0 at *; generalize D.getD (8 * k + 1) 0 = a1 at *; generalize D.getD (8 * k + 2) 0 = a2 at *; generalize D.getD (8 * k + 3) 0 = a3 at *
  generalize D.getD (8 * k + 4) 0 = a4 at *; generalize D.getD (8 * k + 5) 0 = a5 at *; generalize D.getD (8 * k + 6) 0 = a6 at *; generalize D.getD (8 * k + 7) 0 = a7 at *
  clear h0 hi
  rcases (by omega : j = 0 ∨ j = 1 ∨ j = 2 ∨ j = 3 ∨ j = 4 ∨ j = 5 ∨ j = 6 ∨ j = 7) with rfl | rfl | rfl | rfl | rfl | rfl | rfl | rfl <;> simp at * <;> omega
theorem or_digit (D : List Nat) (x : Nat) (hD : Dgs D) (hx : x < 2) :
    bits .or .u8 (byteAt D (D.length / 8) : Int) ((x : Int) * 2 ^ (7 - D.length % 8) % 256) = ((byteAt D (D.length / 8) + x * 2 ^ (7 - D.length % 8) : Nat) : Int) := by
  have hb := byteAt_lt hD (D.length / 8)
  have hl := byteAt_low (D := D)
  have hj : D.length % 8 < 8 := Nat.mod_lt _ (by decide)
  generalize byteAt D (D.length / 8) = b at *
  obtain ⟨k, hk⟩ : ∃ k, k = 7 - D.length % 8 := ⟨_, rfl⟩
  rw [show 8 - D.length % 8 = k + 1 from by omega] at hl
  rw [← hk]
  have hk7 : k ≤ 7 := by omega
  have hp : x * 2 ^ k < 2 ^ (k + 1) := by
    rw [Nat.pow_succ, Nat.mul_comm]
    exact Nat.mul_lt_mul_of_pos_left hx (Nat.two_pow_pos k)
  have h256 : 2 ^ (k + 1) ≤ 256 := by
    have := Nat.pow_le_pow_right (n := 2) (by decide) (show k + 1 ≤ 8 by omega)
    simpa using this
  have e : ((x : Int) * 2 ^ k % 256) = ((x * 2 ^ k : Nat) : Int) := by
    rw [show ((x : Int) * 2 ^ k) = ((x * 2 ^ k : Nat) : Int) from by simp]
    omega
  rw [e, u8_or_nat b (x * 2 ^ k) hb (by omega)]
  have hm : b = 2 ^ (k + 1) * (b / 2 ^ (k + 1)) := by
    have := Nat.div_add_mod b (2 ^ (k + 1))
    omega
  have := Nat.two_pow_add_eq_or_of_lt hp (b / 2 ^ (k + 1))
  rw [← hm] at this
  rw [this]

theorem wr_put {F : Nat → Prop} {w : World} {p g n cap : Nat} {D bs : List Nat} {x z : Nat} {y : Int} (hb : Blk w p 170 #[.slice (some ⟨g, 0, none⟩) n cap, .int .i64 D.length])
    (ho : w.ownsRow 0 5 1 (.slice (some ⟨g, 0, none⟩) n cap) n (bv bs)) (hgp : g ≠ p) (hD : Dgs D) (hx : x < 2) (hp : ¬ F p) (hg : ¬ F g) (i : Nat) (hy : y = (z : Int)) (hset : bs.set i z = pack (D ++ [x])) :
    Wr F ((w.setCell ⟨g, i, none⟩ (.int .u8 y)).setCell ⟨p, 1, none⟩ (.int .i64 ((D.length : Int) + 1))).drew p (D ++ [x]) := by
  subst hy
  have hs := ho.stored i (.int .u8 (z : Int))
  have hn : n = (pack (D ++ [x])).length := by
    have := ho.1
    rw [bv_length] at this
    rw [← hset, List.length_set]; omega
  have hbv : (bv bs).set i (.int .u8 (z : Int)) = bv (pack (D ++ [x])) := by rw [← hset]; simp [bv]
  rw [hbv] at hs
  refine ⟨.slice (some ⟨g, 0, none⟩) n cap, ?_, ?_, hD.append (fun d hd => by simp at hd; omega), hp, fun k hk => by simp [Value.ownBlock] at hk; subst hk; exact hg⟩
  · have := (hb.far (p := ⟨g, i, none⟩) (Ne.symm hgp) (.int .u8 (z : Int))).set 1 (.int .i64 ((D.length : Int) + 1))
    have e : (((D ++ [x]).length : Nat) : Int) = (D.length : Int) + 1 := by simp
    rw [e]
    exact this
  · rw [← hn]
    exact ownsRow_setCell_other hs.1 (by simp [Value.ownBlock]; exact hgp) _

theorem kp_put {F : Nat → Prop} {a w : World} {p g i : Nat} {y u : Value} (h : Kp F a w) (hp : ¬ F p) (hg : ¬ F g) : Kp F a ((w.setCell ⟨g, i, none⟩ y).setCell ⟨p, 1, none⟩ u).drew :=
  ((h.set (fun k hk _ e => by subst e; exact hg hk)).set (fun k hk _ e => by subst e; exact hp hk)).drew

set_option maxHeartbeats 400000 in
set_option maxRecDepth 100000 in
theorem digit_in {F : Nat → Prop} {w : World} {p : Nat} {D : List Nat} (h : Wr F w p D) (d : Int) (x : Nat) (hd0 : d = x) (hx : x < 2) (hl : D.length ≤ 1000000000000) (h8 : D.length % 8 ≠ 0) :
    Calls Try.prog 98 #[.pointer (some ⟨p, 0, none⟩), .int .u8 d] w fun e w' => e = .returned (.tuple #[]) ∧ Wr F w' p (D ++ [x]) ∧ Kp F w w' := by
  subst hd0
  obtain ⟨v, hb, ho, hD, hp, hv⟩ := h
  have hpl := pack_length D
  obtain ⟨g, cap, rfl, _⟩ := ho.form (by omega)
  have hgp : g ≠ p := fun e => own_blk_ne ho hb (by decide) (by rw [e]; rfl)
  have hvg := hv g rfl
  have c0 := hb.cell 0
  have c1 := hb.cell 1
  have f0 := hb.frozen 0
  have f1 := hb.frozen 1
  simp only [List.getElem?_toArray, List.getElem?_cons_zero, List.getElem?_cons_succ] at c0 c1
  have hq : ((D.length : Int) % 8 == 0) = false := by simp; omega
  have hi : D.length / 8 < (pack D).length := by omega
  have hcell : w.cell? ⟨g, D.length / 8, none⟩ = some (.int .u8 (byteAt D (D.length / 8) : Nat)) := by
    rw [ho.cellAt _ (by omega), bv_getD _ _ hi, pack_getD]
  have hfg := ho.frozenAt (D.length / 8)
  have HO := hd (or_digit D x hD hx)
  have HS := hd (pack_snoc_in D x h8)
  have HG : Hd ((pack D).getD (D.length / 8) 0 = byteAt D (D.length / 8)) := pack_getD _ _
  have hb256 := byteAt_lt hD (D.length / 8)
  generalize byteAt D (D.length / 8) = b at *
  generalize hL : (pack D).length = L at *
  have HL := hd hL
  clear hL hpl
  go_enter Try.func98, Try.ntmps98
  go_wp2
  go_region
  go_wp2
  go_end0
  exact ⟨rfl, wr_put hb ho hgp hD hx hp hvg _ HO.out (by rw [HS.out, HG.out]), kp_put (Kp.refl _ _) hp hvg⟩

set_option maxHeartbeats 400000 in
set_option maxRecDepth 100000 in
theorem digit_new {F : Nat → Prop} {w : World} {p : Nat} {D : List Nat} (h : Wr F w p D) (d : Int) (x : Nat) (hd0 : d = x) (hx : x < 2) (hF : ∀ k, F k → k < w.heap.size) (hl : D.length ≤ 1000000000000) (h8 : D.length % 8 = 0) :
    Calls Try.prog 98 #[.pointer (some ⟨p, 0, none⟩), .int .u8 d] w fun e w' => e = .returned (.tuple #[]) ∧ Wr F w' p (D ++ [x]) ∧ Kp F w w' := by
  subst hd0
  obtain ⟨v, hb, ho, hD, hp, hv⟩ := h
  have hpl := pack_length D
  have hvp := own_blk_ne ho hb (by decide)
  have c0 := hb.cell 0
  have c1 := hb.cell 1
  simp only [List.getElem?_toArray, List.getElem?_cons_zero, List.getElem?_cons_succ] at c0 c1
  have hq : ((D.length : Int) % 8 == 0) = true := by simp; omega
  have hlt' : (pack D).length ≤ 1000000000000 := by omega
  have HPL := hd hpl
  clear hpl
  obtain ⟨i0, hi, hz0, hz1, hz2⟩ := info_parts Try.info_u8
  go_enter Try.func98, Try.ntmps98
  go_wp2_with (at_builtin; refine wpList_app rfl _ _ 22 rfl 0 5 i0 (.int .u8 0) 1 1 Try.underlying22 hi hz0 hz1 hz2 rfl (by decide) _ _ _ rfl ho [.int .u8 0] _ rfl rfl (bv_oneCell [0]) (by omega) (by decide) (Nat.zero_le _) ?_)
  intro g cap w2 ho2 hg2 hgv
  have hb2 : Blk w2 p 170 #[v, .int .i64 D.length] := hb.grown hg2 (Ne.symm hvp)
  have hk2 : Kp F w w2 := Kp.of_grown hg2 fun k hk _ e => hv k e.symm hk
  have hvg : ¬ F g := fun hk => by
    rcases hgv with hgv | hgv
    · exact hv g hgv hk
    · have := hF g hk; omega
  have hgp : g ≠ p := fun e => own_blk_ne ho2 hb2 (by decide) (by rw [e]; rfl)
  have d0 := hb2.cell 0
  have d1 := hb2.cell 1
  have f0 := hb2.frozen 0
  have f1 := hb2.frozen 1
  simp only [List.getElem?_toArray, List.getElem?_cons_zero, List.getElem?_cons_succ] at d0 d1
  have hpl := HPL.out
  have hi : D.length / 8 = (pack D).length := by omega
  have hcell : w2.cell? ⟨g, D.length / 8, none⟩ = some (.int .u8 0) := by
    rw [ho2.cellAt _ (by omega), List.getElem?_append_right (by rw [bv_length]; omega), bv_length, hi, Nat.sub_self]; rfl
  have hbz : byteAt D (D.length / 8) = 0 := by
    rw [← pack_getD, List.getD_eq_getElem?_getD, List.getElem?_eq_none (by omega)]; rfl
  have HO := hd (or_digit D x hD hx)
  rw [hbz] at HO
  have HS : Hd ((pack D ++ [0]).set (D.length / 8) (0 + x * 2 ^ (7 - D.length % 8)) = pack (D ++ [x])) := by
    show _ = _
    rw [pack_snoc_new D x h8, hi, h8, List.set_append_right _ _ (Nat.le_refl _), Nat.sub_self]
    simp
  have ho3 : (w2.setCell ⟨p, 0, none⟩ (.slice (some ⟨g, 0, none⟩) ((pack D).length + 1) cap)).ownsRow 0 5 1 (.slice (some ⟨g, 0, none⟩) ((pack D).length + 1) cap) ((pack D).length + 1) (bv (pack D ++ [0])) := by
    rw [bv_append]
    exact ownsRow_setCell_other ho2 (a := ⟨p, 0, none⟩) (by simp [Value.ownBlock]; exact hgp) _
  have hb3 : Blk (w2.setCell ⟨p, 0, none⟩ (.slice (some ⟨g, 0, none⟩) ((pack D).length + 1) cap)) p 170 #[.slice (some ⟨g, 0, none⟩) ((pack D).length + 1) cap, .int .i64 D.length] := hb2.set 0 _
  have hk3 : Kp F w (w2.setCell ⟨p, 0, none⟩ (.slice (some ⟨g, 0, none⟩) ((pack D).length + 1) cap)) := hk2.set (fun k hk _ e => by subst e; exact hp hk)
  have hcell3 : (w2.setCell ⟨p, 0, none⟩ (.slice (some ⟨g, 0, none⟩) ((pack D).length + 1) cap)).cell? ⟨g, D.length / 8, none⟩ = some (.int .u8 0) :=
    (World.cell?_setCell_other w2 ⟨p, 0, none⟩ ⟨g, D.length / 8, none⟩ _ (fun e => hgp (by injection e with e; exact e.symm))).trans hcell
  clear c0 c1 hb hg2 hgv hvp hbz hcell hv ho hpl
  have hlt : D.length / 8 < (pack D).length + 1 := by omega
  have HI := hd hi
  clear hi
  go_wp2
  clear d0 d1 f0 f1 hb2 ho2 hk2
  generalize (w2.setCell ⟨p, 0, none⟩ (.slice (some ⟨g, 0, none⟩) ((pack D).length + 1) cap)) = w3 at *
  have d0 := hb3.cell 0
  have d1 := hb3.cell 1
  have f0 := hb3.frozen 0
  have f1 := hb3.frozen 1
  have fg := ho3.frozenAt (D.length / 8)
  simp only [List.getElem?_toArray, List.getElem?_cons_zero, List.getElem?_cons_succ] at d0 d1
  go_region
  go_wp2
  go_end0
  exact ⟨rfl, wr_put (z := 0 + x * 2 ^ (7 - D.length % 8)) hb3 ho3 hgp hD hx hp hvg _ (by have h := HO.out; rw [h8] at h ⊢; simpa using h) HS.out, kp_put hk3 hp hvg⟩

/-- A digit more. -/
theorem digit_any {F : Nat → Prop} {w : World} {p : Nat} {D : List Nat} (h : Wr F w p D) (d : Int) (x : Nat) (hd0 : d = x) (hx : x < 2) (hF : ∀ k, F k → k < w.heap.size) (hl : D.length ≤ 1000000000000) :
    Calls Try.prog 98 #[.pointer (some ⟨p, 0, none⟩), .int .u8 d] w fun e w' => e = .returned (.tuple #[]) ∧ Wr F w' p (D ++ [x]) ∧ Kp F w w' := by
  by_cases h8 : D.length % 8 = 0
  · exact digit_new h d x hd0 hx hF hl h8
  · exact digit_in h d x hd0 hx hl h8

theorem u8_and1 (x : Nat) (hx : x < 2 ^ 64) (i : Nat) : bits .and .u64 ((x : Int) / 2 ^ i) 1 % 256 = ((x / 2 ^ i % 2 : Nat) : Int) := by
  have e : (x : Int) / 2 ^ i = ((x / 2 ^ i : Nat) : Int) := by simp
  have hlt : x / 2 ^ i < 2 ^ 64 := Nat.lt_of_le_of_lt (Nat.div_le_self _ _) hx
  rw [e, show (1 : Int) = ((1 : Nat) : Int) from rfl, u64_and_nat _ 1 (by simpa using hlt) (by decide), Nat.and_one_is_mod]
  omega

/-- How many digits Put puts. -/
def pk (c : Int) : Nat := (max 0 (min c 64)).toNat
theorem pk_le (c : Int) : pk c ≤ 64 := by unfold pk; omega

set_option maxHeartbeats 400000 in
set_option maxRecDepth 100000 in
theorem Put_any {F : Nat → Prop} {w : World} {p : Nat} {D : List Nat} (h : Wr F w p D) (a : Int) (x : Nat) (ha : a = x) (hx : x < 2 ^ 64) (c : Int) (k : Nat) (hk : pk c = k) (hF : ∀ k, F k → k < w.heap.size) (hl : D.length ≤ 999999999900) :
    Calls Try.prog 67 #[.pointer (some ⟨p, 0, none⟩), .int .u64 a, .int .i64 c] w fun e w' => e = .returned (.pointer (some ⟨p, 0, none⟩)) ∧ Wr F w' p (D ++ ofn x k) ∧ Kp F w w' := by
  subst ha
  have hp64 : k ≤ 64 := hk ▸ pk_le c
  have hc : c < 0 ∧ (k : Int) = 0 ∨ 0 < c ∧ c < 64 ∧ (k : Int) = c ∨ 64 < c ∧ (k : Int) = 64 ∨ c = 0 ∧ (k : Int) = 0 ∨ c = 64 ∧ (k : Int) = 64 := by unfold pk at hk; omega
  have hx' := hx
  clear hk
  rcases hc with ⟨hc, hk⟩ | ⟨hc, hc2, hk⟩ | ⟨hc, hk⟩ | ⟨rfl, hk⟩ | ⟨rfl, hk⟩
  all_goals
    have HK := hd hk
    clear hk
    go_enter Try.func67, Try.ntmps67
    go_wp2
    go_loopw [7] (fun i wr => ∃ (j : Nat) (E : List Nat), j ≤ k ∧ E.length + j = k ∧ i = .int .i64 ((j : Int) - 1) ∧ E ++ ofn x j = ofn x k ∧ Wr F wr p (D ++ E) ∧ Kp F w wr) (fun i _ => (intOf i + 1).toNat)
    case atStart =>
      exact ⟨k, [], Nat.le_refl _, by simp, by rw [HK.out]; try rfl, rfl, by simpa using h, Kp.refl _ _⟩
    case round =>
      obtain ⟨j, E, hj, hEl, rfl, hE, hW, hK⟩ := hrel
      have HE := hd hE
      have hEb : E.length ≤ 64 := by omega
      have HL := hd hEl
      clear hE hEl
      cases j with
      | zero =>
        go_wp2
        go_ret
        refine ⟨rfl, ?_, hK⟩
        rw [← HE.out]; simpa [ofn] using hW
      | succ j =>
        go_wp2_with (go_at_call 98; refine (digit_any hW _ (x / 2 ^ j % 2) (u8_and1 x hx j) (Nat.mod_lt _ (by decide)) (fun k hk => Nat.lt_of_lt_of_le (hF k hk) hK.size) (by simp; omega)).mono ?_; rintro e w' ⟨rfl, hW', hK'⟩)
        go_roundw
        case rel =>
          have hE := HE.out
          have hL := HL.out
          exact ⟨j, E ++ [x / 2 ^ j % 2], by omega, by simp; omega, by go_num, by rw [← hE, ofn]; simp, by rw [← List.append_assoc]; exact hW', hK.trans hK'⟩
        case measure => simp [intOf] <;> omega
end Go.Proofs.Ythgjhdcifdfhoaa

namespace Go.Proofs.Ythgjhdcifdfhoaa
open Go.RowKit

theorem eqNilB (w : World) (a : Option Addr) (n c : Nat) : (binOp .eql 22 (.slice a n c) (.slice none 0 0)).run Try.prog w = .ok (.bool a.isNone) w := Lib.run_eql_slice_nil (P := Try.prog) w 22 5 a n c 0 0 Try.underlying22

set_option maxRecDepth 100000 in
/-- slices.Clone at bytes. -/
theorem CloneB_any {w : World} {v : Value} {bs : List Nat} (h : Sl w v (bv bs)) (hl : bs.length ≤ 140737488351232) :
    Calls Try.prog 90 #[v] w fun e w' => ∃ v', e = .returned v' ∧ w'.ownsRow w.heap.size 5 1 v' bs.length (bv bs) ∧ Kp (fun _ => True) w w' := by
  obtain ⟨i0, hi, hz0, hz1, hz2⟩ := info_parts Try.info_u8
  have hen := eqNilB
  obtain ⟨A, cap, rfl⟩ := h.form8
  rcases A with _ | ad
  · have hq : bs = [] := by
      rcases h with ⟨h0, _⟩ | ⟨_, g, off, c, he, _⟩
      · exact List.map_eq_nil_iff.1 h0
      · cases he
    subst hq
    go_enter Try.func90, Try.ntmps90
    go_wp2
    go_ret
    exact ⟨.slice none 0 0, rfl, World.ownsRow_nil _ _ _ _, Kp.refl _ _⟩
  · go_enter Try.func90, Try.ntmps90
    go_wp2_with (at_builtin; refine wpList_apps rfl _ _ 22 rfl w.heap.size 5 i0 (.int .u8 0) 1 Try.underlying22 hi hz0 hz1 hz2 rfl (.slice (some ⟨w.heap.size, 0, none⟩) 0 0) 0 [] rfl (World.ownsRow_made w #[] 0 (Nat.le_refl _) (Nat.zero_le _) rfl) _ (bv bs) rfl (h.alloc _) (bv_oneCell bs) (by rw [bv_length]; omega) (by decide) (by simp) ?_; intro v2 w2 ho2 hg2 _)
    go_ret
    refine ⟨_, rfl, ?_, (((Kp.refl _ _).alloc _).grown hg2 (fun k _ hlt e => by simp [Value.ownBlock] at e; omega))⟩
    rw [bv_length] at ho2
    simpa using ho2

/-- A reader of bytes. -/
theorem Of_any {w : World} {v : Value} {bs : List Nat} (h : Sl w v (bv bs)) (hb : Bts bs) (hl : bs.length ≤ 140737488351232) :
    Calls Try.prog 48 #[v] w fun e w' => ∃ p v', e = .returned (.pointer (some ⟨p, 0, none⟩)) ∧ w.heap.size ≤ p ∧ Rd w' p bs 0 0 v' ∧ (∀ g, v'.ownBlock = some g → w.heap.size ≤ g) ∧ Kp (fun _ => True) w w' := by
  go_enter Try.func48, Try.ntmps48
  go_wp2_with (go_at_call 90; refine (CloneB_any h hl).mono ?_; rintro e w' ⟨v', rfl, ho, hk⟩; obtain ⟨A, cap, rfl⟩ := (Sl.of_own ho).form8)
  go_ret
  refine ⟨_, _, rfl, hk.size, ⟨Blk.new _ _ _, (Sl.of_own ho).alloc _, ?_, fun g hg => by have := (ho.lt g hg).2; simp; omega, hb, hl, Nat.zero_le _⟩, fun g hg => (ho.lt g hg).1, hk.alloc _⟩
  intro e
  have := (ho.lt _ e).2
  omega

/-- What a writer has put. -/
theorem Out_any {F : Nat → Prop} {w : World} {p : Nat} {D : List Nat} (h : Wr F w p D) (hl : D.length ≤ 1000000000000) :
    Calls Try.prog 62 #[.pointer (some ⟨p, 0, none⟩)] w fun e w' => ∃ v', e = .returned v' ∧ w'.ownsRow w.heap.size 5 1 v' (pack D).length (bv (pack D)) ∧ Kp (fun _ => True) w w' := by
  obtain ⟨v, hb, ho, hD, hp, hv⟩ := h
  have c0 := hb.cell 0
  have hq := pack_length D
  have hl2 : (pack D).length ≤ 140737488351232 := by omega
  simp only [List.getElem?_toArray, List.getElem?_cons_zero] at c0
  clear hq
  go_enter Try.func62, Try.ntmps62
  go_wp2_with (go_at_call 90; refine (CloneB_any (Sl.of_own ho) hl2).mono ?_; rintro e w' ⟨v', rfl, ho', hk⟩)
  go_ret
  exact ⟨v', rfl, ho', hk⟩
theorem WFlag_any {F : Nat → Prop} {w : World} {p : Nat} {D : List Nat} (h : Wr F w p D) (b : Bool) (hF : ∀ k, F k → k < w.heap.size) (hl : D.length ≤ 999999999900) :
    Calls Try.prog 72 #[.pointer (some ⟨p, 0, none⟩), .bool b] w fun e w' => e = .returned (.pointer (some ⟨p, 0, none⟩)) ∧ Wr F w' p (D ++ [b.toNat]) ∧ Kp F w w' := by
  cases b
  · go_enter Try.func72, Try.ntmps72
    go_wp2_with (go_at_call 67; refine (Put_any h _ 0 rfl (by omega) _ 1 rfl hF hl).mono ?_; rintro e w' ⟨rfl, hW, hK⟩)
    go_ret
    exact ⟨rfl, hW, hK⟩
  · go_enter Try.func72, Try.ntmps72
    go_wp2_with (go_at_call 67; refine (Put_any h _ 1 rfl (by omega) _ 1 rfl hF hl).mono ?_; rintro e w' ⟨rfl, hW, hK⟩)
    go_ret
    exact ⟨rfl, hW, hK⟩

end Go.Proofs.Ythgjhdcifdfhoaa

namespace Go.Proofs.Ythgjhdcifdfhoaa
open Go.RowKit

/-- A slice of slices of bytes. -/
def Sls (F : Nat → Prop) (w : World) (v : Value) (bss : List (List Nat)) : Prop :=
  ∃ vs : List Value, Sl w v vs ∧ (vs ≠ [] → ∀ g, v.ownBlock = some g → F g) ∧ vs.length = bss.length ∧ ∀ i (h : i < bss.length), Bts bss[i] ∧ ∃ A cap, vs[i]? = some (.slice A bss[i].length cap) ∧ Sl w (.slice A bss[i].length cap) (bv bss[i]) ∧ (bv bss[i] ≠ [] → ∀ g, (Value.slice A bss[i].length cap).ownBlock = some g → F g)
theorem Sls.kp {F : Nat → Prop} {w w' : World} {v : Value} {bss : List (List Nat)} (h : Sls F w v bss) (hk : Kp F w w') : Sls F w' v bss := by
  obtain ⟨vs, h1, h2, h3, h4⟩ := h
  refine ⟨vs, h1.kp hk (fun hne g hg _ => h2 hne g hg), h2, h3, fun i hi => ?_⟩
  obtain ⟨hb, A, cap, h5, h6, h7⟩ := h4 i hi
  exact ⟨hb, A, cap, h5, h6.kp hk (fun hne g hg _ => h7 hne g hg), h7⟩

def U64s (xs : List Nat) : Prop := ∀ x ∈ xs, x < 2 ^ 64
theorem U64s.getD {xs : List Nat} (h : U64s xs) (j : Nat) : xs.getD j 0 < 2 ^ 64 := by
  by_cases hj : j < xs.length
  · simp [hj]; exact h _ (List.getElem_mem hj)
  · simp [Nat.not_lt.1 hj]
/-- The digits of numbers, k of each. -/
def nd (xs : List Nat) (k : Nat) : List Nat := xs.flatMap fun x => ofn x k
end Go.Proofs.Ythgjhdcifdfhoaa

namespace Go.Proofs.Ythgjhdcifdfhoaa
open Go.RowKit

/-- A writer in block p that has put D; v: its slice. -/
structure W2 (w : World) (p : Nat) (v : Value) (D : List Nat) : Prop where
  blk : Blk w p 170 #[v, .int .i64 D.length]
  own : w.ownsRow 0 5 1 v (pack D).length (bv (pack D))
  dgs : Dgs D
/-- A block that is there and none of the writer's. -/
def Far (w : World) (p : Nat) (v : Value) (b : Nat) : Prop := b < w.heap.size ∧ b ≠ p ∧ some b ≠ v.ownBlock
/-- The writer has put more: v has become v'. -/
def Nx (w w' : World) (p : Nat) (v v' : Value) : Prop := Kp (Far w p v) w w' ∧ ∀ g, v'.ownBlock = some g → v.ownBlock = some g ∨ w.heap.size ≤ g
section
variable {w w' : World} {p b : Nat} {v v' : Value} {D D' : List Nat} {F : Nat → Prop}
theorem W2.ne (h : W2 w p v D) : v.ownBlock ≠ some p := own_blk_ne h.own h.blk (by decide)
theorem W2.wr (h : W2 w p v D) : Wr (Far w p v) w p D := ⟨v, h.blk, h.own, h.dgs, fun hf => hf.2.1 rfl, fun _ hg hf => hf.2.2 hg.symm⟩
theorem W2.next (hw : Wr (Far w p v) w' p D') (hk : Kp (Far w p v) w w') : ∃ v', W2 w' p v' D' ∧ Nx w w' p v v' := by
  obtain ⟨v', h1, h2, h3, h4, h5⟩ := hw
  refine ⟨v', ⟨h1, h2, h3⟩, hk, fun g hg => ?_⟩
  have h6 := h5 g hg
  by_cases hl : g < w.heap.size
  · left
    by_cases hp : g = p
    · subst hp; exact absurd hg (own_blk_ne h2 h1 (by decide))
    · by_cases hv : v.ownBlock = some g
      · exact hv
      · exact absurd ⟨hl, hp, fun e => hv e.symm⟩ h6
  · right; omega
theorem W2.alloc (h : W2 w p v D) (o : Obj) : W2 (w.alloc o) p v D := ⟨h.blk.alloc o, own_kp h.own ((Kp.refl (fun _ => True) w).alloc o) (fun _ _ _ => trivial), h.dgs⟩
theorem W2.drewN (h : W2 w p v D) (n : Nat) : W2 (w.drewN n) p v D := ⟨h.blk, h.own, h.dgs⟩
theorem W2.drew (h : W2 w p v D) : W2 w.drew p v D := ⟨h.blk, h.own, h.dgs⟩
theorem W2.kp (h : W2 w p v D) (hk : Kp F w w') (hp : F p) (hF : ∀ g, v.ownBlock = some g → F g) : W2 w' p v D := ⟨h.blk.kp hk hp, own_kp h.own hk (fun _ _ hg => hF _ hg), h.dgs⟩
theorem Far.next (h : Far w p v b) (hn : Nx w w' p v v') : Far w' p v' b :=
  ⟨Nat.lt_of_lt_of_le h.1 hn.1.size, h.2.1, fun e => by
    rcases hn.2 b e.symm with h1 | h1
    · exact h.2.2 h1.symm
    · have := h.1; omega⟩
theorem Far.alloc (h : Far w p v b) (o : Obj) : Far (w.alloc o) p v b := ⟨by have := h.1; simp; omega, h.2⟩
theorem Far.size (h : Far w p v b) (hs : w.heap.size ≤ w'.heap.size) : Far w' p v b := ⟨Nat.lt_of_lt_of_le h.1 hs, h.2⟩
theorem W2.new (h : W2 w p v D) (o : Obj) : Far (w.alloc o) p v w.heap.size := ⟨by simp, fun e => by have := h.blk.lt; omega, fun e => by have := (h.own.lt _ e.symm).2; omega⟩
theorem Nx.cell (hn : Nx w w' p v v') {i : Nat} {u : Value} (hb : Far w p v b) (hc : w.cell? ⟨b, i, none⟩ = some u) : w'.cell? ⟨b, i, none⟩ = some u := (hn.1.cell (p := ⟨b, i, none⟩) hb hb.1).trans hc
theorem Nx.sl (hn : Nx w w' p v v') {u : Value} {xs : List Value} (hs : Sl w u xs) (hf : xs ≠ [] → ∀ g, u.ownBlock = some g → Far w p v g) : Sl w' u xs := hs.kp hn.1 (fun hne g hg _ => hf hne g hg)
theorem Nx.trans {w'' : World} {v'' : Value} (h : Nx w w' p v v') (k : Nx w' w'' p v' v'') : Nx w w'' p v v'' :=
  ⟨h.1.next k.1 (fun b hb _ => hb.next h), fun g hg => by
    rcases k.2 g hg with h1 | h1
    · exact h.2 g h1
    · right; have := h.1.size; omega⟩
theorem Nx.drewN (h : Nx w w' p v v') (n : Nat) : Nx w (w'.drewN n) p v v' := ⟨h.1.drewN n, h.2⟩
end

/-- Since w0 the writer has left alone what lies below B. -/
structure LW (w0 w : World) (B : Nat) (v : Value) : Prop where
  own : ∀ g, v.ownBlock = some g → B ≤ g
  kp : Kp (· < B) w0 w
  size : B ≤ w.heap.size
section
variable {w0 w w' : World} {p B : Nat} {v v' : Value}
theorem LW.next (h : LW w0 w B v) (hn : Nx w w' p v v') (hp : B ≤ p) : LW w0 w' B v' :=
  ⟨fun g hg => by
    rcases hn.2 g hg with h1 | h1
    · exact h.own g h1
    · have := h.size; omega, h.kp.next hn.1 (fun k hk hl => ⟨Nat.lt_of_lt_of_le hk h.size, fun e => by omega, fun e => by have := h.own k e.symm; omega⟩), Nat.le_trans h.size hn.1.size⟩
theorem LW.alloc (h : LW w0 w B v) (o : Obj) : LW w0 (w.alloc o) B v := ⟨h.own, h.kp.alloc o, by have := h.size; simp; omega⟩
theorem LW.drew (h : LW w0 w B v) : LW w0 w.drew B v := ⟨h.own, h.kp.drew, h.size⟩
theorem LW.drewN (h : LW w0 w B v) (n : Nat) : LW w0 (w.drewN n) B v := ⟨h.own, h.kp.drewN n, h.size⟩
theorem LW.all (h : LW w0 w B v) (hk : Kp (fun _ => True) w w') : LW w0 w' B v := ⟨h.own, h.kp.next hk (fun _ _ _ => trivial), Nat.le_trans h.size hk.size⟩
end

theorem put2 {w : World} {p : Nat} {v : Value} {D : List Nat} (h : W2 w p v D) (a : Int) (x : Nat) (ha : a = x) (hx : x < 2 ^ 64) (c : Int) (k : Nat) (hk : pk c = k) (hl : D.length ≤ 999999999900) :
    Calls Try.prog 67 #[.pointer (some ⟨p, 0, none⟩), .int .u64 a, .int .i64 c] w fun e w' => e = .returned (.pointer (some ⟨p, 0, none⟩)) ∧ ∃ v', W2 w' p v' (D ++ ofn x k) ∧ Nx w w' p v v' := by
  refine (Put_any h.wr a x ha hx c k hk (fun _ hf => hf.1) hl).mono ?_
  rintro e w' ⟨rfl, hW, hK⟩
  exact ⟨rfl, W2.next hW hK⟩
theorem flag2 {w : World} {p : Nat} {v : Value} {D : List Nat} (h : W2 w p v D) (b : Bool) (hl : D.length ≤ 999999999900) :
    Calls Try.prog 72 #[.pointer (some ⟨p, 0, none⟩), .bool b] w fun e w' => e = .returned (.pointer (some ⟨p, 0, none⟩)) ∧ ∃ v', W2 w' p v' (D ++ [b.toNat]) ∧ Nx w w' p v v' := by
  refine (WFlag_any h.wr b (fun _ hf => hf.1) hl).mono ?_
  rintro e w' ⟨rfl, hW, hK⟩
  exact ⟨rfl, W2.next hW hK⟩
theorem new2 (w : World) : Calls Try.prog 60 #[] w fun e w' => e = .returned (.pointer (some ⟨w.heap.size, 0, none⟩)) ∧ W2 w' w.heap.size (.slice none 0 0) [] ∧ Kp (fun _ => True) w w' ∧ w.heap.size < w'.heap.size := by
  go_enter Try.func60, Try.ntmps60
  go_wp2
  go_ret
  exact ⟨rfl, ⟨Blk.new _ _ _, World.ownsRow_nil _ _ _ _, Dgs.nil⟩, (Kp.refl _ _).alloc _, by simp⟩
theorem out2 {w : World} {p : Nat} {v : Value} {D : List Nat} (h : W2 w p v D) (hl : D.length ≤ 1000000000000) :
    Calls Try.prog 62 #[.pointer (some ⟨p, 0, none⟩)] w fun e w' => ∃ v', e = .returned v' ∧ w'.ownsRow w.heap.size 5 1 v' (pack D).length (bv (pack D)) ∧ Kp (fun _ => True) w w' := Out_any h.wr hl
/-- One slice of bytes in a row of slices that was just laid. -/
theorem Sls.one {F : Nat → Prop} {w : World} {b : Nat} {u : Value} {bs : List Nat} (hb : F b) (hc : w.cell? ⟨b, 0, none⟩ = some u) (hu : Sl w u (bv bs)) (hF : bs ≠ [] → ∀ g, u.ownBlock = some g → F g) (hbt : Bts bs) : Sls F w (.slice (some ⟨b, 0, none⟩) 1 1) [bs] := by
  have hlt := World.block_lt_of_cell? w _ hc
  obtain ⟨A, cap, rfl⟩ := hu.form8
  refine ⟨[.slice A bs.length cap], .inr ⟨by simp, b, 0, 1, rfl, Nat.le_refl _, hlt, fun j x hx => ?_⟩, fun _ g hg => ?_, rfl, fun i hi => ?_⟩
  · rcases j with _ | j
    · simp at hx; subst hx; exact hc
    · simp at hx
  · have : b = g := by simpa [Value.ownBlock] using hg
    subst this
    exact hb
  · simp at hi
    subst hi
    exact ⟨hbt, A, cap, rfl, hu, fun hne g hg => hF (fun e => hne (by rw [e]; rfl)) g hg⟩
end Go.Proofs.Ythgjhdcifdfhoaa

namespace Go.Proofs.Ythgjhdcifdfhoaa
open Go.RowKit

set_option maxRecDepth 100000 in
theorem SameBytes_any {w : World} {v1 v2 : Value} {a b : List Nat} (h1 : Sl w v1 (bv a)) (h2 : Sl w v2 (bv b)) (hl : a.length ≤ 140737488351232) :
    Calls Try.prog 17 #[v1, v2] w fun e w' => e = .returned (.bool (decide (a = b))) ∧ ∃ n, w' = w.drewN n := by
  obtain ⟨A, cap, rfl⟩ := h1.form8
  obtain ⟨B, cap2, rfl⟩ := h2.form8
  by_cases hne : a.length = b.length
  · have hq : ((a.length : Int) != (b.length : Int)) = false := by simp; omega
    go_enter Try.func17, Try.ntmps17
    go_wp2
    go_loopw [5] (fun i wr => ∃ k m : Nat, k ≤ a.length ∧ i = .int .i64 k ∧ a.take k = b.take k ∧ wr = w.drewN m) (fun i _ => a.length - (intOf i).toNat)
    case atStart => exact ⟨0, 0, Nat.zero_le _, rfl, rfl, rfl⟩
    case round =>
      obtain ⟨k, m, hk, rfl, ht, rfl⟩ := hrel
      have HT := hd ht
      clear ht
      by_cases hlt : k < a.length
      · obtain ⟨g, off, rfl, _, c1⟩ := h1.at_ (bv_getD a k hlt)
        obtain ⟨g', off', rfl, _, c2⟩ := h2.at_ (bv_getD b k (by omega))
        have hs1 : a.take (k + 1) = a.take k ++ [a.getD k 0] := by rw [List.take_succ_eq_append_getElem hlt]; simp [hlt]
        have hs2 : b.take (k + 1) = b.take k ++ [b.getD k 0] := by rw [List.take_succ_eq_append_getElem (by omega)]; simp [show k < b.length by omega]
        have hne' : a.getD k 0 ≠ b.getD k 0 → a ≠ b := fun h e => h (by rw [e])
        generalize a.getD k 0 = x at *
        generalize b.getD k 0 = y at *
        have hkb : k < b.length := by omega
        have HN := hd hne
        clear hne
        have HS := hd (And.intro hs1 hs2)
        have HN' := hd hne'
        clear hs1 hs2 hne'
        by_cases hxy : x = y
        · subst hxy
          go_wp2
          go_quiet (fail)
          go_wp2
          go_roundw
          case rel => exact ⟨k + 1, _, by omega, by go_num, by rw [HS.out.1, HS.out.2, HT.out], rfl⟩
          case measure => simp [intOf]; omega
        · have hq2 : ((x : Int) != (y : Int)) = true := by simp; omega
          have hab : decide (a = b) = false := by simp; exact HN'.out hxy
          have HX := hd hab
          clear hxy hab
          go_wp2
          go_quiet (fail)
          go_wp2
          go_ret
          exact ⟨ret_bool HX.out.symm, _, World.drewN_drewN _ _ _⟩
      · obtain rfl : k = a.length := by omega
        have hab : decide (a = b) = true := by
          have := HT.out
          rw [List.take_of_length_le (Nat.le_refl _), List.take_of_length_le (by omega)] at this
          simpa using this
        have HX := hd hab
        clear hab
        go_wp2
        go_ret
        exact ⟨ret_bool HX.out.symm, _, rfl⟩
  · have hab : decide (a = b) = false := by simp; intro e; exact hne (by rw [e])
    have hq : ((a.length : Int) != (b.length : Int)) = true := by simp; omega
    rw [hab]
    clear hab hne
    go_enter Try.func17, Try.ntmps17
    go_wp2
    go_ret
    exact ⟨rfl, 0, rfl⟩

set_option maxRecDepth 100000 in
theorem Own_any {w : World} {v : Value} {bs : List Nat} (h : Sl w v (bv bs)) (hl : bs.length ≤ 140737488351232) :
    Calls Try.prog 13 #[v] w fun e w' => ∃ v', e = .returned v' ∧ w'.ownsRow w.heap.size 5 1 v' bs.length (bv bs) ∧ Kp (fun _ => True) w w' := by
  obtain ⟨i0, hi, hz0, hz1, hz2⟩ := info_parts Try.info_u8
  go_enter Try.func13, Try.ntmps13
  go_wp2_with (at_builtin; refine wpList_apps rfl _ _ 22 rfl w.heap.size 5 i0 (.int .u8 0) 1 Try.underlying22 hi hz0 hz1 hz2 rfl (.slice none 0 0) 0 [] rfl (World.ownsRow_nil _ _ _ _) _ (bv bs) rfl h (bv_oneCell bs) (by rw [bv_length]; omega) (by decide) (Nat.le_refl _) ?_; intro v2 w2 ho2 hg2 _)
  go_ret
  rw [bv_length] at ho2
  exact ⟨_, rfl, by simpa using ho2, Kp.of_grown hg2 (fun k _ _ e => by cases e)⟩

set_option maxRecDepth 100000 in
theorem Spoil_any {w : World} {v : Value} {base n : Nat} {xs : List Value} (h : w.ownsRow base 5 1 v n xs) (hn : n ≤ 140737488351232) :
    Calls Try.prog 20 #[v] w fun e w' => e = .returned (.tuple #[]) ∧ Kp (fun k => some k ≠ v.ownBlock) w w' := by
  rcases Nat.eq_zero_or_pos n with h0 | h0
  · subst h0
    obtain ⟨A, cap, rfl⟩ : ∃ A cap, v = .slice A 0 cap := by
      rcases h.2 with ⟨rfl, _⟩ | ⟨g, cap, cur, rfl, _⟩
      · exact ⟨_, _, rfl⟩
      · exact ⟨_, _, rfl⟩
    go_enter Try.func20, Try.ntmps20
    go_wp2
    refine wp_loop_rounds 1 ?_
    rw [rounds_succ]
    go_wp2
    go_end0
    exact ⟨rfl, Kp.refl _ _⟩
  · obtain ⟨g, cap, rfl, _, _⟩ := h.form h0
    go_enter Try.func20, Try.ntmps20
    go_wp2
    go_loopw [2] (fun i wr => ∃ (k : Nat) (ys : List Value), k ≤ n ∧ i = .int .i64 k ∧ wr.ownsRow base 5 1 (.slice (some ⟨g, 0, none⟩) n cap) n ys ∧ Kp (fun k => some k ≠ some g) w wr) (fun i _ => n - (intOf i).toNat)
    case atStart => exact ⟨0, xs, Nat.zero_le _, rfl, h, Kp.refl _ _⟩
    case round =>
      obtain ⟨k, ys, hk, rfl, ho, hK⟩ := hrel
      by_cases hlt : k < n
      · have hyl : k < ys.length := by have := ho.1; omega
        have hc := ho.cellAt k (by omega)
        rw [List.getElem?_eq_getElem hyl] at hc
        have hf := ho.frozenAt k
        have hs := ho.stored k (.int .u8 165)
        generalize ys[k] = y at *
        go_wp2
        go_roundw
        case rel => exact ⟨k + 1, _, by omega, by go_num, hs.1, hK.next (Kp.of_grown hs.2 (fun _ h _ => h)) (fun _ h _ => h)⟩
        case measure => simp [intOf]; omega
      · go_wp2
        go_end0
        exact ⟨rfl, hK⟩

/-- A slice that was just written out. -/
theorem Sl.lit (w : World) (t : TypeId) (xs : List Value) (n c : Nat) (hn : n = xs.length) (hc : c = xs.length) (_hm : xs.length ≤ maxLen) : Sl (w.alloc (.cells xs.toArray t)) (.slice (some ⟨w.heap.size, 0, none⟩) n c) xs := by
  subst hn hc
  by_cases hne : xs = []
  · subst hne
    exact .inl ⟨rfl, _, _, rfl⟩
  refine .inr ⟨hne, w.heap.size, 0, xs.length, rfl, Nat.le_refl _, by simp, fun j u hu => ?_⟩
  rw [cell_of_row _ _ _ _ _ _ (heap_alloc_new w _), Nat.zero_add]
  simpa using hu
theorem Kp.all {w w' : World} (h : Kp (· < w.heap.size) w w') : Kp (fun _ => True) w w' := h.mono fun _ _ hl => hl
theorem Kp.low {F : Nat → Prop} {w0 w w' : World} (h : Kp (· < w0.heap.size) w0 w) (k : Kp F w w') (hF : ∀ i, i < w0.heap.size → F i) : Kp (· < w0.heap.size) w0 w' := h.next k fun i hi _ => hF i hi
end Go.Proofs.Ythgjhdcifdfhoaa

namespace Go.Proofs.Ythgjhdcifdfhoaa
open Go.RowKit

theorem wf_u8 (n : Int) (h : (Lit.int .u8 n).wf = true) : 0 ≤ n ∧ n < (256 : Nat) := by
  simp [Lit.wf, IntKind.min, IntKind.max, IntKind.signed, IntKind.bits] at h; omega
theorem wf_u16 (n : Int) (h : (Lit.int .u16 n).wf = true) : 0 ≤ n ∧ n < (65536 : Nat) := by
  simp [Lit.wf, IntKind.min, IntKind.max, IntKind.signed, IntKind.bits] at h; omega
theorem Kp.below {w w' : World} (h : Kp (fun _ => True) w w') : Below w.heap.size w w' := h.to_below (Nat.le_refl _) fun _ _ => trivial
end Go.Proofs.Ythgjhdcifdfhoaa

namespace Go.Proofs.Ythgjhdcifdfhoaa.V5
open Go.RowKit Go.Proofs.Ythgjhdcifdfhoaa
set_option linter.unusedVariables false

theorem vl_in_byte (bs : List Nat) (k j : Nat) : ∀ m, j + m ≤ 8 → vl bs (8 * k + j) m = bs.getD k 0 / 2 ^ (8 - j - m) % 2 ^ m
  | 0, _ => by rw [vl_zero, Nat.pow_zero, Nat.mod_one]
  | m + 1, h => by
    have hd := dig_at bs k (j + m) (by omega)
    rw [vl_succ, vl_in_byte bs k j m (by omega), show 8 * k + j + m = 8 * k + (j + m) from by omega, hd]
    generalize bs.getD k 0 = b
    have e1 : 8 - j - m = (8 - j - (m + 1)) + 1 := by omega
    have e2 : 7 - (j + m) = 8 - j - (m + 1) := by omega
    rw [e1, e2, Nat.pow_succ, ← Nat.div_div_eq_div_mul]
    generalize b / 2 ^ (8 - j - (m + 1)) = q
    rw [Nat.pow_succ, Nat.mul_comm (2 ^ m) 2, Nat.mod_mul]
    omega
theorem take_good {bs : List Nat} {a n : Nat} (hn : n ≤ 64) (h : a + n ≤ 8 * bs.length) : tVal bs a 0 (n : Int) = vl bs a n ∧ tAt bs a 0 (n : Int) = a + n ∧ tErr 0 (n : Int) (8 * bs.length - a) = 0 := by
  have h0 : tErr 0 (n : Int) (8 * bs.length - a) = 0 := by
    unfold tErr
    rw [if_neg (by decide), if_neg (by omega), if_neg (by omega)]
  unfold tVal tAt
  rw [if_pos h0, if_pos h0, Int.toNat_natCast]
  exact ⟨rfl, rfl, h0⟩
theorem take_short {bs : List Nat} {a n : Nat} (h : 8 * bs.length < a + n) (err : Int) : tErr err (n : Int) (8 * bs.length - a) ≠ 0 := by
  unfold tErr
  split
  · assumption
  · split
    · decide
    · rw [if_pos (by omega)]; decide
theorem take_err {err n left : Int} (h : err ≠ 0) : tErr err n left ≠ 0 := by
  unfold tErr
  rw [if_pos h]
  exact h
/-- A reader's place and error. -/
structure RS where
  at_ : Nat
  err : Int
def RS.val (bs : List Nat) (s : RS) (n : Nat) : Nat := tVal bs s.at_ s.err (n : Int)
def RS.next (bs : List Nat) (s : RS) (n : Nat) : RS := ⟨tAt bs s.at_ s.err (n : Int), tErr s.err (n : Int) (8 * bs.length - s.at_)⟩
theorem RS.good {bs : List Nat} {a n : Nat} (hn : n ≤ 64) (h : a + n ≤ 8 * bs.length) : RS.val bs ⟨a, 0⟩ n = vl bs a n ∧ RS.next bs ⟨a, 0⟩ n = ⟨a + n, 0⟩ := by
  obtain ⟨h1, h2, h3⟩ := take_good hn h
  unfold RS.val RS.next
  exact ⟨h1, by rw [h2, h3]⟩
theorem RS.bad {bs : List Nat} {s : RS} {n : Nat} (h : s.err ≠ 0) : (RS.next bs s n).err ≠ 0 := take_err h
theorem RS.short {bs : List Nat} {s : RS} {n : Nat} (h : 8 * bs.length < s.at_ + n) : (RS.next bs s n).err ≠ 0 := take_short h _
/-- A descriptor. -/
structure VD where
  n : Bool
  st : Bool
  part : Nat
  hp : Bool
  lg : Bool
  pic : Nat
  ht : Bool
  tl : Nat
  hi : Bool
  ti : Nat
  sy : Bool
  hk : Bool
  ky : Nat
def VD.zero : VD := ⟨false, false, 0, false, false, 0, false, 0, false, 0, false, false, 0⟩
/-- The pictures' part. -/
def picR (bs : List Nat) (s : RS) (hp : Bool) : Bool × Nat × RS :=
  if hp = true then
    (let lg := decide (RS.val bs s 1 = 1); let s1 := RS.next bs s 1; let k := if lg = true then 15 else 7; (lg, RS.val bs s1 k, RS.next bs s1 k))
  else (false, 0, s)
def tlR (bs : List Nat) (s : RS) (ht : Bool) : Nat × RS := if ht = true then (RS.val bs s 8, RS.next bs s 8) else (0, s)
def tiR (bs : List Nat) (s : RS) (b : Bool) : Nat × Bool × Nat × RS :=
  if b = true then (RS.val bs s 2, decide (RS.val bs (RS.next bs s 2) 1 = 1), RS.val bs (RS.next bs (RS.next bs s 2) 1) 5, RS.next bs (RS.next bs (RS.next bs s 2) 1) 5) else (0, false, 0, s)
/-- What comes behind the first byte. -/
def moreR (bs : List Nat) (s : RS) : Bool × Bool × Bool × Bool × RS :=
  let s1 := RS.next bs s 1; let s2 := RS.next bs s1 1; let s3 := RS.next bs s2 1; let s4 := RS.next bs s3 1
  (decide (RS.val bs s 1 = 1), decide (RS.val bs s1 1 = 1), decide (RS.val bs s2 1 = 1), decide (RS.val bs s3 1 = 1), RS.next bs s4 4)
/-- All that visit reads. -/
def visR (bs : List Nat) (s : RS) : VD × RS :=
  let s1 := RS.next bs s 1; let s2 := RS.next bs s1 1; let s3 := RS.next bs s2 1; let s4 := RS.next bs s3 1; let s5 := RS.next bs s4 1; let s6 := RS.next bs s5 3
  let d := { VD.zero with n := decide (RS.val bs s2 1 = 1), st := decide (RS.val bs s3 1 = 1), part := RS.val bs s5 3 }
  if RS.val bs s 1 = 1 then
    (let m := moreR bs s6; let p := picR bs m.2.2.2.2 m.1; let t := tlR bs p.2.2 m.2.1; let i := tiR bs t.2 (m.2.2.1 || m.2.2.2.1)
     ({ d with hp := m.1, ht := m.2.1, hi := m.2.2.1, hk := m.2.2.2.1, lg := p.1, pic := p.2.1, tl := t.1, ti := i.1, sy := i.2.1, ky := i.2.2.1 }, i.2.2.2))
  else (d, s6)
/-- The descriptor, without what is not there. -/
def VD.plain (d : VD) : VD := { d with lg := d.hp && d.lg, pic := if d.hp = true then d.pic else 0, tl := if d.ht = true then d.tl else 0, ti := if d.hi = true then d.ti else 0, sy := d.hi && d.sy, ky := if d.hk = true then d.ky else 0 }
/-- What the program's Parse answers: the descriptor, how many bytes it has, whether there are as many. -/
def parV (bs : List Nat) : Option (VD × Nat) := if (visR bs ⟨0, 0⟩).2.err = 0 then some ((visR bs ⟨0, 0⟩).1.plain, (visR bs ⟨0, 0⟩).2.at_ / 8) else none
def hasB (c m : Nat) : Bool := decide (c / m % 2 = 1)
theorem has_vl (bs : List Nat) (k j : Nat) (h : j < 8) : hasB (bs.getD k 0) (2 ^ (7 - j)) = decide (vl bs (8 * k + j) 1 = 1) := by
  unfold hasB
  rw [vl_in_byte bs k j 1 (by omega), show 8 - j - 1 = 7 - j from by omega, Nat.pow_one]
theorem zero_hasB (m : Nat) : hasB 0 m = false := by unfold hasB; rw [Nat.zero_div]; rfl
theorem getD_out {bs : List Nat} {k : Nat} (h : bs.length ≤ k) : bs.getD k 0 = 0 := by rw [List.getD_eq_getElem?_getD, List.getElem?_eq_none h]; rfl
def picB (bs : List Nat) (hp : Bool) : Bool × Nat × Nat :=
  if hp = true then (hasB (bs.getD 2 0) 128, if hasB (bs.getD 2 0) 128 = true then bs.getD 2 0 % 128 * 256 + bs.getD 3 0 else bs.getD 2 0 % 128, if hasB (bs.getD 2 0) 128 = true then 4 else 3) else (false, 0, 2)
def tlB (bs : List Nat) (i : Nat) (ht : Bool) : Nat × Nat := if ht = true then (bs.getD i 0, i + 1) else (0, i)
def tiB (bs : List Nat) (i : Nat) (b : Bool) : Nat × Bool × Nat × Nat := if b = true then (bs.getD i 0 / 64, hasB (bs.getD i 0) 32, bs.getD i 0 % 32, i + 1) else (0, false, 0, i)
theorem picR_err {bs : List Nat} {s : RS} {hp : Bool} (h : s.err ≠ 0) : (picR bs s hp).2.2.err ≠ 0 := by
  unfold picR
  split
  · exact RS.bad (RS.bad h)
  · exact h
theorem tlR_err {bs : List Nat} {s : RS} {ht : Bool} (h : s.err ≠ 0) : (tlR bs s ht).2.err ≠ 0 := by
  unfold tlR
  split
  · exact RS.bad h
  · exact h
theorem tiR_err {bs : List Nat} {s : RS} {b : Bool} (h : s.err ≠ 0) : (tiR bs s b).2.2.2.err ≠ 0 := by
  unfold tiR
  split
  · exact RS.bad (RS.bad (RS.bad h))
  · exact h
theorem moreR_err {bs : List Nat} {s : RS} (h : s.err ≠ 0) : (moreR bs s).2.2.2.2.err ≠ 0 := RS.bad (RS.bad (RS.bad (RS.bad (RS.bad h))))
theorem picR_ok (bs : List Nat) (hb : Bts bs) (hp : Bool) (h2 : 2 ≤ bs.length) : ((picB bs hp).2.2 ≤ bs.length → picR bs ⟨16, 0⟩ hp = ((picB bs hp).1, (picB bs hp).2.1, ⟨8 * (picB bs hp).2.2, 0⟩)) ∧ (¬ (picB bs hp).2.2 ≤ bs.length → (picR bs ⟨16, 0⟩ hp).2.2.err ≠ 0) := by
  unfold picB picR
  cases hp
  · simp only [Bool.false_eq_true, if_false]
    exact ⟨fun _ => (by trivial), fun h => absurd h2 h⟩
  · simp only [if_true]
    by_cases h3 : 3 ≤ bs.length
    · obtain ⟨v1, n1⟩ := RS.good (bs := bs) (a := 16) (n := 1) (by decide) (by omega)
      rw [v1, n1]
      have hv := has_vl bs 2 0 (by decide)
      rw [show (2 : Nat) ^ (7 - 0) = 128 from rfl, show 8 * 2 + 0 = 16 from rfl] at hv
      rw [← hv]
      cases hz : hasB (bs.getD 2 0) 128
      · simp only [Bool.false_eq_true, if_false]
        obtain ⟨v2, n2⟩ := RS.good (bs := bs) (a := 16 + 1) (n := 7) (by decide) (by omega)
        refine ⟨fun _ => ?_, fun h => absurd h3 h⟩
        rw [v2, n2]
        have := vl_in_byte bs 2 1 7 (by decide)
        rw [show 8 * 2 + 1 = 16 + 1 from rfl, show 8 - 1 - 7 = 0 from rfl, Nat.pow_zero, Nat.div_one] at this
        rw [this]
      · simp only [if_true]
        constructor
        · intro h4
          obtain ⟨v2, n2⟩ := RS.good (bs := bs) (a := 16 + 1) (n := 15) (by decide) (by omega)
          rw [v2, n2]
          have e1 := vl_in_byte bs 2 1 7 (by decide)
          have e2 := vl_byte bs 3 (hb.getD 3)
          rw [show 8 * 2 + 1 = 16 + 1 from rfl, show 8 - 1 - 7 = 0 from rfl, Nat.pow_zero, Nat.div_one] at e1
          rw [show (15 : Nat) = 7 + 8 from rfl, vl_add, e1, show 16 + 1 + 7 = 8 * 3 from rfl, e2]
        · intro h4
          exact RS.short (by show 8 * bs.length < 16 + 1 + 15; omega)
    · have h0 := getD_out (bs := bs) (k := 2) (by omega)
      rw [h0, zero_hasB]
      simp only [Bool.false_eq_true, if_false]
      exact ⟨fun h => absurd h h3, fun _ => RS.bad (RS.short (by show 8 * bs.length < 16 + 1; omega))⟩
theorem tlR_ok (bs : List Nat) (hb : Bts bs) (ht : Bool) (i : Nat) (hi : i ≤ bs.length) : ((tlB bs i ht).2 ≤ bs.length → tlR bs ⟨8 * i, 0⟩ ht = ((tlB bs i ht).1, ⟨8 * (tlB bs i ht).2, 0⟩)) ∧ (¬ (tlB bs i ht).2 ≤ bs.length → (tlR bs ⟨8 * i, 0⟩ ht).2.err ≠ 0) := by
  unfold tlB tlR
  cases ht
  · simp only [Bool.false_eq_true, if_false]
    exact ⟨fun _ => (by trivial), fun h => absurd hi h⟩
  · simp only [if_true]
    constructor
    · intro h
      obtain ⟨v1, n1⟩ := RS.good (bs := bs) (a := 8 * i) (n := 8) (by decide) (by omega)
      rw [v1, n1, vl_byte bs i (hb.getD i)]
      rfl
    · intro h
      exact RS.short (by show 8 * bs.length < 8 * i + 8; omega)
theorem tiR_ok (bs : List Nat) (hb : Bts bs) (b : Bool) (i : Nat) (hi : i ≤ bs.length) : ((tiB bs i b).2.2.2 ≤ bs.length → tiR bs ⟨8 * i, 0⟩ b = ((tiB bs i b).1, (tiB bs i b).2.1, (tiB bs i b).2.2.1, ⟨8 * (tiB bs i b).2.2.2, 0⟩)) ∧ (¬ (tiB bs i b).2.2.2 ≤ bs.length → (tiR bs ⟨8 * i, 0⟩ b).2.2.2.err ≠ 0) := by
  unfold tiB tiR
  cases b
  · simp only [Bool.false_eq_true, if_false]
    exact ⟨fun _ => (by trivial), fun h => absurd hi h⟩
  · simp only [if_true]
    constructor
    · intro h
      obtain ⟨v1, n1⟩ := RS.good (bs := bs) (a := 8 * i) (n := 2) (by decide) (by omega)
      obtain ⟨v2, n2⟩ := RS.good (bs := bs) (a := 8 * i + 2) (n := 1) (by decide) (by omega)
      obtain ⟨v3, n3⟩ := RS.good (bs := bs) (a := 8 * i + 2 + 1) (n := 5) (by decide) (by omega)
      have e1 := vl_in_byte bs i 0 2 (by decide)
      have e3 := vl_in_byte bs i 3 5 (by decide)
      have e2 := has_vl bs i 2 (by decide)
      have hx := hb.getD i
      rw [show 8 - 0 - 2 = 6 from rfl, show (2 : Nat) ^ 6 = 64 from rfl, show (2 : Nat) ^ 2 = 4 from rfl, Nat.add_zero] at e1
      rw [show 8 - 3 - 5 = 0 from rfl, Nat.pow_zero, Nat.div_one, show (2 : Nat) ^ 5 = 32 from rfl] at e3
      rw [show (2 : Nat) ^ (7 - 2) = 32 from rfl] at e2
      rw [n1, v1, n2, v2, v3, n3, e1, show 8 * i + 2 + 1 = 8 * i + 3 from rfl, e3, ← e2, Nat.mod_eq_of_lt (by omega)]
      rfl
    · intro h
      exact RS.bad (RS.bad (RS.short (by show 8 * bs.length < 8 * i + 2; omega)))
/-- What the reference's Parse answers. -/
def refB (bs : List Nat) : Option (VD × Nat) :=
  let b0 := bs.getD 0 0; let b1 := bs.getD 1 0
  let d := { VD.zero with n := hasB b0 32, st := hasB b0 16, part := b0 % 8 }
  if bs.length = 0 then none else
  if hasB b0 128 = true then
    (let p := picB bs (hasB b1 128); let t := tlB bs p.2.2 (hasB b1 64); let i := tiB bs t.2 (hasB b1 32 || hasB b1 16)
     if bs.length < 2 ∨ bs.length < i.2.2.2 then none else
     some ({ d with hp := hasB b1 128, ht := hasB b1 64, hi := hasB b1 32, hk := hasB b1 16, lg := p.1, pic := p.2.1, tl := t.1, ti := if hasB b1 32 = true then i.1 else 0, sy := hasB b1 32 && i.2.1, ky := if hasB b1 16 = true then i.2.2.1 else 0 }, i.2.2.2))
  else some (d, 1)
theorem tlB_ge (bs : List Nat) (i : Nat) (ht : Bool) : i ≤ (tlB bs i ht).2 := by
  unfold tlB
  split
  · exact Nat.le_succ i
  · exact Nat.le_refl i
theorem tiB_ge (bs : List Nat) (i : Nat) (b : Bool) : i ≤ (tiB bs i b).2.2.2 := by
  unfold tiB
  split
  · exact Nat.le_succ i
  · exact Nat.le_refl i
theorem parV_ref (bs : List Nat) (hb : Bts bs) : parV bs = refB bs := by
  unfold parV refB visR
  by_cases h0 : bs.length = 0
  · have hs : (RS.next bs ⟨0, 0⟩ 1).err ≠ 0 := RS.short (by show 8 * bs.length < 0 + 1; omega)
    have h6 := RS.bad (bs := bs) (n := 3) (RS.bad (bs := bs) (n := 1) (RS.bad (bs := bs) (n := 1) (RS.bad (bs := bs) (n := 1) (RS.bad (bs := bs) (n := 1) hs))))
    simp only [if_pos h0]
    rw [if_neg]
    split
    · exact tiR_err (tlR_err (picR_err (moreR_err h6)))
    · exact h6
  · obtain ⟨v1, n1⟩ := RS.good (bs := bs) (a := 0) (n := 1) (by decide) (by omega)
    obtain ⟨v2, n2⟩ := RS.good (bs := bs) (a := 0 + 1) (n := 1) (by decide) (by omega)
    obtain ⟨v3, n3⟩ := RS.good (bs := bs) (a := 0 + 1 + 1) (n := 1) (by decide) (by omega)
    obtain ⟨v4, n4⟩ := RS.good (bs := bs) (a := 0 + 1 + 1 + 1) (n := 1) (by decide) (by omega)
    obtain ⟨v5, n5⟩ := RS.good (bs := bs) (a := 0 + 1 + 1 + 1 + 1) (n := 1) (by decide) (by omega)
    obtain ⟨v6, n6⟩ := RS.good (bs := bs) (a := 0 + 1 + 1 + 1 + 1 + 1) (n := 3) (by decide) (by omega)
    have e0 := has_vl bs 0 0 (by decide)
    have e2 := has_vl bs 0 2 (by decide)
    have e3 := has_vl bs 0 3 (by decide)
    have e5 := vl_in_byte bs 0 5 3 (by decide)
    rw [show (2 : Nat) ^ (7 - 0) = 128 from rfl, show 8 * 0 + 0 = 0 from rfl] at e0
    rw [show (2 : Nat) ^ (7 - 2) = 32 from rfl, show 8 * 0 + 2 = 0 + 1 + 1 from rfl] at e2
    rw [show (2 : Nat) ^ (7 - 3) = 16 from rfl, show 8 * 0 + 3 = 0 + 1 + 1 + 1 from rfl] at e3
    rw [show 8 - 5 - 3 = 0 from rfl, Nat.pow_zero, Nat.div_one, show (2 : Nat) ^ 3 = 8 from rfl, show 8 * 0 + 5 = 0 + 1 + 1 + 1 + 1 + 1 from rfl] at e5
    simp only [n1, n2, n3, n4, n5, n6, v1, v3, v4, v6, if_neg h0, ← e2, ← e3, e5]
    by_cases hm : vl bs 0 1 = 1
    · have hh : hasB (bs.getD 0 0) 128 = true := by rw [e0]; exact decide_eq_true hm
      simp only [if_pos hm, if_pos hh]
      by_cases h2 : 2 ≤ bs.length
      · have hM : moreR bs ⟨0 + 1 + 1 + 1 + 1 + 1 + 3, 0⟩ = (hasB (bs.getD 1 0) 128, hasB (bs.getD 1 0) 64, hasB (bs.getD 1 0) 32, hasB (bs.getD 1 0) 16, ⟨16, 0⟩) := by
          obtain ⟨w1, m1⟩ := RS.good (bs := bs) (a := 8) (n := 1) (by decide) (by omega)
          obtain ⟨w2, m2⟩ := RS.good (bs := bs) (a := 8 + 1) (n := 1) (by decide) (by omega)
          obtain ⟨w3, m3⟩ := RS.good (bs := bs) (a := 8 + 1 + 1) (n := 1) (by decide) (by omega)
          obtain ⟨w4, m4⟩ := RS.good (bs := bs) (a := 8 + 1 + 1 + 1) (n := 1) (by decide) (by omega)
          obtain ⟨w5, m5⟩ := RS.good (bs := bs) (a := 8 + 1 + 1 + 1 + 1) (n := 4) (by decide) (by omega)
          have f0 := has_vl bs 1 0 (by decide)
          have f1 := has_vl bs 1 1 (by decide)
          have f2 := has_vl bs 1 2 (by decide)
          have f3 := has_vl bs 1 3 (by decide)
          rw [show (2 : Nat) ^ (7 - 0) = 128 from rfl, show 8 * 1 + 0 = 8 from rfl] at f0
          rw [show (2 : Nat) ^ (7 - 1) = 64 from rfl, show 8 * 1 + 1 = 8 + 1 from rfl] at f1
          rw [show (2 : Nat) ^ (7 - 2) = 32 from rfl, show 8 * 1 + 2 = 8 + 1 + 1 from rfl] at f2
          rw [show (2 : Nat) ^ (7 - 3) = 16 from rfl, show 8 * 1 + 3 = 8 + 1 + 1 + 1 from rfl] at f3
          unfold moreR
          rw [show 0 + 1 + 1 + 1 + 1 + 1 + 3 = 8 from rfl]
          simp only [m1, m2, m3, m4, m5, w1, w2, w3, w4, ← f0, ← f1, ← f2, ← f3]
        rw [hM]
        simp only
        obtain ⟨p1, p2⟩ := picR_ok bs hb (hasB (bs.getD 1 0) 128) h2
        have g1 := tlB_ge bs (picB bs (hasB (bs.getD 1 0) 128)).2.2 (hasB (bs.getD 1 0) 64)
        have g2 := tiB_ge bs (tlB bs (picB bs (hasB (bs.getD 1 0) 128)).2.2 (hasB (bs.getD 1 0) 64)).2 (hasB (bs.getD 1 0) 32 || hasB (bs.getD 1 0) 16)
        by_cases hp : (picB bs (hasB (bs.getD 1 0) 128)).2.2 ≤ bs.length
        · rw [p1 hp]
          simp only
          obtain ⟨t1, t2⟩ := tlR_ok bs hb (hasB (bs.getD 1 0) 64) _ hp
          by_cases ht : (tlB bs (picB bs (hasB (bs.getD 1 0) 128)).2.2 (hasB (bs.getD 1 0) 64)).2 ≤ bs.length
          · rw [t1 ht]
            simp only
            obtain ⟨i1, i2⟩ := tiR_ok bs hb (hasB (bs.getD 1 0) 32 || hasB (bs.getD 1 0) 16) _ ht
            by_cases hi : (tiB bs (tlB bs (picB bs (hasB (bs.getD 1 0) 128)).2.2 (hasB (bs.getD 1 0) 64)).2 (hasB (bs.getD 1 0) 32 || hasB (bs.getD 1 0) 16)).2.2.2 ≤ bs.length
            · rw [i1 hi, if_pos rfl, if_neg (by omega)]
              simp only [VD.plain]
              refine congrArg some ?_
              rw [Nat.mul_div_cancel_left _ (by decide : 0 < 8)]
              refine congrArg (fun z => (z, _)) ?_
              unfold picB tlB
              cases hasB (bs.getD 1 0) 128 <;> cases hasB (bs.getD 1 0) 64 <;> rfl
            · rw [if_neg (i2 hi), if_pos (.inr (by omega))]
          · rw [if_neg (tiR_err (t2 ht)), if_pos (.inr (by omega))]
        · rw [if_neg (tiR_err (tlR_err (p2 hp))), if_pos (.inr (by omega))]
      · have hs : (moreR bs ⟨0 + 1 + 1 + 1 + 1 + 1 + 3, 0⟩).2.2.2.2.err ≠ 0 := RS.bad (RS.bad (RS.bad (RS.bad (RS.short (by show 8 * bs.length < 0 + 1 + 1 + 1 + 1 + 1 + 3 + 1; omega)))))
        rw [if_neg (tiR_err (tlR_err (picR_err hs))), if_pos (.inl (by omega))]
    · have hh : ¬ hasB (bs.getD 0 0) 128 = true := by rw [e0, decide_eq_true_iff]; exact hm
      simp only [if_neg hm, if_neg hh]
      rfl
end Go.Proofs.Ythgjhdcifdfhoaa.V5

namespace Go.Proofs.Ythgjhdcifdfhoaa.V5
open Go.RowKit Go.Proofs.Ythgjhdcifdfhoaa
set_option linter.unusedVariables false

/-- The block of parts, beside the reader. -/
structure Pt (w : World) (p : Nat) (v : Value) (g : Nat) (T : TypeId) (cs : Array Value) : Prop where
  blk : Blk w g T cs
  np : g ≠ p
  nv : v.ownBlock ≠ some g
theorem Pt.set {w : World} {p g : Nat} {v : Value} {T : TypeId} {cs : Array Value} (h : Pt w p v g T cs) (i : Nat) (u : Value) : Pt (w.setCell ⟨g, i, none⟩ u) p v g T (cs.setIfInBounds i u) := ⟨h.blk.set i u, h.np, h.nv⟩
theorem Pt.alloc {w : World} {p g : Nat} {v : Value} {T : TypeId} {cs : Array Value} (h : Pt w p v g T cs) (o : Obj) : Pt (w.alloc o) p v g T cs := ⟨h.blk.alloc o, h.np, h.nv⟩
theorem Pt.kp {F : Nat → Prop} {w w' : World} {p g : Nat} {v : Value} {T : TypeId} {cs : Array Value} (h : Pt w p v g T cs) (hk : Kp F w w') (hg : F g) (hv : ∀ b, v.ownBlock = some b → b ≠ p) : Pt w' p v g T cs := ⟨h.blk.kp hk hg, h.np, h.nv⟩
theorem Rd.setPt {w : World} {p g : Nat} {bs : List Nat} {at_ : Nat} {err : Int} {v : Value} {T : TypeId} {cs : Array Value} (h : Rd w p bs at_ err v) (hp : Pt w p v g T cs) (i : Nat) (u : Value) : Rd (w.setCell ⟨g, i, none⟩ u) p bs at_ err v :=
  h.kp (F := (· ≠ g)) ((Kp.refl _ _).set_) (fun e => hp.np e.symm) (fun b hb e => hp.nv (by rw [hb, e]))
theorem tflag_any {w : World} {p g i : Nat} {bs : List Nat} {at_ : Nat} {err : Int} {v : Value} {T : TypeId} {cs : Array Value} (h : Rd w p bs at_ err v) (hp : Pt w p v g T cs) (hi : i < cs.size) :
    Calls Try.prog 131 #[.agg #[.pointer (some ⟨p, 0, none⟩)], .pointer (some ⟨g, i, none⟩)] w fun e w' => e = .returned (.tuple #[]) ∧ Rd w' p bs (tAt bs at_ err 1) (tErr err 1 (8 * bs.length - at_)) v ∧ Pt w' p v g T (cs.setIfInBounds i (.bool (tVal bs at_ err 1 == 1))) ∧ Kp (fun k => k ≠ p ∧ k ≠ g) w w' := by
  obtain ⟨c, hc⟩ : ∃ c, w.cell? ⟨g, i, none⟩ = some c := ⟨_, (hp.blk.cell i).trans (Array.getElem?_eq_getElem hi)⟩
  have hfr := hp.blk.frozen i
  go_enter Try.func131, Try.ntmps131
  go_wp2_with (go_at_call 69; refine (RFlag_all (h.alloc _)).mono ?_; rintro e w' ⟨rfl, hR, hK⟩; have hq := (hp.alloc (.cells #[.pointer (some ⟨p, 0, none⟩)] 100)).kp hK hp.np (fun b hb e => h.own (by rw [hb, e])); have hc' := (hq.blk.cell i).trans (Array.getElem?_eq_getElem hi); have hfr' := hq.blk.frozen i)
  go_end0
  exact ⟨rfl, Rd.setPt hR hq i _, hq.set i _, ((((Kp.refl _ _).alloc _).next hK (fun k hk _ => hk.1)).setCell (fun k hk _ => hk.2) _)⟩
theorem tnum_any {w : World} {p g i : Nat} {bs : List Nat} {at_ : Nat} {err : Int} {v : Value} {T : TypeId} {cs : Array Value} (h : Rd w p bs at_ err v) (hp : Pt w p v g T cs) (hi : i < cs.size) (n : Int) (hn : n ≤ 16) :
    Calls Try.prog 132 #[.agg #[.pointer (some ⟨p, 0, none⟩)], .pointer (some ⟨g, i, none⟩), .int .i64 n] w fun e w' => e = .returned (.tuple #[]) ∧ Rd w' p bs (tAt bs at_ err n) (tErr err n (8 * bs.length - at_)) v ∧ Pt w' p v g T (cs.setIfInBounds i (.int .u16 (tVal bs at_ err n))) ∧ Kp (fun k => k ≠ p ∧ k ≠ g) w w' := by
  have hlt : tVal bs at_ err n < 65536 := by
    unfold tVal
    split
    · have := vl_lt bs at_ n.toNat
      have : 2 ^ n.toNat ≤ 2 ^ 16 := Nat.pow_le_pow_right (by decide) (by omega)
      omega
    · decide
  go_enter Try.func132, Try.ntmps132
  go_wp2_with (go_at_call 68; refine (Take_all (h.alloc _) n).mono ?_; rintro e w' ⟨rfl, hR, hK⟩; have hq := (hp.alloc (.cells #[.pointer (some ⟨p, 0, none⟩)] 100)).kp hK hp.np (fun b hb e => h.own (by rw [hb, e])); have hc' := (hq.blk.cell i).trans (Array.getElem?_eq_getElem hi); have hfr' := hq.blk.frozen i)
  go_end0
  exact ⟨rfl, Rd.setPt hR hq i _, hq.set i _, ((((Kp.refl _ _).alloc _).next hK (fun k hk _ => hk.1)).setCell (fun k hk _ => hk.2) _)⟩
end Go.Proofs.Ythgjhdcifdfhoaa.V5

namespace Go.Proofs.Ythgjhdcifdfhoaa.V5
open Go.RowKit Go.Proofs.Ythgjhdcifdfhoaa
set_option linter.unusedVariables false
theorem meth_tnum (a : Addr) (w : World) : (method 304 100 (.agg #[.pointer (some a)]) "easel/vp8.number").run Try.prog w = .ok (132, .agg #[.pointer (some a)]) w := by kernel_rfl
theorem meth_tflag (a : Addr) (w : World) : (method 304 100 (.agg #[.pointer (some a)]) "easel/vp8.flag").run Try.prog w = .ok (131, .agg #[.pointer (some a)]) w := by kernel_rfl
set_option maxRecDepth 100000 in
theorem spare_t {w : World} {p : Nat} {bs : List Nat} {at_ : Nat} {err : Int} {v : Value} (h : Rd w p bs at_ err v) (n : Int) (hn : n ≤ 16) :
    Calls Try.prog 91 #[.iface 100 (.agg #[.pointer (some ⟨p, 0, none⟩)]), .int .i64 n] w fun e w' => e = .returned (.tuple #[]) ∧ Rd w' p bs (tAt bs at_ err n) (tErr err n (8 * bs.length - at_)) v ∧ Kp (fun k => k ≠ p) w w' := by
  have hM := meth_tnum ⟨p, 0, none⟩
  have hlt := h.blk.lt
  have hP : Pt (w.alloc (.cells #[.int .u16 0] 25)) p v w.heap.size 25 #[.int .u16 0] := ⟨Blk.new _ _ _, by omega, fun e => by have := h.vlt _ e; omega⟩
  go_enter Try.func91, Try.ntmps91
  go_wp2_with (go_at_call 132; refine (tnum_any (h.alloc _) hP (by decide) n hn).mono ?_; rintro e w' ⟨rfl, hR, hq, hK⟩)
  go_end0
  exact ⟨rfl, hR, ((Kp.refl _ _).alloc _).next hK (fun k hk hl => ⟨hk, by omega⟩)⟩
set_option maxRecDepth 100000 in
theorem byteOf_t {w : World} {p g i : Nat} {bs : List Nat} {at_ : Nat} {err : Int} {v : Value} {T : TypeId} {cs : Array Value} (h : Rd w p bs at_ err v) (hp : Pt w p v g T cs) (hi : i < cs.size) (c : Nat) (hc : cs[i]? = some (.int .u8 c)) (hc8 : c < 256) (n : Int) (hn : n ≤ 8) :
    Calls Try.prog 92 #[.iface 100 (.agg #[.pointer (some ⟨p, 0, none⟩)]), .pointer (some ⟨g, i, none⟩), .int .i64 n] w fun e w' => e = .returned (.tuple #[]) ∧ Rd w' p bs (tAt bs at_ err n) (tErr err n (8 * bs.length - at_)) v ∧ Pt w' p v g T (cs.setIfInBounds i (.int .u8 (tVal bs at_ err n))) ∧ Kp (fun k => k ≠ p ∧ k ≠ g) w w' := by
  have hM := meth_tnum ⟨p, 0, none⟩
  have hlt := h.blk.lt
  have hgl := hp.blk.lt
  have hce := (hp.blk.cell i).trans hc
  have hV : tVal bs at_ err n < 256 := by
    unfold tVal
    split
    · have := vl_lt bs at_ n.toNat
      have : 2 ^ n.toNat ≤ 2 ^ 8 := Nat.pow_le_pow_right (by decide) (by omega)
      omega
    · decide
  have hP : Pt (w.alloc (.cells #[.int .u16 c] 25)) p v w.heap.size 25 #[.int .u16 c] := ⟨Blk.new _ _ _, by omega, fun e => by have := h.vlt _ e; omega⟩
  go_enter Try.func92, Try.ntmps92
  go_wp2_with (go_at_call 132; refine (tnum_any (h.alloc _) hP (Nat.lt_succ_self 0) n (by omega)).mono ?_; rintro e w' ⟨rfl, hR, hq, hK⟩; have hx := hq.blk.cell 0; have hpq := (hp.alloc (.cells #[.int .u16 c] 25)).kp hK ⟨hp.np, by omega⟩ (fun b hb e => h.own (by rw [hb, e])); have hc' := (hpq.blk.cell i).trans hc; have hfr' := hpq.blk.frozen i)
  go_end0
  exact ⟨rfl, Rd.setPt hR hpq i _, hpq.set i _, ((((Kp.refl _ _).alloc _).next hK (fun k hk hl => ⟨hk.1, by omega⟩)).setCell (fun k hk _ => hk.2) _)⟩
end Go.Proofs.Ythgjhdcifdfhoaa.V5
