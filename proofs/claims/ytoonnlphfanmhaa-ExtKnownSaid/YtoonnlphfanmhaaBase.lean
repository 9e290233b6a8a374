/- What a piece of memory holds, and which blocks a call leaves alone: the words that the walks of this seat share. No program stands here. -/
import Derived.WalkKit
import Derived.Deep.QuietTactic
import Derived.BigQuiet
import Derived.Lib.Hide
import Derived.Deep.Draws
import Derived.Maps.AppendAt
import Derived.Deep.AppendLies
namespace Go.Proofs.Ytoonnlphfanmhaa
open Go.RowKit

/-- Of the blocks that were there, those of F are as they were; the streams too; no block has gone. -/
structure Kp (F : Nat → Prop) (w w' : World) : Prop where
  os : w'.os = w.os
  tape : w'.tape = w.tape
  output : w'.output = w.output
  size : w.heap.size ≤ w'.heap.size
  block : ∀ k, F k → k < w.heap.size → w'.heap[k]? = w.heap[k]?

section
variable {F G : Nat → Prop} {a b c w w' : World}
theorem Kp.refl (F : Nat → Prop) (w : World) : Kp F w w := ⟨rfl, rfl, rfl, Nat.le_refl _, fun _ _ _ => rfl⟩
theorem Kp.trans (h : Kp F a b) (k : Kp F b c) : Kp F a c :=
  ⟨k.os.trans h.os, k.tape.trans h.tape, k.output.trans h.output, Nat.le_trans h.size k.size, fun i hi hl => (k.block i hi (Nat.lt_of_lt_of_le hl h.size)).trans (h.block i hi hl)⟩
theorem Kp.next (h : Kp F a b) (k : Kp G b c) (hG : ∀ i, F i → i < a.heap.size → G i) : Kp F a c :=
  ⟨k.os.trans h.os, k.tape.trans h.tape, k.output.trans h.output, Nat.le_trans h.size k.size, fun i hi hl => (k.block i (hG i hi hl) (Nat.lt_of_lt_of_le hl h.size)).trans (h.block i hi hl)⟩
theorem Kp.mono (h : Kp F w w') (hG : ∀ k, G k → k < w.heap.size → F k) : Kp G w w' := ⟨h.os, h.tape, h.output, h.size, fun k hk hl => h.block k (hG k hk hl) hl⟩
theorem Kp.drewN (h : Kp F a w) (n : Nat) : Kp F a (w.drewN n) := ⟨h.os, h.tape, h.output, h.size, h.block⟩
theorem Kp.drew (h : Kp F a w) : Kp F a w.drew := ⟨h.os, h.tape, h.output, h.size, h.block⟩
theorem Kp.alloc (h : Kp F a w) (o : Obj) : Kp F a (w.alloc o) :=
  ⟨h.os, h.tape, h.output, Nat.le_trans h.size (by simp), fun k hk hl => (Below.heap_alloc w o k (Nat.lt_of_lt_of_le hl h.size)).trans (h.block k hk hl)⟩
theorem Kp.setCell (h : Kp F a w) {p : Addr} (hp : ∀ k, F k → k < a.heap.size → k ≠ p.block) (u : Value) : Kp F a (w.setCell p u) :=
  ⟨h.os, h.tape, h.output, Nat.le_trans h.size (by simp [World.setCell]), fun k hk hl => (Below.heap_setCell w p u k (hp k hk hl)).trans (h.block k hk hl)⟩
theorem Kp.set (h : Kp F a w) {p i : Nat} {u : Value} (hp : ∀ k, F k → k < a.heap.size → k ≠ p) : Kp F a (w.setCell ⟨p, i, none⟩ u) := h.setCell (p := ⟨p, i, none⟩) hp u
theorem Kp.set_ {p i : Nat} {u : Value} (h : Kp (· ≠ p) a w) : Kp (· ≠ p) a (w.setCell ⟨p, i, none⟩ u) := h.setCell (p := ⟨p, i, none⟩) (fun _ hk _ => hk) u
theorem Kp.grown {row : Option Nat} (h : Kp F a w) (hg : w.grownBy w' row) (hr : ∀ k, F k → k < a.heap.size → some k ≠ row) : Kp F a w' :=
  ⟨hg.os.trans h.os, hg.tape.trans h.tape, hg.output.trans h.output, Nat.le_trans h.size hg.size, fun k hk hl => (hg.block k (Nat.lt_of_lt_of_le hl h.size) (hr k hk hl)).trans (h.block k hk hl)⟩
theorem Kp.of_grown {row : Option Nat} (hg : w.grownBy w' row) (hr : ∀ k, F k → k < w.heap.size → some k ≠ row) : Kp F w w' := (Kp.refl F w).grown hg hr
theorem Kp.to_below {B : Nat} (h : Kp F w w') (hB : B ≤ w.heap.size) (hF : ∀ k, k < B → F k) : Below B w w' := ⟨h.os, h.tape, h.output, h.size, fun k hk => h.block k (hF k hk) (by omega)⟩
theorem Kp.of_below {B : Nat} (h : Below B w w') (hF : ∀ k, F k → k < w.heap.size → k < B) : Kp F w w' := ⟨h.os, h.tape, h.output, h.size, fun k hk hl => h.block k (hF k hk hl)⟩
theorem Kp.cell (h : Kp F w w') {p : Addr} (hp : F p.block) (hl : p.block < w.heap.size) : w'.cell? p = w.cell? p := World.cell?_of_block (w := w) (h.block p.block hp hl)
theorem Kp.cell_some (h : Kp F w w') {p : Addr} {v : Value} (hc : w.cell? p = some v) (hp : F p.block) : w'.cell? p = some v :=
  (h.cell hp (World.block_lt_of_cell? w p hc)).trans hc
theorem Kp.frozen (h : Kp F w w') {p : Addr} (hp : F p.block) (hl : p.block < w.heap.size) : w'.frozen? p = w.frozen? p := World.frozen?_of_block (w := w) (h.block p.block hp hl)
end

/-- Block g is just the cells cs of element type t, none frozen. -/
def Blk (w : World) (g : Nat) (t : TypeId) (cs : Array Value) : Prop := w.heap[g]? = some (.cells cs t (0, 0))
section
variable {w w' : World} {g : Nat} {t : TypeId} {cs : Array Value} {F : Nat → Prop}
theorem Blk.lt (h : Blk w g t cs) : g < w.heap.size := lt_of_block h
theorem Blk.cell (h : Blk w g t cs) (i : Nat) : w.cell? ⟨g, i, none⟩ = cs[i]? := cell_of_row w g i cs t (0, 0) h
theorem Blk.frozen (h : Blk w g t cs) (i : Nat) : w.frozen? ⟨g, i, none⟩ = false := by
  unfold Blk at h
  simp [World.frozen?, h]
theorem Blk.new (w : World) (t : TypeId) (cs : Array Value) : Blk (w.alloc (.cells cs t)) w.heap.size t cs := heap_alloc_new w _
theorem Blk.drew (h : Blk w g t cs) : Blk w.drew g t cs := h
theorem Blk.drewN (h : Blk w g t cs) (n : Nat) : Blk (w.drewN n) g t cs := h
theorem Blk.alloc (h : Blk w g t cs) (o : Obj) : Blk (w.alloc o) g t cs := (Below.heap_alloc w o g h.lt).trans h
theorem Blk.set (h : Blk w g t cs) (i : Nat) (u : Value) : Blk (w.setCell ⟨g, i, none⟩ u) g t (cs.setIfInBounds i u) := by
  unfold Blk at h ⊢
  simp [World.setCell, Array.getElem?_modify, h]
theorem Blk.far (h : Blk w g t cs) {p : Addr} (hp : g ≠ p.block) (u : Value) : Blk (w.setCell p u) g t cs := (Below.heap_setCell w p u g hp).trans h
theorem Blk.kp (h : Blk w g t cs) (hk : Kp F w w') (hg : F g) : Blk w' g t cs := (hk.block g hg h.lt).trans h
theorem Blk.grown {row : Option Nat} (h : Blk w g t cs) (hb : w.grownBy w' row) (hg : some g ≠ row) : Blk w' g t cs := (hb.block g h.lt hg).trans h
theorem Blk.ne_ {g' : Nat} {t' : TypeId} {cs' : Array Value} (h : Blk w g t cs) (h' : Blk w g' t' cs') (hne : t ≠ t') : g ≠ g' := by
  rintro rfl
  unfold Blk at h h'
  rw [h] at h'
  injection h' with h'
  injection h' with _ ht
  exact hne ht
theorem own_blk_ne {base : Nat} {e : TypeId} {size n : Nat} {v : Value} {xs : List Value} (h : w.ownsRow base e size v n xs) (hg : Blk w g t cs) (hne : e ≠ t) : v.ownBlock ≠ some g := by
  rcases h.2 with ⟨rfl, _⟩ | ⟨g', cap, cur, rfl, _, hh, _⟩
  · simp [Value.ownBlock]
  · intro he
    have : g' = g := by simpa [Value.ownBlock] using he
    subst this
    exact Blk.ne_ (t := e) hh hg hne rfl
end

/-- A slice value reads as the cells xs (each element one cell): it is empty, or its cells lie in one block, from some place on. -/
def Sl (w : World) (v : Value) (xs : List Value) : Prop :=
  (xs = [] ∧ ∃ A cap, v = .slice A 0 cap) ∨
    (xs ≠ [] ∧ ∃ g off cap, v = .slice (some ⟨g, off, none⟩) xs.length cap ∧ xs.length ≤ cap ∧ g < w.heap.size ∧ ∀ j u, xs[j]? = some u → w.cell? ⟨g, off + j, none⟩ = some u)
section
variable {w w' : World} {v : Value} {xs : List Value} {F : Nat → Prop}
theorem Sl.nil (w : World) : Sl w (.slice none 0 0) [] := .inl ⟨rfl, _, _, rfl⟩
theorem Sl.keep (h : Sl w v xs) (hs : w.heap.size ≤ w'.heap.size) (hk : xs ≠ [] → ∀ p : Addr, some p.block = v.ownBlock → p.block < w.heap.size → w'.cell? p = w.cell? p) : Sl w' v xs := by
  rcases h with h | ⟨hne, g, off, cap, rfl, hl, hg, hc⟩
  · exact .inl h
  · exact .inr ⟨hne, g, off, cap, rfl, hl, by omega, fun j u hu => (hk hne ⟨g, off + j, none⟩ rfl hg).trans (hc j u hu)⟩
theorem Sl.kp (h : Sl w v xs) (hk : Kp F w w') (hF : xs ≠ [] → ∀ g, v.ownBlock = some g → g < w.heap.size → F g) : Sl w' v xs :=
  h.keep hk.size fun hne _ hp hl => hk.cell (hF hne _ hp.symm hl) hl
theorem Sl.low (h : Sl w v xs) (hk : Kp (· < w.heap.size) w w') : Sl w' v xs := h.kp hk fun _ _ _ hl => hl
theorem Sl.all (h : Sl w v xs) (hk : Kp (fun _ => True) w w') : Sl w' v xs := h.kp hk fun _ _ _ _ => trivial
theorem Sl.drewN (h : Sl w v xs) (n : Nat) : Sl (w.drewN n) v xs := h
theorem Sl.lt (h : Sl w v xs) (hne : xs ≠ []) {g : Nat} (hg : v.ownBlock = some g) : g < w.heap.size := by
  rcases h with ⟨h0, _⟩ | ⟨_, g', off, cap, rfl, _, h, _⟩
  · exact absurd h0 hne
  · simp [Value.ownBlock] at hg; omega
theorem Sl.alloc (h : Sl w v xs) (o : Obj) : Sl (w.alloc o) v xs := h.keep (by simp) fun _ _ _ hl => World.cell?_alloc_lt w o _ hl
theorem Sl.far (h : Sl w v xs) {p : Addr} (hp : v.ownBlock ≠ some p.block) (u : Value) : Sl (w.setCell p u) v xs :=
  h.keep (by simp [World.setCell]) fun _ q hq _ => World.cell?_setCell_other w p q u (fun e => by subst e; exact hp hq.symm)
theorem Sl.of_own {base : Nat} {e : TypeId} {n : Nat} (h : w.ownsRow base e 1 v n xs) : Sl w v xs := by
  obtain ⟨hl, h2⟩ := h
  rcases h2 with ⟨rfl, rfl⟩ | ⟨g, cap, cur, rfl, hb, hg, hn, hm, hcs, ht⟩
  · exact .inl ⟨List.eq_nil_of_length_eq_zero (by simpa using hl), _, _, rfl⟩
  · have hl' : n = xs.length := by omega
    subst hl'
    by_cases hne : xs = []
    · subst hne
      exact .inl ⟨rfl, _, _, rfl⟩
    · refine .inr ⟨hne, g, 0, cap, rfl, hn, lt_of_block hg, fun j u hu => ?_⟩
      rw [cell_of_row w g _ cur e (0, 0) hg, Nat.zero_add]
      rw [← ht, List.getElem?_take] at hu
      split at hu
      · simpa using hu
      · cases hu
/-- The value of a slice that reads as xs: its length is theirs. -/
theorem Sl.form (h : Sl w v xs) : ∃ A cap, v = .slice A xs.length cap := by
  rcases h with ⟨rfl, A, cap, rfl⟩ | ⟨_, g, off, cap, rfl, _⟩
  · exact ⟨A, cap, rfl⟩
  · exact ⟨_, cap, rfl⟩
/-- A cell of it. -/
theorem Sl.at_ {A : Option Addr} {n cap k : Nat} {u : Value} (h : Sl w (.slice A n cap) xs) (hu : xs[k]? = some u) : ∃ g off, A = some ⟨g, off, none⟩ ∧ g < w.heap.size ∧ w.cell? ⟨g, off + k, none⟩ = some u := by
  rcases h with ⟨h0, _⟩ | ⟨_, g, off, c, he, _, hg, hc⟩
  · subst h0; simp at hu
  · injection he with he
    exact ⟨g, off, he, hg, hc k u hu⟩
end

theorem Sl.le_cap {w : World} {A : Option Addr} {n cap : Nat} {xs : List Value} (h : Sl w (.slice A n cap) xs) (hne : xs ≠ []) : n ≤ cap := by
  rcases h with ⟨h0, _⟩ | ⟨_, g, off, c, he, h1, _⟩
  · exact absurd h0 hne
  · injection he with h3 h4 h5; subst h4 h5; exact h1
/-- A part of it. -/
theorem Sl.cut {w : World} {g off n cap : Nat} {xs : List Value} (h : Sl w (.slice (some ⟨g, off, none⟩) n cap) xs) (lo m c : Nat) (hm : lo + m ≤ xs.length) (hc : m ≤ c) :
    Sl w (.slice (some ⟨g, off + lo, none⟩) m c) ((xs.drop lo).take m) := by
  by_cases h0 : m = 0
  · subst h0
    exact .inl ⟨by simp, _, _, rfl⟩
  · have hlen : ((xs.drop lo).take m).length = m := by rw [List.length_take, List.length_drop]; omega
    have hg : g < w.heap.size := by
      obtain ⟨g', off', he, hg, _⟩ := h.at_ (List.getElem?_eq_getElem (show lo < xs.length by omega))
      simp only [Option.some.injEq, Addr.mk.injEq, and_true] at he
      obtain ⟨rfl, rfl⟩ := he
      exact hg
    refine .inr ⟨fun e => by rw [e] at hlen; exact h0 hlen.symm, g, off + lo, c, by rw [hlen], by rw [hlen]; exact hc, hg, fun j u hu => ?_⟩
    rw [List.getElem?_take] at hu
    split at hu
    · rw [List.getElem?_drop] at hu
      obtain ⟨g', off', he, _, hcell⟩ := h.at_ hu
      simp only [Option.some.injEq, Addr.mk.injEq, and_true] at he
      obtain ⟨rfl, rfl⟩ := he
      rw [Nat.add_assoc]
      exact hcell
    · cases hu
theorem ret_int {k : IntKind} {a b : Int} (h : a = b) : Ending.returned (.int k a) = .returned (.int k b) := by rw [h]
theorem ret_bool {a b : Bool} (h : a = b) : Ending.returned (.bool a) = .returned (.bool b) := by rw [h]
/-- A fact under a name that the walk does not look behind. -/
def Hd (p : Prop) : Prop := p
theorem Hd.out {p : Prop} (h : Hd p) : p := h
theorem hd {p : Prop} (h : p) : Hd p := h
/-- Bytes as values. -/
def bv (bs : List Nat) : List Value := bs.map fun (n : Nat) => Value.int .u8 (n : Int)
theorem bv_length (bs : List Nat) : (bv bs).length = bs.length := by simp [bv]
theorem bv_append (a b : List Nat) : bv (a ++ b) = bv a ++ bv b := by simp [bv]
theorem bv_get (bs : List Nat) (j : Nat) (h : j < bs.length) : (bv bs)[j]? = some (.int .u8 (bs[j] : Nat)) := by simp [bv, h]
theorem bv_cut (bs : List Nat) (lo m : Nat) : (((bs.map fun (n : Nat) => Value.int .u8 (n : Int)).drop lo).take m) = ((bs.drop lo).take m).map fun (n : Nat) => Value.int .u8 (n : Int) := by simp [List.map_take, List.map_drop]
theorem bv_getD (bs : List Nat) (j : Nat) (h : j < bs.length) : (bv bs)[j]? = some (.int .u8 (bs.getD j 0 : Nat)) := by simp [bv, h]
def Bts (bs : List Nat) : Prop := ∀ b ∈ bs, b < 256
theorem Bts.nil : Bts [] := fun _ h => by cases h
theorem Bts.getD {bs : List Nat} (h : Bts bs) (j : Nat) : bs.getD j 0 < 256 := by
  by_cases hj : j < bs.length
  · simp [hj]; exact h _ (List.getElem_mem hj)
  · simp [Nat.not_lt.1 hj]
theorem Bts.append {a b : List Nat} (ha : Bts a) (hb : Bts b) : Bts (a ++ b) := fun x hx => by
  rcases List.mem_append.1 hx with h | h
  · exact ha x h
  · exact hb x h
theorem Bts.single {n : Nat} (h : n < 256) : Bts [n] := fun x hx => by simp at hx; omega
theorem Bts.take {a : List Nat} (h : Bts a) (n : Nat) : Bts (a.take n) := fun x hx => h x (List.mem_of_mem_take hx)
theorem Bts.drop {a : List Nat} (h : Bts a) (n : Nat) : Bts (a.drop n) := fun x hx => h x (List.mem_of_mem_drop hx)
theorem bv_oneCell (bs : List Nat) : ∀ u ∈ bv bs, u.oneCell' = true := by
  intro u hu
  simp only [bv, List.mem_map] at hu
  obtain ⟨n, _, rfl⟩ := hu
  rfl

theorem own_kp {w w' : World} {base : Nat} {e : TypeId} {size : Nat} {v : Value} {n : Nat} {xs : List Value} {F : Nat → Prop} (h : w.ownsRow base e size v n xs) (hk : Kp F w w') (hF : ∀ g, base ≤ g → v.ownBlock = some g → F g) : w'.ownsRow base e size v n xs := by
  have hlt := h.lt
  refine ⟨h.1, ?_⟩
  rcases h.2 with hn | ⟨g, cap, cur, rfl, hb, hgg, rest⟩
  · exact .inl hn
  · refine .inr ⟨g, cap, cur, rfl, hb, ?_, rest⟩
    rw [hk.block g (hF g hb rfl) (lt_of_block hgg)]
    exact hgg
/-- Behind an append on a row of the call's own: below its base all is kept. -/
theorem kp_own {w w' : World} {base : Nat} {e : TypeId} {size : Nat} {v : Value} {n : Nat} {xs : List Value} (h : w.ownsRow base e size v n xs) (hg : w.grownBy w' v.ownBlock) : Kp (· < base) w w' :=
  Kp.of_grown hg fun k hk _ e => by have := (h.lt k e.symm).1; omega
/-- 'append(s, x)', one element more on a row of the call's own; its cells were laid in a new block first: that block is passed over. -/
theorem wpList_app {P : Program} {w0 : World} {ops : Array Oper} {rest : List Oper} {o : Oper} {a : Act} {Q : Exit → Act → World → Prop} (hgd : o.guard = none) (s x : Operand) (t : TypeId)
    (ho : o.op = .call { callee := .builtin .append, args := #[s, x], argTypes := #[t, t] })
    (base : Nat) (e : TypeId) (i : TypeInfo) (z : Value) (size bytes : Nat) (ht : P.underlying t = some (.slice e)) (hi : P.info? e = some i) (hz : i.zero = some z)
    (hsize : i.size = size) (hby : i.bytes = bytes) (hzs : z.cells.size = size) (hsz : 0 < size)
    (v : Value) (n : Nat) (xs : List Value) (hs : a.eval s = v) (hown : w0.ownsRow base e size v n xs)
    (news : List Value) (c : Nat) (hx : a.eval x = .slice (some ⟨w0.heap.size, 0, none⟩) 1 c) (hl : news.length = size) (h1 : ∀ u ∈ news, u.oneCell' = true)
    (hbytes : (n + 1) * bytes ≤ 140737488355328) (hb1 : 0 < bytes) (hbase : base ≤ w0.heap.size)
    (h : ∀ (g c' : Nat) (w' : World), w'.ownsRow base e size (.slice (some ⟨g, 0, none⟩) (n + 1) c') (n + 1) (xs ++ news) → w0.grownBy w' v.ownBlock → (v.ownBlock = some g ∨ w0.heap.size ≤ g) →
      wpList P ops Q rest (a.put o.dst (.slice (some ⟨g, 0, none⟩) (n + 1) c')) w') :
    wpList P ops Q (o :: rest) a (w0.alloc (.cells news.toArray e)) := by
  have hmax : n + 1 ≤ maxLen := by unfold maxLen; have := Nat.le_trans (Nat.le_mul_of_pos_right (n + 1) hb1) hbytes; omega
  have hcells : ∀ j u, news[j]? = some u → (w0.alloc (.cells news.toArray e)).cell? ((⟨w0.heap.size, 0, none⟩ : Addr).add j) = some u := by
    intro j u hu
    have hadd : (⟨w0.heap.size, 0, none⟩ : Addr).add j = ⟨w0.heap.size, j, none⟩ := by unfold Addr.add; split <;> simp_all
    rw [hadd, cell_of_row _ _ _ _ _ _ (heap_alloc_new w0 _)]
    simpa using hu
  refine wpList_plain hgd fun K hK => ?_
  obtain ⟨v', w', hr, ho', hg, _, hv'⟩ := run_append_own_at (P := P) (w0.alloc (.cells news.toArray e)) base t o.type e i z size bytes ht hi hz hsize hby hzs hsz v n xs (hown.alloc _) ⟨w0.heap.size, 0, none⟩ 1 c news (by omega) hcells h1 hmax hbytes (by simp; omega)
  obtain ⟨g, c', rfl, _, _⟩ := ho'.form (by omega)
  unfold Oper.wp execOp
  simp only [ho, resolve, invoke, builtin, Sem.run_bind, Sem.run_pure, Result.andThen_ok, List.map_toArray, List.map_cons, List.map_nil, hs, hx, hr]
  refine hK _ _ (h g c' w' ho' ⟨hg.os, hg.tape, hg.output, Nat.le_trans (by simp) hg.size, fun k hk hne => (hg.block k (by simp; omega) hne).trans (Below.heap_alloc w0 _ k hk)⟩ ?_)
  rcases hv' with hv' | hv'
  · exact .inl hv'.symm
  · right
    have hq : g = w0.heap.size + 1 := by simpa [Value.ownBlock] using hv'
    omega

theorem run_append_of_nil {P : Program} (w : World) (base : Nat) (t ty e : TypeId) (i : TypeInfo) (size : Nat) (ht : P.underlying t = some (.slice e)) (hi : P.info? e = some i)
    (v : Value) (n : Nat) (xs : List Value) (hown : w.ownsRow base e size v n xs) (c : Nat) : (Builtin.append_ #[t, t] ty #[v, .slice none 0 c]).run P w = .ok v w := by
  rcases hown.2 with ⟨rfl, rfl⟩ | ⟨g, cap, cur, rfl, _, _, hnc, _⟩
  · simp [Builtin.append_, run_underlying ht, sizeOf, typeInfo, hi, Builtin.lenOf, Builtin.firstCells]
  · simp [Builtin.append_, run_underlying ht, sizeOf, typeInfo, hi, Builtin.lenOf, Builtin.firstCells, hnc, storeCells]

/-- 'append(s, x...)' on a row of the call's own, elements of one cell: x nil, empty or not. -/
theorem wpList_apps {P : Program} {w : World} {ops : Array Oper} {rest : List Oper} {o : Oper} {a : Act} {Q : Exit → Act → World → Prop} (hgd : o.guard = none) (s x : Operand) (t : TypeId)
    (ho : o.op = .call { callee := .builtin .append, args := #[s, x], argTypes := #[t, t] })
    (base : Nat) (e : TypeId) (i : TypeInfo) (z : Value) (bytes : Nat) (ht : P.underlying t = some (.slice e)) (hi : P.info? e = some i) (hz : i.zero = some z)
    (hsize : i.size = 1) (hby : i.bytes = bytes) (hzs : z.cells.size = 1)
    (v : Value) (n : Nat) (xs : List Value) (hs : a.eval s = v) (hown : w.ownsRow base e 1 v n xs)
    (u : Value) (news : List Value) (hx : a.eval x = u) (hu : Sl w u news) (h1 : ∀ u ∈ news, u.oneCell' = true)
    (hbytes : (n + news.length) * bytes ≤ 140737488355328) (hb1 : 0 < bytes) (hbase : base ≤ w.heap.size)
    (h : ∀ (v' : Value) (w' : World), w'.ownsRow base e 1 v' (n + news.length) (xs ++ news) → w.grownBy w' v.ownBlock → (v'.ownBlock = v.ownBlock ∨ v'.ownBlock = some w.heap.size) →
      wpList P ops Q rest (a.put o.dst v') w') :
    wpList P ops Q (o :: rest) a w := by
  have hmax : n + news.length ≤ maxLen := by unfold maxLen; have := Nat.le_trans (Nat.le_mul_of_pos_right (n + news.length) hb1) hbytes; omega
  refine wpList_plain hgd fun K hK => ?_
  rcases hu with ⟨rfl, A, cap, rfl⟩ | ⟨_, g, off, cap, rfl, hl, hg, hc⟩
  · cases A with
    | none =>
      have hr := run_append_of_nil w base t o.type e i 1 ht hi v n xs hown cap
      unfold Oper.wp execOp
      simp only [ho, resolve, invoke, builtin, Sem.run_bind, Sem.run_pure, Result.andThen_ok, List.map_toArray, List.map_cons, List.map_nil, hs, hx, hr]
      exact hK _ _ (h v w (by simpa using hown) ⟨rfl, rfl, rfl, Nat.le_refl _, fun _ _ _ => rfl⟩ (.inl rfl))
    | some ad =>
      obtain ⟨v', w', hr, ho', hgr, _, hv'⟩ := run_append_own_at (P := P) w base t o.type e i z 1 bytes ht hi hz hsize hby hzs (by decide) v n xs hown ad 0 cap [] (by simp) (by simp) h1 hmax hbytes hbase
      unfold Oper.wp execOp
      simp only [ho, resolve, invoke, builtin, Sem.run_bind, Sem.run_pure, Result.andThen_ok, List.map_toArray, List.map_cons, List.map_nil, hs, hx, hr]
      exact hK _ _ (h v' w' ho' hgr hv')
  · have hcells : ∀ j u, news[j]? = some u → w.cell? ((⟨g, off, none⟩ : Addr).add j) = some u := by
      intro j u hu
      rw [Addr.add_lit]
      exact hc j u hu
    obtain ⟨v', w', hr, ho', hgr, _, hv'⟩ := run_append_own_at (P := P) w base t o.type e i z 1 bytes ht hi hz hsize hby hzs (by decide) v n xs hown ⟨g, off, none⟩ news.length cap news (by omega) hcells h1 hmax hbytes hbase
    unfold Oper.wp execOp
    simp only [ho, resolve, invoke, builtin, Sem.run_bind, Sem.run_pure, Result.andThen_ok, List.map_toArray, List.map_cons, List.map_nil, hs, hx, hr]
    exact hK _ _ (h v' w' ho' hgr hv')
end Go.Proofs.Ytoonnlphfanmhaa
