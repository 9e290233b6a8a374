/- The runner's memory stands for a real one: the relation and its steps. -/
import Derived.Test.YtgfcakdpfedokaaRun0
import Derived.Below
import Derived.Laws.CopyRow
namespace Go.Proofs.Ytgfcakdpfedokaa
namespace Rn
set_option linter.unusedVariables false

theorem N8.get_upd {β : Type} (d e : Dg) (f : β → β) (t : N8 β) : N8.get d (N8.upd e f t) = if d = e then f (N8.get d t) else N8.get d t := by
  cases t; cases d <;> cases e <;> rfl
theorem N8.get_all {β : Type} (d : Dg) (x : β) : N8.get d (N8.all x) = x := by cases d <;> rfl
theorem dg_inj {a b : Nat} (h : dg a = dg b) : a % 8 = b % 8 := by
  have ha : a % 8 < 8 := Nat.mod_lt _ (by omega)
  have hb : b % 8 < 8 := Nat.mod_lt _ (by omega)
  unfold dg at h
  generalize a % 8 = x at *
  generalize b % 8 = y at *
  have hx : x = 0 ∨ x = 1 ∨ x = 2 ∨ x = 3 ∨ x = 4 ∨ x = 5 ∨ x = 6 ∨ x = 7 := by omega
  have hy : y = 0 ∨ y = 1 ∨ y = 2 ∨ y = 3 ∨ y = 4 ∨ y = 5 ∨ y = 6 ∨ y = 7 := by omega
  rcases hx with rfl | rfl | rfl | rfl | rfl | rfl | rfl | rfl <;> rcases hy with rfl | rfl | rfl | rfl | rfl | rfl | rfl | rfl <;> first | rfl | (exact absurd h (by decide))
theorem T.get_nil {α : Type} (n : Nat) : T.get (T.nil : T α) n = none := by
  simp only [T.get, T.nil, N8.get_all]
theorem H.get_nil {α : Type} (n : Nat) : H.get (H.nil : H α) n = none := by
  simp only [H.get, H.nil, N8.get_all, T.get_nil]
theorem T.get_set {α : Type} (t : T α) (n m : Nat) (v : Option α) (hn : n < 512) (hm : m < 512) :
    T.get (T.set t n v) m = if m = n then v else T.get t m := by
  simp only [T.get, T.set, N8.get_upd]
  by_cases h : m = n
  · subst h; simp only [if_true, N8.get_upd]
  · rw [if_neg h]
    by_cases h1 : dg (m / 64) = dg (n / 64)
    · rw [if_pos h1, N8.get_upd]
      by_cases h2 : dg (m / 8) = dg (n / 8)
      · rw [if_pos h2, N8.get_upd]
        by_cases h3 : dg m = dg n
        · exact absurd (by have := dg_inj h1; have := dg_inj h2; have := dg_inj h3; omega) h
        · rw [if_neg h3]
      · rw [if_neg h2]
    · rw [if_neg h1]
theorem H.get_set {α : Type} (t : H α) (n m : Nat) (v : Option α) (hn : n < 32768) (hm : m < 32768) :
    H.get (H.set t n v) m = if m = n then v else H.get t m := by
  simp only [H.get, H.set, N8.get_upd]
  by_cases h : m = n
  · subst h
    simp only [if_true, N8.get_upd]
    simp only [T.get, T.set, N8.get_upd, if_true]
  · rw [if_neg h]
    by_cases h1 : dg (m / 4096) = dg (n / 4096)
    · rw [if_pos h1, N8.get_upd]
      by_cases h2 : dg (m / 512) = dg (n / 512)
      · rw [if_pos h2]
        generalize N8.get (dg (m / 512)) (N8.get (dg (m / 4096)) t) = u
        simp only [T.get, T.set, N8.get_upd]
        by_cases h3 : dg (m / 64) = dg (n / 64)
        · rw [if_pos h3, N8.get_upd]
          by_cases h4 : dg (m / 8) = dg (n / 8)
          · rw [if_pos h4, N8.get_upd]
            by_cases h5 : dg m = dg n
            · exact absurd (by have := dg_inj h1; have := dg_inj h2; have := dg_inj h3; have := dg_inj h4; have := dg_inj h5; omega) h
            · rw [if_neg h5]
          · rw [if_neg h4]
        · rw [if_neg h3]
      · rw [if_neg h2]
    · rw [if_neg h1]

theorem bit_test (n k : Nat) : Nat.testBit (bit n) k = decide (k = n) := by
  have : bit n = 2 ^ n := by unfold bit; show 1 <<< n = _; rw [Nat.shiftLeft_eq]; simp
  rw [this, Nat.testBit_two_pow]
  by_cases h : n = k <;> simp [h, eq_comm]
theorem lor_test (a b k : Nat) : Nat.testBit (Nat.lor a b) k = (Nat.testBit a k || Nat.testBit b k) := Nat.testBit_or a b k
theorem land_test (a b k : Nat) : Nat.testBit (Nat.land a b) k = (Nat.testBit a k && Nat.testBit b k) := Nat.testBit_and a b k

/-! Values -/
structure Loc where
  blk : Nat
  base : Nat
  ext : Nat
abbrev M := Nat → Option Loc

mutual
def CR (m : M) : AV → Value → Prop
  | .unk, _ => True
  | .b x, v => v = .bool x
  | .i k n, v => v = .int k n
  | .s x, v => v = .string x
  | .p0, v => v = .pointer none
  | .p id off, v => ∃ L, m id = some L ∧ v = .pointer (some ⟨L.blk, L.base + off, none⟩)
  | .sl0, v => v = .slice none 0 0
  | .sl id off len cap op, v => ∃ L, m id = some L ∧ v = .slice (some ⟨L.blk, L.base + off, none⟩) len (cap + (if op then L.ext else 0))
  | .se id off, v => ∃ L a c, m id = some L ∧ v = .slice (some a) 0 c ∧ a.block = L.blk ∧ a.spot = none ∧ (c = 0 ∨ (a.off = L.base + off ∧ c = L.ext))
  | .m0, v => v = .map none
  | .m id, v => ∃ L, m id = some L ∧ v = .map (some L.blk)
  | .f0, v => v = .nilFunc
  | .f fn a c, v => ∃ xs ys : List Value, v = .func fn xs.toArray ys.toArray ∧ CRL m a xs ∧ CRL m c ys
  | .c0, v => v = .nilIface
  | .c t x, v => ∃ y, v = .iface t y ∧ CR m x y
  | .agg l, v => ∃ xs : List Value, v = .agg xs.toArray ∧ CRL m l xs
  | .tup l, v => ∃ xs : List Value, v = .tuple xs.toArray ∧ CRL m l xs
  | .y id, v => ∃ L, m id = some L ∧ v = .func (.yield L.blk) #[] #[]
  | .dfs _, _ => False
def CRL (m : M) : List AV → List Value → Prop
  | [], ys => ys = []
  | x :: l, ys => ∃ y r, ys = y :: r ∧ CR m x y ∧ CRL m l r
end

def Sub (m m' : M) : Prop := ∀ id L, m id = some L → m' id = some L
theorem Sub.rfl {m : M} : Sub m m := fun _ _ h => h
theorem Sub.trans {a b c : M} (h : Sub a b) (k : Sub b c) : Sub a c := fun i L e => k i L (h i L e)

mutual
theorem CR.mono {m m' : M} (h : Sub m m') : ∀ (x : AV) (v : Value), CR m x v → CR m' x v
  | .unk, _, _ => by simp [CR]
  | .b _, _, e => by simpa [CR] using e
  | .i _ _, _, e => by simpa [CR] using e
  | .s _, _, e => by simpa [CR] using e
  | .p0, _, e => by simpa [CR] using e
  | .p id off, _, e => by
    simp only [CR] at e ⊢
    obtain ⟨L, h1, h2⟩ := e
    exact ⟨L, h _ _ h1, h2⟩
  | .sl0, _, e => by simpa [CR] using e
  | .sl id off len cap op, _, e => by
    simp only [CR] at e ⊢
    obtain ⟨L, h1, h2⟩ := e
    exact ⟨L, h _ _ h1, h2⟩
  | .se id off, _, e => by
    simp only [CR] at e ⊢
    obtain ⟨L, a, c, h1, h2⟩ := e
    exact ⟨L, a, c, h _ _ h1, h2⟩
  | .m0, _, e => by simpa [CR] using e
  | .m id, _, e => by
    simp only [CR] at e ⊢
    obtain ⟨L, h1, h2⟩ := e
    exact ⟨L, h _ _ h1, h2⟩
  | .f0, _, e => by simpa [CR] using e
  | .f fn a c, _, e => by
    simp only [CR] at e ⊢
    obtain ⟨xs, ys, h1, h2, h3⟩ := e
    exact ⟨xs, ys, h1, CRL.mono h a xs h2, CRL.mono h c ys h3⟩
  | .c0, _, e => by simpa [CR] using e
  | .c t x, _, e => by
    simp only [CR] at e ⊢
    obtain ⟨y, h1, h2⟩ := e
    exact ⟨y, h1, CR.mono h x y h2⟩
  | .agg l, _, e => by
    simp only [CR] at e ⊢
    obtain ⟨xs, h1, h2⟩ := e
    exact ⟨xs, h1, CRL.mono h l xs h2⟩
  | .tup l, _, e => by
    simp only [CR] at e ⊢
    obtain ⟨xs, h1, h2⟩ := e
    exact ⟨xs, h1, CRL.mono h l xs h2⟩
  | .y id, _, e => by
    simp only [CR] at e ⊢
    obtain ⟨L, h1, h2⟩ := e
    exact ⟨L, h _ _ h1, h2⟩
  | .dfs _, _, e => by simp [CR] at e
theorem CRL.mono {m m' : M} (h : Sub m m') : ∀ (x : List AV) (v : List Value), CRL m x v → CRL m' x v
  | [], _, e => by simpa [CRL] using e
  | x :: l, _, e => by
    simp only [CRL] at e ⊢
    obtain ⟨y, r, h1, h2, h3⟩ := e
    exact ⟨y, r, h1, CR.mono h x y h2, CRL.mono h l r h3⟩
end

theorem CRL.length {m : M} : ∀ {l : List AV} {xs : List Value}, CRL m l xs → xs.length = l.length
  | [], xs, h => by simp only [CRL] at h; subst h; rfl
  | x :: l, xs, h => by
    simp only [CRL] at h
    obtain ⟨y, r, rfl, _, h3⟩ := h
    simp [CRL.length h3]
theorem CRL.append {m : M} : ∀ {l : List AV} {xs : List Value} {l' : List AV} {ys : List Value}, CRL m l xs → CRL m l' ys → CRL m (l ++ l') (xs ++ ys)
  | [], xs, l', ys, h, k => by simp only [CRL] at h; subst h; exact k
  | x :: l, xs, l', ys, h, k => by
    simp only [CRL] at h
    obtain ⟨y, r, rfl, h2, h3⟩ := h
    exact ⟨y, r ++ ys, rfl, h2, CRL.append h3 k⟩
theorem CRL.take {m : M} : ∀ {l : List AV} {xs : List Value} (n : Nat), CRL m l xs → CRL m (l.take n) (xs.take n)
  | [], xs, n, h => by simp only [CRL] at h; subst h; simp [CRL]
  | x :: l, xs, 0, h => by simp [CRL]
  | x :: l, xs, n + 1, h => by
    simp only [CRL] at h
    obtain ⟨y, r, rfl, h2, h3⟩ := h
    exact ⟨y, r.take n, rfl, h2, CRL.take n h3⟩
theorem CRL.drop {m : M} : ∀ {l : List AV} {xs : List Value} (n : Nat), CRL m l xs → CRL m (l.drop n) (xs.drop n)
  | [], xs, n, h => by simp only [CRL] at h; subst h; simp [CRL]
  | x :: l, xs, 0, h => by simpa using h
  | x :: l, xs, n + 1, h => by
    simp only [CRL] at h
    obtain ⟨y, r, rfl, h2, h3⟩ := h
    simpa using CRL.drop n h3
theorem CRL.get {m : M} : ∀ {l : List AV} {xs : List Value} {n : Nat} {x : AV}, CRL m l xs → l[n]? = some x → ∃ v, xs[n]? = some v ∧ CR m x v
  | [], xs, n, x, h, e => by simp at e
  | y :: l, xs, 0, x, h, e => by
    simp only [CRL] at h
    obtain ⟨v, r, rfl, h2, h3⟩ := h
    simp at e; subst e
    exact ⟨v, rfl, h2⟩
  | y :: l, xs, n + 1, x, h, e => by
    simp only [CRL] at h
    obtain ⟨v, r, rfl, h2, h3⟩ := h
    simpa using CRL.get h3 (by simpa using e)
theorem CRL.splice {m : M} {l vs : List AV} {xs ys : List Value} (off : Nat) (h : CRL m l xs) (k : CRL m vs ys) :
    CRL m (splice l off vs) (xs.take off ++ (ys ++ xs.drop (off + ys.length))) := by
  unfold Rn.splice
  rw [CRL.length k]
  exact (h.take off).append (k.append (h.drop _))
theorem CRL.window {m : M} {l r : List AV} {xs : List Value} {off n : Nat} (h : CRL m l xs) (e : window l off n = some r) :
    off + n ≤ l.length ∧ r.length = n ∧ CRL m r ((xs.drop off).take n) := by
  unfold Rn.window at e
  cases hb : Nat.ble (off + n) l.length with
  | false => simp [hb] at e
  | true =>
    simp only [hb, cond_true, Option.some.injEq] at e
    subst e
    have hle := Nat.le_of_ble_eq_true hb
    exact ⟨hle, by simp; omega, (h.drop off).take n⟩
theorem CR.flat {m : M} {x : AV} {v : Value} (h : CR m x v) (hf : x.flat = true) : v.oneCell' = true := by
  cases x <;> simp only [AV.flat, Bool.false_eq_true] at hf <;> simp only [CR] at h
  all_goals first
    | (subst h; rfl)
    | (obtain ⟨L, _, rfl⟩ := h; rfl)
    | (obtain ⟨L, a, c, _, rfl, _⟩ := h; rfl)
    | (obtain ⟨a, c, rfl, _⟩ := h; rfl)
    | (obtain ⟨a, rfl, _⟩ := h; rfl)
theorem CRL.flat {m : M} : ∀ {l : List AV} {xs : List Value}, CRL m l xs → l.all AV.flat = true → ∀ v ∈ xs, v.oneCell' = true
  | [], xs, h, _ => by simp only [CRL] at h; subst h; simp
  | x :: l, xs, h, hf => by
    simp only [CRL] at h
    obtain ⟨y, r, rfl, h2, h3⟩ := h
    simp only [List.all_cons, Bool.and_eq_true] at hf
    intro v hv
    rcases List.mem_cons.1 hv with rfl | hv
    · exact CR.flat h2 hf.1
    · exact CRL.flat h3 hf.2 v hv
theorem CR.cells {m : M} {x : AV} {v : Value} (h : CR m x v) (hf : x.cells.all AV.flat = true) : CRL m x.cells v.cells.toList ∧ v.cells.toList.all (·.oneCell') = true := by
  have key : ∀ l, x.cells = l → l.all AV.flat = true → CRL m l v.cells.toList → CRL m x.cells v.cells.toList ∧ v.cells.toList.all (·.oneCell') = true := by
    intro l e hl hc
    subst e
    exact ⟨hc, List.all_eq_true.2 (CRL.flat hc hl)⟩
  cases x
  case agg l =>
    simp only [CR] at h
    obtain ⟨xs, rfl, h⟩ := h
    exact key l rfl hf (by simpa [Value.cells] using h)
  case unk => simp [AV.cells, AV.flat] at hf
  case tup l => simp [AV.cells, AV.flat] at hf
  case dfs l => simp [AV.cells, AV.flat] at hf
  all_goals
    refine key _ rfl hf ?_
    have h1 := CR.flat h (by rfl)
    cases v <;> first | (simp [Value.oneCell'] at h1; done) | exact ⟨_, _, rfl, h, rfl⟩

theorem CR.boxed {m : M} {x : AV} {u : Value} (hx : CR m x u) (hb : boxable x = true) : CRL m x.cells u.cells.toList := by
  unfold boxable at hb
  split at hb
  · simp only [CR] at hx
    obtain ⟨xs, rfl, hc⟩ := hx
    simpa [AV.cells, Value.cells] using hc
  · rename_i hna
    have hcell : x.cells = [x] := by cases x <;> first | rfl | exact absurd rfl (hna _)
    have h1 := CR.flat hx hb
    rw [hcell]
    cases u <;> first | (simp [Value.oneCell'] at h1; done) | exact ⟨_, _, rfl, hx, rfl⟩
theorem ofFlat_CR {m : M} {v : Value} {x : AV} (h : ofFlat v = some x) : CR m x v := by
  unfold ofFlat at h
  split at h <;> first
    | (injection h with h; subst h; simp [CR]; done)
    | (simp at h; done)
    | skip
  rename_i fn first cap
  cases hb : (first.size == 0 && cap.size == 0) with
  | false => simp [hb] at h
  | true =>
    simp only [hb, cond_true, Option.some.injEq] at h
    subst h
    simp only [Bool.and_eq_true, beq_iff_eq, Array.size_eq_zero_iff] at hb
    obtain ⟨rfl, rfl⟩ := hb
    simp [CR, CRL]
theorem ofFlats_CRL {m : M} : ∀ {l : List Value} {xs : List AV}, ofFlats l = some xs → CRL m xs l
  | [], xs, h => by simp only [ofFlats, Option.some.injEq] at h; subst h; simp [CRL]
  | v :: l, xs, h => by
    simp only [ofFlats] at h
    split at h
    · simp at h
    · rename_i x hx
      split at h
      · simp at h
      · rename_i ys hy
        simp only [Option.some.injEq] at h
        subst h
        exact ⟨v, l, rfl, ofFlat_CR hx, ofFlats_CRL hy⟩
theorem ofValue_CR {m : M} {v : Value} {x : AV} (h : ofValue v = some x) : CR m x v := by
  unfold ofValue at h
  split at h
  · rename_i a
    cases hf : ofFlats a.toList with
    | none => simp [hf] at h
    | some l =>
      simp only [hf, Option.map_some, Option.some.injEq] at h
      subst h
      exact ⟨a.toList, by simp, ofFlats_CRL hf⟩
  · rename_i a
    cases hf : ofFlats a.toList with
    | none => simp [hf] at h
    | some l =>
      simp only [hf, Option.map_some, Option.some.injEq] at h
      subst h
      exact ⟨a.toList, by simp, ofFlats_CRL hf⟩
  · exact ofFlat_CR h

/-! Memory -/
def EntR (m : M) : List (AV × AV × Nat) → List MapEntry → Prop
  | [], ys => ys = []
  | e :: l, ys => ∃ (k v : Value) (r : List MapEntry), ys = ⟨k, v, e.2.2⟩ :: r ∧ CR m e.1 k ∧ CR m e.2.1 v ∧ EntR m l r
theorem EntR.mono {m m' : M} (h : Sub m m') : ∀ {l : List (AV × AV × Nat)} {ys : List MapEntry}, EntR m l ys → EntR m' l ys
  | [], _, e => e
  | x :: l, _, ⟨k, v, r, h1, h2, h3, h4⟩ => ⟨k, v, r, h1, h2.mono h, h3.mono h, EntR.mono h h4⟩
def TmV (m : M) (nt : Nat) (tm : T AV) (tmps : Array Value) : Prop := (∀ t v, t < 511 → T.get tm t = some v → ∃ u, tmps[t]? = some u ∧ CR m v u) ∧ tmps.size = nt
theorem TmV.mono {m m' : M} (h : Sub m m') {nt : Nat} {tm : T AV} {tmps : Array Value} (k : TmV m nt tm tmps) : TmV m' nt tm tmps :=
  ⟨fun t v ht hv => let ⟨u, h1, h2⟩ := k.1 t v ht hv; ⟨u, h1, h2.mono h⟩, k.2⟩
def stOf : Nat → LoopState
  | 0 => .ready
  | 1 => .busy
  | 2 => .done
  | _ => .exhausted
def Jmp.code : Jmp → Code
  | .ret => .ret
  | .exit id => .exit id
def OR (m : M) (w : World) (L : Loc) : AObj → Prop
  | .cells l sz => ∃ (pre xs post : List Value) (e : TypeId), w.heap[L.blk]? = some (.cells (pre ++ (xs ++ post)).toArray e (0, 0)) ∧ pre.length = L.base ∧ CRL m l xs ∧ L.ext * sz ≤ post.length
  | .mp es clock => ∃ res : List MapEntry, w.heap[L.blk]? = some (.map res.toArray clock) ∧ EntR m es res
  | .lp st j tm nt ps a b => ∃ r : Loop, w.heap[L.blk]? = some (.loop r) ∧ r.state = stOf st ∧ r.pending = j.map Jmp.code ∧ TmV m nt tm r.tmps ∧ r.params.toList = ps ∧ r.assign = a ∧ r.body = b
  | .df tk => w.heap[L.blk]? = some (.deferred (if tk then none else some []))

structure Rel (F : Nat → Prop) (m : M) (h : H AObj) (w : World) : Prop where
  obj : ∀ id o, id < 32768 → F id → H.get h id = some o → ∃ L, m id = some L ∧ OR m w L o
  apart : ∀ id id' o o' L L', id < 32768 → id' < 32768 → F id → F id' → H.get h id = some o → H.get h id' = some o' → m id = some L → m id' = some L' → id ≠ id' → L.blk ≠ L'.blk

/-- one state of the runner follows from another -/
structure Ab (S S' : St) : Prop where
  rd : ∀ k, S.rd.testBit k = true → S'.rd.testBit k = true
  wr : ∀ k, S.wr.testBit k = true → S'.wr.testBit k = true
  nx : S.nx ≤ S'.nx
  top : S.nx < 32768 → S'.nx < 32768
  same : ∀ k, k < 32768 → S'.wr.testBit k = false → H.get S'.h k = H.get S.h k
  new : ∀ k, S.nx ≤ k → k < S'.nx → S'.wr.testBit k = true
  live : ∀ k, S'.wr.testBit k = true → S.wr.testBit k = true ∨ (S.nx ≤ k ∧ k < S'.nx) ∨ (k < 32768 ∧ (H.get S.h k).isSome = true)
theorem Ab.rfl {S : St} : Ab S S := ⟨fun _ h => h, fun _ h => h, Nat.le_refl _, fun h => h, fun _ _ _ => Eq.refl _, fun _ _ _ => by omega, fun _ h => .inl h⟩
theorem Ab.trans {a b c : St} (h : Ab a b) (k : Ab b c) : Ab a c :=
  ⟨fun i e => k.rd i (h.rd i e), fun i e => k.wr i (h.wr i e), Nat.le_trans h.nx k.nx, fun e => k.top (h.top e),
   fun i hi e => (k.same i hi e).trans (h.same i hi (by
     cases hb : b.wr.testBit i with
     | false => exact Eq.refl _
     | true => exact absurd (k.wr i hb) (by rw [e]; exact Bool.false_ne_true))),
   fun i h1 h2 => (by
     by_cases hb : i < b.nx
     · exact k.wr i (h.new i h1 hb)
     · exact k.new i (by omega) h2),
   fun i e => (by
     have key : b.wr.testBit i = true → a.wr.testBit i = true ∨ (a.nx ≤ i ∧ i < c.nx) ∨ (i < 32768 ∧ (H.get a.h i).isSome = true) := fun h1 => by
       rcases h.live i h1 with h2 | h2 | h2
       · exact .inl h2
       · exact .inr (.inl ⟨h2.1, Nat.lt_of_lt_of_le h2.2 k.nx⟩)
       · exact .inr (.inr h2)
     rcases k.live i e with h1 | h1 | h1
     · exact key h1
     · exact .inr (.inl ⟨Nat.le_trans h.nx h1.1, h1.2⟩)
     · cases hb : b.wr.testBit i with
       | false => rw [h.same i h1.1 hb] at h1; exact .inr (.inr h1)
       | true => exact key hb)⟩

def Fits (F G : Nat → Prop) (S : St) : Prop := (∀ k, S.rd.testBit k = true → F k) ∧ (∀ k, S.wr.testBit k = true → F k ∧ G k)
theorem Fits.back {F G : Nat → Prop} {S S' : St} (h : Fits F G S') (k : Ab S S') : Fits F G S :=
  ⟨fun i e => h.1 i (k.rd i e), fun i e => h.2 i (k.wr i e)⟩
def Free (m : M) (S S' : St) : Prop := ∀ k, S.nx ≤ k → k < S'.nx → m k = none

/-- what a step of the runner means for the real memory: F touched, G written -/
structure Ev (F G : Nat → Prop) (m m' : M) (S S' : St) (w w' : World) : Prop where
  old : ∀ k, k < S.nx ∨ S'.nx ≤ k → m' k = m k
  sub : Sub m m'
  rel : Rel F m' S'.h w'
  size : w.heap.size ≤ w'.heap.size
  keep : ∀ b, b < w.heap.size → (∀ k L, G k → m k = some L → L.blk ≠ b) → w'.heap[b]? = w.heap[b]?
  fresh : ∀ k L, S.nx ≤ k → k < S'.nx → m' k = some L → w.heap.size ≤ L.blk ∨ ∃ k0 L0, G k0 ∧ m k0 = some L0 ∧ L.blk = L0.blk
  os : w'.os = w.os
  tape : w'.tape = w.tape
  output : w'.output = w.output

theorem Ev.rfl {F G : Nat → Prop} {m : M} {S : St} {w : World} (h : Rel F m S.h w) : Ev F G m m S S w w :=
  ⟨fun _ _ => Eq.refl _, Sub.rfl, h, Nat.le_refl _, fun _ _ _ => Eq.refl _, fun _ _ h1 h2 => by omega, Eq.refl _, Eq.refl _, Eq.refl _⟩

theorem Ev.trans {F G : Nat → Prop} {m m1 m2 : M} {S S1 S2 : St} {w w1 w2 : World} (a : Ev F G m m1 S S1 w w1) (b : Ev F G m1 m2 S1 S2 w1 w2)
    (hn : S.nx ≤ S1.nx) (hn2 : S1.nx ≤ S2.nx) : Ev F G m m2 S S2 w w2 := by
  have key : ∀ k L, G k → m1 k = some L → w.heap.size ≤ L.blk ∨ ∃ k0 L0, G k0 ∧ m k0 = some L0 ∧ L.blk = L0.blk := by
    intro k L hk e
    by_cases hlt : k < S.nx ∨ S1.nx ≤ k
    · exact .inr ⟨k, L, hk, by rw [← a.old k hlt]; exact e, Eq.refl _⟩
    · exact a.fresh k L (by omega) (by omega) e
  refine ⟨fun k hk => ?_, a.sub.trans b.sub, b.rel, Nat.le_trans a.size b.size, fun i hi hG => ?_, fun k L h1 h2 e => ?_, b.os.trans a.os, b.tape.trans a.tape, b.output.trans a.output⟩
  · rw [b.old k (by omega), a.old k (by omega)]
  · rw [b.keep i (Nat.lt_of_lt_of_le hi a.size) ?_, a.keep i hi hG]
    intro k L hk e heq
    rcases key k L hk e with h | ⟨k0, L0, h1, h2, h3⟩
    · omega
    · exact hG k0 L0 h1 h2 (by omega)
  · by_cases hlt : k < S1.nx
    · refine a.fresh k L h1 hlt ?_
      rw [← b.old k (.inl hlt)]; exact e
    · rcases b.fresh k L (by omega) h2 e with h | ⟨k0, L0, h1', h2', h3'⟩
      · exact .inl (Nat.le_trans a.size h)
      · rcases key k0 L0 h1' h2' with h | ⟨k1, L1, a1, a2, a3⟩
        · exact .inl (by omega)
        · exact .inr ⟨k1, L1, a1, a2, by omega⟩

/-- the relation hangs on the marked blocks alone -/
theorem OR.congr {m m' : M} {w w' : World} {L : Loc} {o : AObj} (h : OR m w L o) (hs : Sub m m') (hb : w'.heap[L.blk]? = w.heap[L.blk]?) : OR m' w' L o := by
  cases o with
  | cells l sz =>
    obtain ⟨pre, xs, post, e, h1, h2, h3, h4⟩ := h
    exact ⟨pre, xs, post, e, by rw [hb]; exact h1, h2, CRL.mono hs _ _ h3, h4⟩
  | mp es clock =>
    obtain ⟨res, h1, h2⟩ := h
    exact ⟨res, by rw [hb]; exact h1, h2.mono hs⟩
  | lp st j tm nt ps a b =>
    obtain ⟨r, h1, h2, h3, h4, h5⟩ := h
    exact ⟨r, by rw [hb]; exact h1, h2, h3, h4.mono hs, h5⟩
  | df tk => exact hb.trans h

theorem OR.lt {m : M} {w : World} {L : Loc} {o : AObj} (h : OR m w L o) : L.blk < w.heap.size := by
  cases o with
  | cells l sz =>
    obtain ⟨pre, xs, post, e, h1, _⟩ := h
    exact (Array.getElem?_eq_some_iff.1 h1).1
  | mp es clock =>
    obtain ⟨res, h1, _⟩ := h
    exact (Array.getElem?_eq_some_iff.1 h1).1
  | lp st j tm nt ps a b =>
    obtain ⟨r, h1, _⟩ := h
    exact (Array.getElem?_eq_some_iff.1 h1).1
  | df tk => exact (Array.getElem?_eq_some_iff.1 h).1

/-! The runner's three steps -/
theorem look_ab {S S' : St} {id : Nat} {o : AObj} (h : S.look id = some (o, S')) : Ab S S' ∧ S'.h = S.h ∧ S'.nx = S.nx ∧ H.get S.h id = some o ∧ S'.rd.testBit id = true ∧ S'.wr = S.wr ∧ id < 32768 := by
  unfold St.look at h
  split at h
  · simp at h
  · rename_i o' ho
    cases hb : Nat.beq (Nat.lor S.rd (bit id)) 0 with
    | true => rw [hb] at h; cases h
    | false =>
      cases hc : Nat.ble 32768 id with
      | true => rw [hb, hc] at h; cases h
      | false =>
      simp only [hb, hc, cond_false, Option.some.injEq, Prod.mk.injEq] at h
      obtain ⟨rfl, rfl⟩ := h
      refine ⟨⟨fun k e => by rw [lor_test, e]; rfl, fun _ e => e, Nat.le_refl _, fun e => e, fun _ _ _ => Eq.refl _, fun _ h1 h2 => absurd h2 (Nat.not_lt.2 h1), fun _ h => .inl h⟩, Eq.refl _, Eq.refl _, ho, ?_, Eq.refl _, ?_⟩
      · rw [lor_test, bit_test]; simp
      · rcases Nat.lt_or_ge id 32768 with h | h
        · exact h
        · rw [Nat.ble_eq_true_of_le h] at hc; cases hc

theorem put_ab {S S' : St} {id : Nat} {o : Option AObj} (h : S.put id o = some S') (hid : id < 32768) (hlive : (H.get S.h id).isSome = true) :
    Ab S S' ∧ S'.h = H.set S.h id o ∧ S'.nx = S.nx ∧ S'.rd = S.rd ∧ S'.wr.testBit id = true := by
  unfold St.put at h
  cases hb : Nat.beq (Nat.lor S.wr (bit id)) 0 with
  | true => rw [hb] at h; cases h
  | false =>
    simp only [hb, cond_false, Option.some.injEq] at h
    subst h
    refine ⟨⟨fun k e => e, fun k e => by rw [lor_test, e]; rfl, Nat.le_refl _, fun e => e, fun k hk e => ?_, fun _ h1 h2 => absurd h2 (Nat.not_lt.2 h1), fun k e => ?_⟩, Eq.refl _, Eq.refl _, Eq.refl _, ?_⟩
    · rw [lor_test, bit_test] at e
      rw [H.get_set _ _ _ _ hid hk, if_neg (by rintro rfl; simp at e)]
    · rw [lor_test, bit_test] at e
      by_cases hk2 : k = id
      · subst hk2; exact .inr (.inr ⟨hid, hlive⟩)
      · rw [decide_eq_false hk2, Bool.or_false] at e; exact .inl e
    · rw [lor_test, bit_test]; simp

theorem new_ab {S S' : St} {id : Nat} {o : AObj} (h : S.new o = some (id, S')) :
    Ab S S' ∧ S'.h = H.set S.h id (some o) ∧ S'.nx = S.nx + 1 ∧ id = S.nx ∧ S'.rd = S.rd ∧ S'.wr.testBit id = true ∧ id < 32767 := by
  unfold St.new at h
  cases hb : Nat.beq (Nat.lor S.wr (bit S.nx)) 0 with
  | true => rw [hb] at h; cases h
  | false =>
    cases hc : Nat.ble 32767 S.nx with
    | true => rw [hb, hc] at h; cases h
    | false =>
      simp only [hb, hc, cond_false, Option.some.injEq, Prod.mk.injEq] at h
      obtain ⟨rfl, rfl⟩ := h
      have hlt : S.nx < 32767 := by
        rcases Nat.lt_or_ge S.nx 32767 with h | h
        · exact h
        · rw [Nat.ble_eq_true_of_le h] at hc; cases hc
      refine ⟨⟨fun k e => e, fun k e => by rw [lor_test, e]; rfl, by simp, fun e => by simp; omega, fun k hk e => ?_, fun k h1 h2 => ?_, fun k e => ?_⟩, Eq.refl _, Eq.refl _, Eq.refl _, Eq.refl _, ?_, hlt⟩
      · rw [lor_test, bit_test] at e
        rw [H.get_set _ _ _ _ (by omega) hk, if_neg (by rintro rfl; simp at e)]
      · have : k = S.nx := by simp at h2; omega
        subst this
        rw [lor_test, bit_test]; simp
      · rw [lor_test, bit_test] at e
        by_cases hk2 : k = S.nx
        · exact .inr (.inl (by simp; omega))
        · rw [decide_eq_false hk2, Bool.or_false] at e; exact .inl e
      · rw [lor_test, bit_test]; simp

/-- a block that is known may be looked at -/
theorem look_rel {F G : Nat → Prop} {m : M} {S S' : St} {w : World} {id : Nat} {l : List AV} {sz : Nat} (h : S.look id = some (.cells l sz, S')) (hf : Fits F G S') (hr : Rel F m S.h w) :
    Ev F G m m S S' w w ∧ id < 32768 ∧ H.get S'.h id = some (.cells l sz) ∧ ∃ L, m id = some L ∧ ∃ (pre xs post : List Value) (e : TypeId), w.heap[L.blk]? = some (.cells (pre ++ (xs ++ post)).toArray e (0, 0)) ∧ pre.length = L.base ∧ CRL m l xs ∧ L.ext * sz ≤ post.length := by
  obtain ⟨ab, h1, h2, h3, h4, _, hid⟩ := look_ab h
  refine ⟨⟨fun _ _ => rfl, Sub.rfl, by rw [h1]; exact hr, Nat.le_refl _, fun _ _ _ => rfl, fun _ _ a b => by omega, rfl, rfl, rfl⟩, hid, by rw [h1]; exact h3, ?_⟩
  exact hr.obj id _ hid (hf.1 id h4) h3

/-- a new block: real and of the runner -/
theorem new_rel {F G : Nat → Prop} {m : M} {S S' : St} {w : World} {id : Nat} {l : List AV} {sz : Nat} (h : S.new (.cells l sz) = some (id, S')) (hf : Fits F G S')
    (hfree : m id = none) (hr : Rel F m S.h w) {xs : List Value} (hc : CRL m l xs) (post : List Value) (ext : Nat) (hext : ext * sz ≤ post.length) (e : TypeId) :
    let m' : M := fun k => if k = id then some ⟨w.heap.size, 0, ext⟩ else m k
    Ev F G m m' S S' w (w.alloc (.cells (xs ++ post).toArray e (0, 0))) ∧ m' id = some ⟨w.heap.size, 0, ext⟩ := by
  intro m'
  obtain ⟨ab, h1, h2, rfl, h4, h5, h6⟩ := new_ab h
  have hsub : Sub m m' := fun k L hk => by
    show (if k = S.nx then _ else _) = _
    rw [if_neg (by rintro rfl; rw [hfree] at hk; cases hk)]; exact hk
  have hsz : (w.alloc (.cells (xs ++ post).toArray e (0, 0))).heap.size = w.heap.size + 1 := by show (w.heap.push _).size = _; simp
  have hold : ∀ b, b < w.heap.size → (w.alloc (.cells (xs ++ post).toArray e (0, 0))).heap[b]? = w.heap[b]? := fun b hb => Go.RowKit.Below.heap_alloc _ _ _ hb
  refine ⟨⟨fun k hk => ?_, hsub, ?_, by omega, fun b hb _ => hold b hb, fun k L a b hk => ?_, rfl, rfl, rfl⟩, if_pos rfl⟩
  · show (if k = S.nx then _ else _) = _
    rw [if_neg (by omega)]
  · rw [h1]
    refine ⟨fun k o hk hF hg => ?_, fun k k' o o' L L' hk hk' hF hF' hg hg' hm hm' hne => ?_⟩
    · rw [H.get_set _ _ _ _ (by omega) hk] at hg
      by_cases hkn : k = S.nx
      · rw [if_pos hkn] at hg
        injection hg with hg
        subst hg
        refine ⟨⟨w.heap.size, 0, ext⟩, if_pos hkn, [], xs, post, e, ?_, rfl, CRL.mono hsub _ _ hc, hext⟩
        show (w.heap.push _)[w.heap.size]? = _
        simp
      · rw [if_neg hkn] at hg
        obtain ⟨L, hL, hO⟩ := hr.obj k o hk hF hg
        exact ⟨L, hsub _ _ hL, hO.congr hsub (hold _ hO.lt)⟩
    · rw [H.get_set _ _ _ _ (by omega) hk] at hg
      rw [H.get_set _ _ _ _ (by omega) hk'] at hg'
      have hm1 : (if k = S.nx then some (⟨w.heap.size, 0, ext⟩ : Loc) else m k) = some L := hm
      have hm2 : (if k' = S.nx then some (⟨w.heap.size, 0, ext⟩ : Loc) else m k') = some L' := hm'
      by_cases hkn : k = S.nx
      · by_cases hkn' : k' = S.nx
        · omega
        · rw [if_pos hkn] at hm1
          rw [if_neg hkn'] at hm2 hg'
          injection hm1 with hm1
          subst hm1
          obtain ⟨L2, hL2, hO2⟩ := hr.obj k' o' hk' hF' hg'
          rw [hm2] at hL2
          injection hL2 with hL2
          subst hL2
          have := hO2.lt
          show w.heap.size ≠ _
          omega
      · by_cases hkn' : k' = S.nx
        · rw [if_pos hkn'] at hm2
          rw [if_neg hkn] at hm1 hg
          injection hm2 with hm2
          subst hm2
          obtain ⟨L2, hL2, hO2⟩ := hr.obj k o hk hF hg
          rw [hm1] at hL2
          injection hL2 with hL2
          subst hL2
          have := hO2.lt
          show _ ≠ w.heap.size
          omega
        · rw [if_neg hkn] at hm1 hg
          rw [if_neg hkn'] at hm2 hg'
          exact hr.apart k k' o o' L L' hk hk' hF hF' hg hg' hm1 hm2 hne
  · have hkn : k = S.nx := by omega
    have hm1 : (if k = S.nx then some (⟨w.heap.size, 0, ext⟩ : Loc) else m k) = some L := hk
    rw [if_pos hkn] at hm1
    injection hm1 with hm1
    subst hm1
    exact .inl (Nat.le_refl _)

/-- a block is written -/
theorem put_rel {F G : Nat → Prop} {m : M} {S S' : St} {w : World} {id : Nat} {l l' : List AV} {sz : Nat} (hid : id < 32768) (h : S.put id (some (.cells l' sz)) = some S') (hf : Fits F G S')
    (hg : H.get S.h id = some (.cells l sz)) (hr : Rel F m S.h w) {L : Loc} (hL : m id = some L)
    {pre xs xs' post : List Value} {e : TypeId} (hw : w.heap[L.blk]? = some (.cells (pre ++ (xs ++ post)).toArray e (0, 0))) (hp : pre.length = L.base) (hc : CRL m l' xs') (hext : L.ext * sz ≤ post.length) :
    Ev F G m m S S' w (w.setRow L.blk (pre ++ (xs' ++ post)).toArray) := by
  obtain ⟨ab, h1, h2, h3, h4⟩ := put_ab h hid (by rw [hg]; rfl)
  have hheap := setRow_heap w L.blk _ (pre ++ (xs' ++ post)).toArray e (0, 0) hw
  have hsz : (w.setRow L.blk (pre ++ (xs' ++ post)).toArray).heap.size = w.heap.size := by simp [World.setRow]
  have hold : ∀ b, b ≠ L.blk → (w.setRow L.blk (pre ++ (xs' ++ post)).toArray).heap[b]? = w.heap[b]? := by
    intro b hb
    simp only [World.setRow, Array.getElem?_modify]
    rw [if_neg (by omega)]
  have hGid := (hf.2 id h4)
  refine ⟨fun _ _ => rfl, Sub.rfl, ?_, by omega, fun b hb hG => hold b (fun e => hG id L hGid.2 hL e.symm), fun _ _ a b => by omega, rfl, rfl, rfl⟩
  rw [h1]
  refine ⟨fun k o hk hF hgk => ?_, fun k k' o o' K K' hk hk' hF hF' hgk hgk' hm hm' hne => ?_⟩
  · rw [H.get_set _ _ _ _ hid hk] at hgk
    by_cases hkn : k = id
    · rw [if_pos hkn] at hgk
      injection hgk with hgk
      subst hgk
      subst hkn
      exact ⟨L, hL, pre, xs', post, e, hheap, hp, hc, hext⟩
    · rw [if_neg hkn] at hgk
      obtain ⟨K, hK, hO⟩ := hr.obj k o hk hF hgk
      refine ⟨K, hK, hO.congr Sub.rfl (hold _ ?_)⟩
      exact hr.apart k id o _ K L hk hid hF hGid.1 hgk hg hK hL hkn
  · have g1 : ∃ o1, H.get S.h k = some o1 := by
      rw [H.get_set _ _ _ _ hid hk] at hgk
      by_cases hkn : k = id
      · exact ⟨_, by rw [hkn]; exact hg⟩
      · rw [if_neg hkn] at hgk; exact ⟨_, hgk⟩
    have g2 : ∃ o1, H.get S.h k' = some o1 := by
      rw [H.get_set _ _ _ _ hid hk'] at hgk'
      by_cases hkn : k' = id
      · exact ⟨_, by rw [hkn]; exact hg⟩
      · rw [if_neg hkn] at hgk'; exact ⟨_, hgk'⟩
    obtain ⟨o1, g1⟩ := g1
    obtain ⟨o2, g2⟩ := g2
    exact hr.apart k k' o1 o2 K K' hk hk' hF hF' g1 g2 hm hm' hne

theorem new_gen {F G : Nat → Prop} {m : M} {S S' : St} {w : World} {id : Nat} {o : AObj} (h : S.new o = some (id, S')) (hf : Fits F G S')
    (hfree : m id = none) (hr : Rel F m S.h w) (ob : Obj) (hO : ∀ (m' : M) (w' : World), Sub m m' → w'.heap[w.heap.size]? = some ob → OR m' w' ⟨w.heap.size, 0, 0⟩ o) :
    let m' : M := fun k => if k = id then some ⟨w.heap.size, 0, 0⟩ else m k
    Ev F G m m' S S' w (w.alloc ob) ∧ m' id = some ⟨w.heap.size, 0, 0⟩ := by
  intro m'
  obtain ⟨ab, h1, h2, rfl, h4, h5, h6⟩ := new_ab h
  have hsub : Sub m m' := fun k L hk => by
    show (if k = S.nx then _ else _) = _
    rw [if_neg (by rintro rfl; rw [hfree] at hk; cases hk)]; exact hk
  have hsz : (w.alloc ob).heap.size = w.heap.size + 1 := by show (w.heap.push _).size = _; simp
  have hold : ∀ b, b < w.heap.size → (w.alloc ob).heap[b]? = w.heap[b]? := fun b hb => Go.RowKit.Below.heap_alloc _ _ _ hb
  have hnew : (w.alloc ob).heap[w.heap.size]? = some ob := by
    show (w.heap.push _)[w.heap.size]? = _
    simp
  refine ⟨⟨fun k hk => ?_, hsub, ⟨fun k o' hk hF hg => ?_, fun k k' o1 o2 L L' hk hk' hF hF' hg hg' hm hm' hne => ?_⟩, by omega, fun b hb _ => hold b hb, fun k L a b hk => ?_, rfl, rfl, rfl⟩, if_pos rfl⟩
  · show (if k = S.nx then _ else _) = _
    rw [if_neg (by omega)]
  · rw [h1, H.get_set _ _ _ _ (by omega) hk] at hg
    by_cases hkn : k = S.nx
    · rw [if_pos hkn] at hg
      injection hg with hg
      subst hg
      exact ⟨⟨w.heap.size, 0, 0⟩, if_pos hkn, hO m' _ hsub hnew⟩
    · rw [if_neg hkn] at hg
      obtain ⟨L, hL, hOO⟩ := hr.obj k o' hk hF hg
      exact ⟨L, hsub _ _ hL, hOO.congr hsub (hold _ hOO.lt)⟩
  · rw [h1, H.get_set _ _ _ _ (by omega) hk] at hg
    rw [h1, H.get_set _ _ _ _ (by omega) hk'] at hg'
    have hm1 : (if k = S.nx then some (⟨w.heap.size, 0, 0⟩ : Loc) else m k) = some L := hm
    have hm2 : (if k' = S.nx then some (⟨w.heap.size, 0, 0⟩ : Loc) else m k') = some L' := hm'
    by_cases hkn : k = S.nx
    · by_cases hkn' : k' = S.nx
      · omega
      · rw [if_pos hkn] at hm1
        rw [if_neg hkn'] at hm2 hg'
        injection hm1 with hm1
        subst hm1
        obtain ⟨L2, hL2, hO2⟩ := hr.obj k' o2 hk' hF' hg'
        rw [hm2] at hL2
        injection hL2 with hL2
        subst hL2
        have := hO2.lt
        show w.heap.size ≠ _
        omega
    · by_cases hkn' : k' = S.nx
      · rw [if_pos hkn'] at hm2
        rw [if_neg hkn] at hm1 hg
        injection hm2 with hm2
        subst hm2
        obtain ⟨L2, hL2, hO2⟩ := hr.obj k o1 hk hF hg
        rw [hm1] at hL2
        injection hL2 with hL2
        subst hL2
        have := hO2.lt
        show _ ≠ w.heap.size
        omega
      · rw [if_neg hkn] at hm1 hg
        rw [if_neg hkn'] at hm2 hg'
        exact hr.apart k k' o1 o2 L L' hk hk' hF hF' hg hg' hm1 hm2 hne
  · have hkn : k = S.nx := by omega
    have hm1 : (if k = S.nx then some (⟨w.heap.size, 0, 0⟩ : Loc) else m k) = some L := hk
    rw [if_pos hkn] at hm1
    injection hm1 with hm1
    subst hm1
    exact .inl (Nat.le_refl _)

theorem put_gen {F G : Nat → Prop} {m : M} {S S' : St} {w : World} {id : Nat} {o o' : AObj} (hid : id < 32768) (h : S.put id (some o') = some S') (hf : Fits F G S')
    (hg : H.get S.h id = some o) (hr : Rel F m S.h w) {L : Loc} (hL : m id = some L) (hlt : L.blk < w.heap.size) (ob : Obj)
    (hO : ∀ w' : World, w'.heap[L.blk]? = some ob → OR m w' L o') :
    Ev F G m m S S' w { w with heap := w.heap.setIfInBounds L.blk ob } := by
  obtain ⟨ab, h1, h2, h3, h4⟩ := put_ab h hid (by rw [hg]; rfl)
  have hheap : ({ w with heap := w.heap.setIfInBounds L.blk ob } : World).heap[L.blk]? = some ob := by
    show (w.heap.setIfInBounds L.blk ob)[L.blk]? = _
    rw [Array.getElem?_setIfInBounds_self_of_lt hlt]
  have hold : ∀ b, b ≠ L.blk → ({ w with heap := w.heap.setIfInBounds L.blk ob } : World).heap[b]? = w.heap[b]? := by
    intro b hb
    show (w.heap.setIfInBounds L.blk ob)[b]? = _
    rw [Array.getElem?_setIfInBounds_ne (by omega)]
  have hGid := (hf.2 id h4)
  refine ⟨fun _ _ => rfl, Sub.rfl, ?_, by simp, fun b hb hG => hold b (fun e => hG id L hGid.2 hL e.symm), fun _ _ a b => by omega, rfl, rfl, rfl⟩
  rw [h1]
  refine ⟨fun k o1 hk hF hgk => ?_, fun k k' o1 o2 K K' hk hk' hF hF' hgk hgk' hm hm' hne => ?_⟩
  · rw [H.get_set _ _ _ _ hid hk] at hgk
    by_cases hkn : k = id
    · rw [if_pos hkn] at hgk
      injection hgk with hgk
      subst hgk
      subst hkn
      exact ⟨L, hL, hO _ hheap⟩
    · rw [if_neg hkn] at hgk
      obtain ⟨K, hK, hOO⟩ := hr.obj k o1 hk hF hgk
      refine ⟨K, hK, hOO.congr Sub.rfl (hold _ ?_)⟩
      exact hr.apart k id o1 _ K L hk hid hF hGid.1 hgk hg hK hL hkn
  · have g1 : ∃ o3, H.get S.h k = some o3 := by
      rw [H.get_set _ _ _ _ hid hk] at hgk
      by_cases hkn : k = id
      · exact ⟨_, by rw [hkn]; exact hg⟩
      · rw [if_neg hkn] at hgk; exact ⟨_, hgk⟩
    have g2 : ∃ o3, H.get S.h k' = some o3 := by
      rw [H.get_set _ _ _ _ hid hk'] at hgk'
      by_cases hkn : k' = id
      · exact ⟨_, by rw [hkn]; exact hg⟩
      · rw [if_neg hkn] at hgk'; exact ⟨_, hgk'⟩
    obtain ⟨o3, g1⟩ := g1
    obtain ⟨o4, g2⟩ := g2
    exact hr.apart k k' o3 o4 K K' hk hk' hF hF' g1 g2 hm hm' hne
end Rn
end Go.Proofs.Ytgfcakdpfedokaa
