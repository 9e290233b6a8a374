/- The runner's small operations are the model's. -/
import Derived.Test.YtgfcakdpfedokaaRun1
import Derived.Laws.StructEq
import Derived.Laws.Cover3
import Derived.Laws.Pointers
namespace Go.Proofs.Ytgfcakdpfedokaa
namespace Rn
set_option linter.unusedVariables false
set_option linter.unusedSimpArgs false

/-! lookups -/
theorem szT_spec {t : TypeId} {n : Nat} (h : szT t = some n) : ∃ i, PP.info? t = some i ∧ i.size = n := by
  unfold szT at h
  cases hi : PP.info? t with
  | none => rw [hi] at h; cases h
  | some i => rw [hi] at h; exact ⟨i, rfl, by simpa using h⟩
theorem run_sz {t : TypeId} {n : Nat} (h : szT t = some n) (w : World) : (sizeOf t).run PP w = .ok n w := by
  obtain ⟨i, hi, rfl⟩ := szT_spec h
  simp [sizeOf, typeInfo, hi]
theorem aggT_spec {t : TypeId} {b : Bool} (h : aggT t = some b) (w : World) : (isAgg t).run PP w = .ok b w := by
  unfold aggT at h
  cases hu : PP.underlying t with
  | none => rw [hu] at h; cases h
  | some d =>
    rw [hu] at h
    simp only [isAgg, Sem.run_bind, run_underlying hu, Result.andThen_ok]
    cases d <;> simp_all
theorem ofValue_cells {m : M} {v : Value} {x : AV} (h : ofValue v = some x) : CRL m x.cells v.cells.toList := by
  have hc := ofValue_CR (m := m) h
  unfold ofValue at h
  split at h
  · rename_i a
    cases hf : ofFlats a.toList with
    | none => simp [hf] at h
    | some l =>
      simp only [hf, Option.map_some, Option.some.injEq] at h
      subst h
      exact ofFlats_CRL hf
  · rename_i a
    cases hf : ofFlats a.toList with
    | none => simp [hf] at h
    | some l =>
      simp only [hf, Option.map_some, Option.some.injEq] at h
      subst h
      exact ⟨_, _, rfl, hc, rfl⟩
  · unfold ofFlat at h
    split at h <;> first
      | (injection h with h; subst h; exact ⟨_, _, rfl, hc, rfl⟩)
      | (simp at h; done)
      | skip
    rename_i fn first cap _ _
    cases hb : (first.size == 0 && cap.size == 0) with
    | false => simp [hb] at h
    | true =>
      simp only [hb, cond_true, Option.some.injEq] at h
      subst h
      exact ⟨_, _, rfl, hc, rfl⟩
theorem zeroT_spec {t : TypeId} {z : List AV} (h : zeroT t = some z) : ∃ v, (∀ w, (zeroValue t).run PP w = .ok v w) ∧ ∀ m, CRL m z v.cells.toList := by
  unfold zeroT at h
  split at h
  · rename_i i hi
    split at h
    · rename_i v hv
      cases ho : ofValue v with
      | none => rw [ho] at h; cases h
      | some x =>
        rw [ho] at h
        simp only [Option.map_some, Option.some.injEq] at h
        subst h
        exact ⟨v, fun w => by simp [zeroValue, typeInfo, hi, hv], fun m => ofValue_cells ho⟩
    · cases h
  · cases h
theorem elemT_spec {t e : TypeId} (h : elemT t = some e) : PP.underlying t = some (.slice e) := by
  unfold elemT at h
  split at h
  · rename_i e' he; injection h with h; subst h; exact he
  · cases h
theorem fieldT_spec {t : TypeId} {k : Nat} {f : Field} (h : fieldT t k = some f) : ∃ fs, PP.underlying t = some (.struct fs) ∧ fs[k]? = some f := by
  unfold fieldT at h
  split at h
  · rename_i fs hf; exact ⟨fs, hf, h⟩
  · cases h

/-! tmps -/
/-- the marks of ranges over functions among a frame's deferred calls -/
def DR (m : M) : List Nat → List Deferred → Prop
  | [], ds => ds = []
  | D :: l, ds => ∃ (L : Loc) (r : List Deferred), m D = some L ∧ ds = { target := .collected L.blk, args := #[] } :: r ∧ DR m l r
theorem DR.mono {m m' : M} (h : Sub m m') : ∀ {l : List Nat} {ds : List Deferred}, DR m l ds → DR m' l ds
  | [], _, e => e
  | D :: l, ds, ⟨L, r, h1, h2, h3⟩ => ⟨L, r, h _ _ h1, h2, DR.mono h h3⟩
structure Tm (m : M) (nt : Nat) (tm : T AV) (a : Act) : Prop where
  at_ : ∀ t v, t < 511 → T.get tm t = some v → ∃ u, a.tmps[t]? = some u ∧ CR m v u
  size : a.tmps.size = nt
  defers : DR m (marks tm) a.defers
theorem Tm.mono {m m' : M} {nt : Nat} {tm : T AV} {a : Act} (h : Tm m nt tm a) (hs : Sub m m') : Tm m' nt tm a :=
  ⟨fun t v ht hv => let ⟨u, h1, h2⟩ := h.at_ t v ht hv; ⟨u, h1, h2.mono hs⟩, h.size, h.defers.mono hs⟩
theorem marks_set {tm : T AV} {d : Nat} {v : Option AV} (hd : d < 511) : marks (T.set tm d v) = marks tm := by
  unfold marks
  rw [T.get_set _ _ _ _ (by omega) (by omega), if_neg (by omega)]
theorem Tm.put {m : M} {nt : Nat} {tm : T AV} {a : Act} (h : Tm m nt tm a) {d : Nat} {v : AV} {u : Value} (hd : d < nt) (hnt : nt ≤ 511) (hv : CR m v u) :
    Tm m nt (T.set tm d (some v)) (a.put (some d) u) := by
  refine ⟨fun t x ht hx => ?_, by simpa [Act.put] using h.size, by rw [marks_set (by omega)]; exact h.defers⟩
  rw [T.get_set _ _ _ _ (by omega) (by omega)] at hx
  have hs := h.size
  by_cases hk : t = d
  · subst hk
    rw [if_pos rfl] at hx
    injection hx with hx
    subst hx
    exact ⟨u, by simp [Act.put, Array.getElem?_setIfInBounds]; omega, hv⟩
  · rw [if_neg hk] at hx
    obtain ⟨y, h1, h2⟩ := h.at_ t x ht hx
    exact ⟨y, by simp only [Act.put]; rw [Array.getElem?_setIfInBounds_ne (by omega)]; exact h1, h2⟩
theorem getO_spec {m : M} {nt : Nat} {tm : T AV} {a : Act} {t : Nat} {v : AV} (h : getO t tm = some v) (ht : Tm m nt tm a) : ∃ u, a.tmps[t]? = some u ∧ CR m v u := by
  unfold getO at h
  cases hb : Nat.blt t 511 with
  | false => rw [hb] at h; cases h
  | true =>
    rw [hb] at h
    exact ht.at_ t v (by have := Nat.le_of_ble_eq_true hb; omega) h
theorem evalO_spec {m : M} {nt : Nat} {tm : T AV} {a : Act} {o : Operand} {v : AV} (h : evalO o tm = some v) (ht : Tm m nt tm a) : CR m v (a.eval o) := by
  cases o with
  | tmp t =>
    obtain ⟨u, h1, h2⟩ := getO_spec h ht
    simpa [Act.eval, Array.getD_eq_getD_getElem?, h1] using h2
  | const x => exact ofValue_CR h
  | global g => cases h
  | func f =>
    injection h with h
    subst h
    exact ⟨[], [], rfl, rfl, rfl⟩
theorem evalL_spec {m : M} {nt : Nat} {tm : T AV} {a : Act} (ht : Tm m nt tm a) : ∀ {l : List Operand} {vs : List AV}, evalL l tm = some vs → CRL m vs (l.map a.eval)
  | [], vs, h => by injection h with h; subst h; rfl
  | o :: l, vs, h => by
    change evalLc (evalO o tm) (evalL l tm) = some vs at h
    unfold evalLc at h
    split at h
    · cases h
    · rename_i x hx
      split at h
      · cases h
      · rename_i xs hxs
        injection h with h
        subst h
        exact ⟨_, _, rfl, evalO_spec hx ht, evalL_spec ht hxs⟩
def CRP (m : M) : List (Nat × AV) → List (Nat × Value) → Prop
  | [], ys => ys = []
  | (i, x) :: l, ys => ∃ y r, ys = (i, y) :: r ∧ CR m x y ∧ CRP m l r
theorem evalP_spec {m : M} {nt : Nat} {tm : T AV} {a : Act} (ht : Tm m nt tm a) : ∀ {l : List (Nat × Operand)} {vs : List (Nat × AV)}, evalP l tm = some vs → CRP m vs (l.map fun (i, x) => (i, a.eval x))
  | [], vs, h => by injection h with h; subst h; rfl
  | (i, o) :: l, vs, h => by
    simp only [evalP] at h
    split at h
    · cases h
    · rename_i x hx
      split at h
      · cases h
      · rename_i xs hxs
        injection h with h
        subst h
        exact ⟨_, _, rfl, evalO_spec hx ht, evalP_spec ht hxs⟩

/-! parts -/
theorem aPart_spec {m : M} {t : TypeId} {cs : List AV} {xs : List Value} {off : Nat} {v : AV} (h : aPart t cs off = some v) (hc : CRL m cs xs) (w : World) :
    ∃ u, (part t xs.toArray off).run PP w = .ok u w ∧ CR m v u := by
  unfold aPart at h
  split at h
  · rename_i ha
    split at h
    · rename_i n hn
      cases hw : window cs off n with
      | none => rw [hw] at h; cases h
      | some r =>
        rw [hw] at h
        simp only [Option.map_some, Option.some.injEq] at h
        subst h
        obtain ⟨h1, h2, h3⟩ := hc.window hw
        refine ⟨.agg ((xs.drop off).take n).toArray, ?_, _, rfl, h3⟩
        simp only [part, Sem.run_bind, aggT_spec ha, Result.andThen_ok, if_true, run_sz hn, Sem.run_pure]
        congr 2
        apply Array.ext'
        simp [List.extract_eq_take_drop]
    · cases h
  · rename_i ha
    obtain ⟨u, h1, h2⟩ := hc.get h
    refine ⟨u, ?_, h2⟩
    simp only [part, Sem.run_bind, aggT_spec ha, Result.andThen_ok, Bool.false_eq_true, if_false]
    simp [h1]
  · cases h

theorem aField_spec {m : M} {t : TypeId} {x v : AV} {u : Value} {k : Nat} (h : aField t x k = some v) (hx : CR m x u) (w : World) :
    ∃ y, (Instr.field t u k).run PP w = .ok y w ∧ CR m v y := by
  unfold aField at h
  split at h
  · rename_i f cs hf
    obtain ⟨fs, hu, hk⟩ := fieldT_spec hf
    simp only [CR] at hx
    obtain ⟨xs, rfl, hc⟩ := hx
    obtain ⟨y, h1, h2⟩ := aPart_spec h hc w
    refine ⟨y, ?_, h2⟩
    simp [Instr.field, run_underlying hu, hk, asAgg, h1]
  · cases h

theorem addr_add (b o n : Nat) : (⟨b, o, none⟩ : Addr).add n = ⟨b, o + n, none⟩ := by unfold Addr.add; split <;> simp_all

theorem aFieldAt_spec {m : M} {t : TypeId} {x v : AV} {u : Value} {k : Nat} (h : aFieldAt t x k = some v) (hx : CR m x u) (w : World) :
    ∃ y, (Instr.fieldAt t u k).run PP w = .ok y w ∧ CR m v y := by
  unfold aFieldAt at h
  split at h
  · rename_i f id off hf
    obtain ⟨fs, hu, hk⟩ := fieldT_spec hf
    simp only [CR] at hx
    obtain ⟨L, hL, rfl⟩ := hx
    split at h
    · rename_i n hn
      injection h with h
      subst h
      refine ⟨_, ?_, L, hL, rfl⟩
      simp [Instr.fieldAt, run_underlying hu, hk, Instr.sureAddr, fieldPlace, run_sz hn, addr_add, Nat.add_assoc]
    · cases h
  · cases h

theorem blt_spec {a b : Nat} (h : Nat.blt a b = true) : a < b := Nat.le_of_ble_eq_true h

theorem aIndexAt_spec {m : M} {t : TypeId} {x ix v : AV} {u j : Value} (h : aIndexAt t x ix = some v) (hx : CR m x u) (hj : CR m ix j) (w : World) :
    ∃ y, (Instr.indexAt t u j).run PP w = .ok y w ∧ CR m v y := by
  unfold aIndexAt at h
  split at h
  · rename_i kk n
    simp only [CR] at hj
    subst hj
    split at h
    · rename_i e id off len cap op hu
      simp only [CR] at hx
      obtain ⟨L, hL, rfl⟩ := hx
      split at h
      · rename_i sz hsz
        cases hb : (Nat.blt n.toNat len && decide (0 ≤ n)) with
        | false => rw [hb] at h; cases h
        | true =>
          rw [hb] at h
          injection h with h
          subst h
          simp only [Bool.and_eq_true, decide_eq_true_eq] at hb
          have h1 := blt_spec hb.1
          refine ⟨_, ?_, L, hL, rfl⟩
          have hr : 0 ≤ n ∧ n < (len : Int) := ⟨hb.2, by omega⟩
          simp [Instr.indexAt, asIntOf, run_underlying hu, hr, run_sz hsz, addr_add, Nat.add_assoc]
      · cases h
    · rename_i len e id off hu
      simp only [CR] at hx
      obtain ⟨L, hL, rfl⟩ := hx
      split at h
      · rename_i sz hsz
        cases hb : (Nat.blt n.toNat len && decide (0 ≤ n)) with
        | false => rw [hb] at h; cases h
        | true =>
          rw [hb] at h
          injection h with h
          subst h
          simp only [Bool.and_eq_true, decide_eq_true_eq] at hb
          have h1 := blt_spec hb.1
          refine ⟨_, ?_, L, hL, rfl⟩
          have hr : 0 ≤ n ∧ n < (len : Int) := ⟨hb.2, by omega⟩
          simp [Instr.indexAt, asIntOf, run_underlying hu, hr, run_sz hsz, addr_add, Nat.add_assoc, Instr.sureAddr]
      · cases h
    · cases h
  · cases h

theorem aIndex_spec {m : M} {t : TypeId} {x ix v : AV} {u j : Value} (h : aIndex t x ix = some v) (hx : CR m x u) (hj : CR m ix j) (w : World) :
    ∃ y, (Instr.index t u j).run PP w = .ok y w ∧ CR m v y := by
  unfold aIndex at h
  split at h
  · rename_i kk n
    simp only [CR] at hj
    subst hj
    split at h
    · rename_i len e cs hu
      simp only [CR] at hx
      obtain ⟨xs, rfl, hc⟩ := hx
      split at h
      · rename_i sz hsz
        cases hb : (Nat.blt n.toNat len && decide (0 ≤ n)) with
        | false => rw [hb] at h; cases h
        | true =>
          rw [hb] at h
          simp only [Bool.and_eq_true, decide_eq_true_eq] at hb
          have h1 := blt_spec hb.1
          have hr : 0 ≤ n ∧ n < (len : Int) := ⟨hb.2, by omega⟩
          obtain ⟨y, e1, e2⟩ := aPart_spec h hc w
          refine ⟨y, ?_, e2⟩
          simp [Instr.index, asIntOf, run_underlying hu, hr, run_sz hsz, e1]
      · cases h
    · rename_i y hu
      simp only [CR] at hx
      subst hx
      cases hb : decide (0 ≤ n) with
      | false => rw [hb] at h; cases h
      | true =>
        rw [hb] at h
        simp only [decide_eq_true_eq] at hb
        simp only [cond_true] at h
        cases hg : y[n.toNat]? with
        | none => rw [hg] at h; cases h
        | some b =>
          rw [hg] at h
          injection h with h
          subst h
          exact ⟨_, by simp [Instr.index, asIntOf, run_underlying hu, hb, hg], rfl⟩
    · cases h
  · cases h

theorem aExtract_spec {m : M} {x v : AV} {u : Value} {k : Nat} (h : aExtract k x = some v) (hx : CR m x u) (w : World) :
    ∃ y, (Instr.extract u k).run PP w = .ok y w ∧ CR m v y := by
  unfold aExtract at h
  split at h
  · simp only [CR] at hx
    obtain ⟨xs, rfl, hc⟩ := hx
    obtain ⟨y, h1, h2⟩ := hc.get h
    exact ⟨y, by simp [Instr.extract, h1], h2⟩
  · cases h

theorem opIface_spec {m : M} {t : TypeId} {x v : AV} {u : Value} (h : opIface t x = some v) (hx : CR m x u) (w : World) :
    ∃ y, (Instr.makeInterface t u).run PP w = .ok y w ∧ CR m v y := by
  unfold opIface at h
  split at h
  · cases h
  · rename_i d hn hu
    injection h with h
    subst h
    refine ⟨.iface t u, ?_, u, rfl, hx⟩
    simp only [Instr.makeInterface, Sem.run_bind, run_underlying hu, Result.andThen_ok, Sem.run_pure]
  · cases h

/-! numbers -/
theorem aArith_spec {op : BinOp} {k : IntKind} {a c : Int} {v : AV} (h : aArith op k a c = some v) (t : TypeId) (w : World) {m : M} :
    ∃ y, (binOp op t (.int k a) (.int k c)).run PP w = .ok y w ∧ CR m v y := by
  cases op <;> simp only [aArith] at h
  case quo =>
    cases hb : (c == 0) with
    | true => rw [hb] at h; cases h
    | false =>
      rw [hb] at h; injection h with h; subst h
      have : ¬ c = 0 := by simpa using hb
      exact ⟨_, by simp [binOp, Op.intDiv, this], rfl⟩
  case rem =>
    cases hb : (c == 0) with
    | true => rw [hb] at h; cases h
    | false =>
      rw [hb] at h; injection h with h; subst h
      have : ¬ c = 0 := by simpa using hb
      exact ⟨_, by simp [binOp, Op.intDiv, this], rfl⟩
  all_goals first
    | (injection h with h; subst h; exact ⟨_, by simp only [binOp, ne_eq, not_true_eq_false, if_false, Op.intArith, Op.intBits, Op.intCmp, Sem.run_pure], rfl⟩)
    | cases h
theorem aShift_spec {op : BinOp} {k k' : IntKind} {a c : Int} {v : AV} (h : aShift op k a c = some v) (t : TypeId) (w : World) {m : M} :
    ∃ y, (binOp op t (.int k a) (.int k' c)).run PP w = .ok y w ∧ CR m v y := by
  unfold aShift at h
  cases hb : decide (0 ≤ c) with
  | false => rw [hb] at h; cases h
  | true =>
    rw [hb] at h
    have h0 : ¬ c < 0 := by simpa using hb
    cases op <;> simp only [cond_true] at h <;> first
      | (injection h with h; subst h; exact ⟨_, by simp only [binOp, Op.shift, if_neg h0, Sem.run_pure], rfl⟩)
      | cases h
theorem aStr_spec {op : BinOp} {a c : ByteArray} {v : AV} (h : aStr op a c = some v) (t : TypeId) (w : World) {m : M} :
    ∃ y, (binOp op t (.string a) (.string c)).run PP w = .ok y w ∧ CR m v y := by
  cases op <;> simp only [aStr] at h
  case add =>
    cases hb : Nat.ble (a.size + c.size) 1073741824 with
    | false => rw [hb] at h; cases h
    | true =>
      rw [hb] at h; injection h with h; subst h
      have hle := Nat.le_of_ble_eq_true hb
      have hn : ¬ (((a.size + c.size : Nat) : Int) > IntKind.i64.max) := by
        have : IntKind.i64.max = 9223372036854775807 := by decide
        omega
      exact ⟨_, by simp only [binOp, Op.stringOp, if_neg hn, Sem.run_pure], rfl⟩
  all_goals first
    | (injection h with h; subst h; exact ⟨_, by simp only [binOp, Op.stringOp, Sem.run_pure], rfl⟩)
    | cases h

/-! equality -/
theorem aEqF_spec {m : M} {t : TypeId} {x y : AV} {r : Bool} (h : aEqF t x y = some r) {u v : Value} (hx : CR m x u) (hy : CR m y v) (d : Nat) (w : World) :
    (Op.equalIn (d + 1) t u v).run PP w = .ok r w := by
  unfold aEqF at h
  split at h
  all_goals (try (cases h; done))
  all_goals rename_i hu
  all_goals simp only [CR] at hx hy
  all_goals (try subst hx)
  all_goals (try subst hy)
  all_goals (try (obtain ⟨L, hL, rfl⟩ := hx))
  all_goals (try (obtain ⟨L', hL', rfl⟩ := hy))
  all_goals (try (obtain ⟨L, a, c, hL, rfl, _⟩ := hx))
  all_goals (try (obtain ⟨L', a, c, hL', rfl, _⟩ := hy))
  all_goals (try (obtain ⟨xs, ys, rfl, _⟩ := hx))
  all_goals (try (obtain ⟨xs', ys', rfl, _⟩ := hy))
  all_goals (try (obtain ⟨z, rfl, _⟩ := hx))
  all_goals (try (obtain ⟨z', rfl, _⟩ := hy))
  all_goals first
    | (injection h with h; subst h; simp only [Op.equalIn, Sem.run_bind, run_underlying hu, Result.andThen_ok, Sem.run_pure, Option.isNone_none, Option.isNone_some]; done)
    | skip
  · rename_i k a k' c
    cases hb : (k == k') with
    | false => rw [hb] at h; cases h
    | true =>
      rw [hb] at h
      injection h with h
      subst h
      have hk : k = k' := by simpa using hb
      subst hk
      simp only [Op.equalIn, Sem.run_bind, run_underlying hu, Result.andThen_ok, if_true, Sem.run_pure]

def EqOk (n : Nat) (eq : TypeId → AV → AV → Option Bool) : Prop :=
  ∀ (m : M) (t : TypeId) (x y : AV) (r : Bool) (u v : Value) (d : Nat) (w : World), eq t x y = some r → CR m x u → CR m y v → n ≤ d → (Op.equalIn d t u v).run PP w = .ok r w
theorem aEqFs_spec {n : Nat} {eq : TypeId → AV → AV → Option Bool} (he : EqOk n eq) {m : M} {xs ys : List AV} {us vs : List Value} (hx : CRL m xs us) (hy : CRL m ys vs) (d : Nat) (hd : n ≤ d) (w : World) :
    ∀ {fs : List Field} {r : Bool}, aEqFs eq xs ys fs = some r → (Op.eqFields d us.toArray vs.toArray fs).run PP w = .ok r w
  | [], r, h => by injection h with h; subst h; simp [Op.eqFields]
  | f :: fs, r, h => by
    simp only [aEqFs] at h
    cases hb : (f.name != "_") with
    | false =>
      rw [hb] at h
      have hn : ¬ f.name ≠ "_" := by simpa using hb
      simp only [Op.eqFields, if_neg hn]
      exact aEqFs_spec he hx hy d hd w h
    | true =>
      rw [hb] at h
      have hn : f.name ≠ "_" := by simpa using hb
      simp only [cond_true] at h
      split at h
      · rename_i a c ha hc
        obtain ⟨u, e1, e2⟩ := aPart_spec ha hx w
        obtain ⟨v, e3, e4⟩ := aPart_spec hc hy w
        split at h
        · rename_i hq
          have := he m f.type a c true u v d w hq e2 e4 hd
          simp only [Op.eqFields, if_pos hn, Sem.run_bind, e1, e3, this, Result.andThen_ok, Bool.not_true, Bool.false_eq_true, if_false]
          exact aEqFs_spec he hx hy d hd w h
        · rename_i hq
          injection h with h
          subst h
          have := he m f.type a c false u v d w hq e2 e4 hd
          simp only [Op.eqFields, if_pos hn, Sem.run_bind, e1, e3, this, Result.andThen_ok, Bool.not_false, if_true, Sem.run_pure]
        · cases h
      · cases h
theorem structT_spec {t : TypeId} {fs : List Field} (h : structT t = some fs) : PP.underlying t = some (.struct (PP.fieldsOf t)) ∧ PP.stoodInHeld t = false ∧ (PP.fieldsOf t).toList = fs := by
  unfold structT at h
  split at h
  · rename_i gs hu
    cases hb : PP.stoodInHeld t with
    | true => rw [hb] at h; cases h
    | false =>
      rw [hb] at h
      injection h with h
      have : PP.fieldsOf t = gs := by unfold Program.fieldsOf; rw [hu]
      rw [this]
      exact ⟨hu, rfl, h⟩
  · cases h
theorem aEqS_spec : ∀ n, EqOk n (aEqS n)
  | 0 => fun m t x y r u v d w h _ _ _ => by cases h
  | n + 1 => fun m t x y r u v d w h hx hy hd => by
    obtain ⟨d, rfl⟩ : ∃ e, d = e + 1 := ⟨d - 1, by omega⟩
    simp only [aEqS] at h
    split at h
    · rename_i xs ys
      simp only [CR] at hx hy
      obtain ⟨us, rfl, hxs⟩ := hx
      obtain ⟨vs, rfl, hys⟩ := hy
      split at h
      · rename_i fs hf
        obtain ⟨h1, h2, h3⟩ := structT_spec hf
        rw [run_equalIn_struct w d t _ _ h1 h2, h3]
        exact aEqFs_spec (aEqS_spec n) hxs hys d (by omega) w h
      · cases h
    · exact aEqF_spec h hx hy d w

theorem aEqBin_spec {m : M} {t : TypeId} {x y : AV} {r : Bool} (h : aEqF t x y = some r) {u v : Value} (hx : CR m x u) (hy : CR m y v) (o1 o2 : Operand) (w : World) :
    ∃ z, (do eqGuard .eql t o1 o2 u v; binOp .eql t u v : Sem Value).run PP w = .ok z w ∧ CR m (.b r) z := by
  have he := aEqF_spec h hx hy 9999 w
  have he' : (Op.equal t u v).run PP w = .ok r w := he
  refine ⟨.bool r, ?_, rfl⟩
  unfold aEqF at h
  split at h
  all_goals (try (cases h; done))
  all_goals simp only [CR] at hx hy
  all_goals (try subst hx)
  all_goals (try subst hy)
  all_goals (try (obtain ⟨L, hL, rfl⟩ := hx))
  all_goals (try (obtain ⟨L', hL', rfl⟩ := hy))
  all_goals (try (obtain ⟨L, a, c, hL, rfl, _⟩ := hx))
  all_goals (try (obtain ⟨L', a, c, hL', rfl, _⟩ := hy))
  all_goals (try (obtain ⟨xs, ys, rfl, _⟩ := hx))
  all_goals (try (obtain ⟨xs', ys', rfl, _⟩ := hy))
  all_goals (try (obtain ⟨z, rfl, _⟩ := hx))
  all_goals (try (obtain ⟨z', rfl, _⟩ := hy))
  all_goals first
    | (simp [eqGuard, binOp, he']; done)
    | (simp_all [eqGuard, binOp, Op.intCmp, Op.stringOp, beq_toListBytes]; done)
    | skip
  · rename_i k a k' c _
    cases hb : (k == k') with
    | false => rw [hb] at h; cases h
    | true =>
      rw [hb] at h
      injection h with h
      subst h
      have hk : k = k' := by simpa using hb
      subst hk
      simp [eqGuard, binOp, Op.intCmp, bne]
theorem aNeBin_spec {m : M} {t : TypeId} {x y : AV} {r : Bool} (h : aEqF t x y = some r) {u v : Value} (hx : CR m x u) (hy : CR m y v) (o1 o2 : Operand) (w : World) :
    ∃ z, (do eqGuard .neq t o1 o2 u v; binOp .neq t u v : Sem Value).run PP w = .ok z w ∧ CR m (.b (!r)) z := by
  have he := aEqF_spec h hx hy 9999 w
  have he' : (Op.equal t u v).run PP w = .ok r w := he
  refine ⟨.bool (!r), ?_, rfl⟩
  unfold aEqF at h
  split at h
  all_goals (try (cases h; done))
  all_goals simp only [CR] at hx hy
  all_goals (try subst hx)
  all_goals (try subst hy)
  all_goals (try (obtain ⟨L, hL, rfl⟩ := hx))
  all_goals (try (obtain ⟨L', hL', rfl⟩ := hy))
  all_goals (try (obtain ⟨L, a, c, hL, rfl, _⟩ := hx))
  all_goals (try (obtain ⟨L', a, c, hL', rfl, _⟩ := hy))
  all_goals (try (obtain ⟨xs, ys, rfl, _⟩ := hx))
  all_goals (try (obtain ⟨xs', ys', rfl, _⟩ := hy))
  all_goals (try (obtain ⟨z, rfl, _⟩ := hx))
  all_goals (try (obtain ⟨z', rfl, _⟩ := hy))
  all_goals first
    | (simp [eqGuard, binOp, he']; done)
    | (simp_all [eqGuard, binOp, Op.intCmp, Op.stringOp, beq_toListBytes]; done)
    | skip
  · rename_i k a k' c _
    cases hb : (k == k') with
    | false => rw [hb] at h; cases h
    | true =>
      rw [hb] at h
      injection h with h
      subst h
      have hk : k = k' := by simpa using hb
      subst hk
      simp [eqGuard, binOp, Op.intCmp, bne]

theorem aBin_spec {m : M} {op : BinOp} {t : TypeId} {x y v : AV} (h : aBin op t x y = some v) {u1 u2 : Value} (hx : CR m x u1) (hy : CR m y u2) (o1 o2 : Operand) (w : World) :
    ∃ y, (do eqGuard op t o1 o2 u1 u2; binOp op t u1 u2 : Sem Value).run PP w = .ok y w ∧ CR m v y := by
  unfold aBin at h
  split at h
  · rename_i k a k' c
    simp only [CR] at hx hy
    subst hx; subst hy
    have hg : ∀ op, (eqGuard op t o1 o2 (.int k a) (.int k' c)).run PP w = .ok () w := by
      intro op; unfold eqGuard; cases op <;> simp
    have key : ∀ {z}, (∃ y, (binOp op t (.int k a) (.int k' c)).run PP w = .ok y w ∧ CR m z y) → ∃ y, (do eqGuard op t o1 o2 (.int k a) (.int k' c); binOp op t (.int k a) (.int k' c) : Sem Value).run PP w = .ok y w ∧ CR m z y := by
      rintro z ⟨y, h1, h2⟩
      exact ⟨y, by simp only [Sem.run_bind, hg, Result.andThen_ok, h1], h2⟩
    refine key ?_
    split at h
    · exact aShift_spec h t w
    · exact aShift_spec h t w
    · cases hb : (k == k') with
      | false => rw [hb] at h; cases h
      | true =>
        rw [hb] at h
        have hk : k = k' := by simpa using hb
        subst hk
        exact aArith_spec h t w
  · rename_i a c
    simp only [CR] at hx hy
    subst hx; subst hy
    have hg : (eqGuard op t o1 o2 (.string a) (.string c)).run PP w = .ok () w := by unfold eqGuard; cases op <;> simp
    obtain ⟨y, h1, h2⟩ := aStr_spec (m := m) h t w
    exact ⟨y, by simp only [Sem.run_bind, hg, Result.andThen_ok, h1], h2⟩
  · rename_i xs ys
    have hx' := hx
    have hy' := hy
    simp only [CR] at hx hy
    obtain ⟨us, rfl, hxs⟩ := hx
    obtain ⟨vs, rfl, hys⟩ := hy
    cases hm : PP.eqGuardType PP.depth t with
    | true => rw [hm] at h; cases h
    | false =>
      rw [hm] at h
      simp only [cond_false] at h
      have hg := run_eqGuard_agg (P := PP) w op t o1 o2 us.toArray vs.toArray hm
      split at h
      · cases hq : aEqS 20 t (.agg xs) (.agg ys) with
        | none => rw [hq] at h; cases h
        | some r =>
          rw [hq] at h; injection h with h; subst h
          have := aEqS_spec 20 m t _ _ r _ _ 10000 w hq hx' hy' (by omega)
          exact ⟨_, by simp only [Sem.run_bind, hg, Result.andThen_ok, run_eql_struct, this], rfl⟩
      · cases hq : aEqS 20 t (.agg xs) (.agg ys) with
        | none => rw [hq] at h; cases h
        | some r =>
          rw [hq] at h; injection h with h; subst h
          have := aEqS_spec 20 m t _ _ r _ _ 10000 w hq hx' hy' (by omega)
          exact ⟨_, by simp only [Sem.run_bind, hg, Result.andThen_ok, run_neq_struct, this], rfl⟩
      · cases h
  · split at h
    · cases hq : aEqF t x y with
      | none => rw [hq] at h; cases h
      | some r =>
        rw [hq] at h; injection h with h; subst h
        exact aEqBin_spec hq hx hy o1 o2 w
    · cases hq : aEqF t x y with
      | none => rw [hq] at h; cases h
      | some r =>
        rw [hq] at h; injection h with h; subst h
        exact aNeBin_spec hq hx hy o1 o2 w
    · cases h

theorem aUn_spec {m : M} {op : UnOp} {x v : AV} {u : Value} (h : aUn op x = some v) (hx : CR m x u) (w : World) :
    ∃ y, (Op.unary op u).run PP w = .ok y w ∧ CR m v y := by
  unfold aUn at h
  split at h
  · simp only [CR] at hx; subst hx
    simp only [aArith] at h; injection h with h; subst h
    exact ⟨_, by simp only [Op.unary, Op.intArith, Sem.run_pure], rfl⟩
  · simp only [CR] at hx; subst hx
    simp only [aArith] at h; injection h with h; subst h
    exact ⟨_, by simp only [Op.unary, Op.intBits, Sem.run_pure], rfl⟩
  · simp only [CR] at hx; subst hx
    injection h with h; subst h
    exact ⟨_, by simp only [Op.unary, Sem.run_pure], rfl⟩
  · cases h
end Rn
end Go.Proofs.Ytgfcakdpfedokaa
