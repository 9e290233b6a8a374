/- The runner's maps of plain keys are the model's. -/
import Derived.Test.YtgfcakdpfedokaaRun5
namespace Go.Proofs.Ytgfcakdpfedokaa
namespace Rn
set_option linter.unusedVariables false
set_option linter.unusedSimpArgs false

theorem mapT_spec {t k e : TypeId} {d : TypeDesc} (h : mapT t = some (k, d, e)) : PP.underlying t = some (.map k e) ∧ PP.underlying k = some d := by
  unfold mapT at h
  split at h
  · rename_i k' e' hu
    split at h
    · rename_i d' hd
      injection h with h; injection h with h1 h2; injection h2 with h2 h3
      subst h1; subst h2; subst h3
      exact ⟨hu, hd⟩
    · cases h
  · cases h
theorem zeroA_spec {t : TypeId} {z : AV} (h : zeroA t = some z) : ∃ v, (∀ w, (zeroValue t).run PP w = .ok v w) ∧ ∀ m, CR m z v := by
  unfold zeroA at h
  split at h
  · rename_i i hi
    split at h
    · rename_i v hv
      exact ⟨v, fun w => by simp [zeroValue, typeInfo, hi, hv], fun m => ofValue_CR h⟩
    · cases h
  · cases h
theorem keyKind_check' (n : Nat) {k : TypeId} {d : TypeDesc} (hd : PP.underlying k = some d) {x : AV} (h : keyKind d x = true) {m : M} {u : Value} (hx : CR m x u) (em : Bool) (w : World) : (Instr.checkKey em (n + 1) k u).run PP w = .ok () w := by
  unfold keyKind at h
  split at h
  · simp only [CR] at hx; subst hx
    simp only [Instr.checkKey, Sem.run_bind, run_underlying hd, Result.andThen_ok]
    rfl
  · simp only [CR] at hx; subst hx
    simp only [Instr.checkKey, Sem.run_bind, run_underlying hd, Result.andThen_ok]
    rfl
  · simp only [CR] at hx; subst hx
    simp only [Instr.checkKey, Sem.run_bind, run_underlying hd, Result.andThen_ok]
    rfl
  · cases h
theorem keyKind_check {k : TypeId} {d : TypeDesc} (hd : PP.underlying k = some d) {x : AV} (h : keyKind d x = true) {m : M} {u : Value} (hx : CR m x u) (em : Bool) (w : World) : (Instr.checkKey em 10000 k u).run PP w = .ok () w :=
  keyKind_check' 9999 hd h hx em w
theorem ba_eq {x y : ByteArray} (h : (x == y) = true) : x = y := by
  rw [beq_toListBytes, ByteArray.toList_eq, ByteArray.toList_eq] at h
  have := eq_of_beq h
  obtain ⟨⟨a⟩⟩ := x
  obtain ⟨⟨b⟩⟩ := y
  simp only at this
  rw [this]
theorem ba_refl (x : ByteArray) : (x == x) = true := by rw [beq_toListBytes]; exact beq_self_eq_true _
theorem keyEq_spec {d : TypeDesc} {a c : AV} {r : Bool} (h : keyEq d a c = some r) {m : M} {u v : Value} (ha : CR m a u) (hc : CR m c v) :
    Instr.sameNow d u v = some r ∧ (r = true → u = v ∧ Instr.sameBits 10000 v u = true) := by
  unfold keyEq at h
  split at h
  · rename_i k x k' y
    simp only [CR] at ha hc
    subst ha; subst hc
    have hcs := cond_some h; clear h; obtain ⟨hb, h⟩ := hcs
    have hk : k = k' := by simpa using hb
    subst hk
    injection h with h
    refine ⟨by simp [Instr.sameNow, h], fun hr => ?_⟩
    rw [hr] at h
    have : x = y := by simpa using h
    subst this
    exact ⟨rfl, by simp [Instr.sameBits]⟩
  · rename_i x y
    simp only [CR] at ha hc
    subst ha; subst hc
    injection h with h
    refine ⟨by simp [Instr.sameNow, h], fun hr => ?_⟩
    rw [hr] at h
    have := ba_eq h
    subst this
    exact ⟨rfl, by simp only [Instr.sameBits]; exact ba_refl _⟩
  · rename_i x y
    simp only [CR] at ha hc
    subst ha; subst hc
    injection h with h
    refine ⟨by simp [Instr.sameNow, h], fun hr => ?_⟩
    rw [hr] at h
    have : x = y := by simpa using h
    subst this
    exact ⟨rfl, by simp [Instr.sameBits]⟩
  · cases h

/-- what is found -/
def FoundR (m : M) : Option (Nat × AV) → Option (Nat × Value) → Prop
  | none, none => True
  | some (i, v), some (j, u) => i = j ∧ CR m v u
  | _, _ => False
theorem mFind_spec {d : TypeDesc} {k : AV} {m : M} {u : Value} (hk : CR m k u) : ∀ {es : List (AV × AV × Nat)} {res : List MapEntry} {i : Nat} {r : Option (Nat × AV)}, EntR m es res → mFind d k es i = some r →
    ∃ r', Instr.findNow d u res i = some r' ∧ FoundR m r r' ∧ (∀ j v, r' = some (j, v) → i ≤ j ∧ ∃ e, res[j - i]? = some e ∧ e.key = u ∧ Instr.sameBits 10000 e.key u = true ∧ j - i < es.length)
  | [], res, i, r, h, hf => by
    simp only [EntR] at h
    subst h
    injection hf with hf
    subst hf
    exact ⟨none, rfl, trivial, fun j v e => by cases e⟩
  | e :: es, res, i, r, h, hf => by
    obtain ⟨ku, vu, rs, rfl, h1, h2, h3⟩ := h
    simp only [mFind] at hf
    split at hf
    · rename_i hq
      injection hf with hf
      subst hf
      obtain ⟨q1, q2⟩ := keyEq_spec hq hk h1
      obtain ⟨q3, q4⟩ := q2 rfl
      refine ⟨some (i, vu), by simp [Instr.findNow, q1], ⟨rfl, h2⟩, fun j v e' => ?_⟩
      injection e' with e'; injection e' with e1 e2
      subst e1
      exact ⟨Nat.le_refl _, ⟨ku, vu, e.2.2⟩, by simp, q3.symm, q4, by simp⟩
    · rename_i hq
      obtain ⟨q1, _⟩ := keyEq_spec hq hk h1
      obtain ⟨r', g1, g2, g3⟩ := mFind_spec hk h3 hf
      refine ⟨r', by simp [Instr.findNow, q1, g1], g2, fun j v e' => ?_⟩
      obtain ⟨a1, e2, a2, a3, a4, a5⟩ := g3 j v e'
      refine ⟨by omega, e2, ?_, a3, a4, by simp; omega⟩
      rw [show j - i = (j - (i + 1)) + 1 by omega]
      simpa using a2
    · cases hf
theorem run_findKey {d : TypeDesc} {k : TypeId} (hd : PP.underlying k = some d) {u : Value} {res : List MapEntry} {r : Option (Nat × Value)} (h : Instr.findNow d u res 0 = some r) (w : World) : (Instr.findKey k u res).run PP w = .ok r w := by
  simp only [Instr.findKey, Sem.run_bind, run_underlying hd, Result.andThen_ok, h, Sem.run_pure]

/-- a map that is known may be looked at -/
theorem look_mp {F G : Nat → Prop} {m : M} {S S' : St} {w : World} {id : Nat} {es : List (AV × AV × Nat)} {clock : Nat} (h : S.look id = some (.mp es clock, S')) (hf : Fits F G S') (hr : Rel F m S.h w) :
    Ev F G m m S S' w w ∧ id < 32768 ∧ H.get S'.h id = some (.mp es clock) ∧ ∃ L, m id = some L ∧ ∃ res : List MapEntry, w.heap[L.blk]? = some (.map res.toArray clock) ∧ EntR m es res := by
  obtain ⟨ab, h1, h2, h3, h4, _, hid⟩ := look_ab h
  refine ⟨⟨fun _ _ => rfl, Sub.rfl, by rw [h1]; exact hr, Nat.le_refl _, fun _ _ _ => rfl, fun _ _ a b => by omega, rfl, rfl, rfl⟩, hid, by rw [h1]; exact h3, ?_⟩
  exact hr.obj id _ hid (hf.1 id h4) h3
theorem run_getMap {w : World} {r : Nat} {es : Array MapEntry} {clock : Nat} (h : w.heap[r]? = some (.map es clock)) : (getObj r).run PP w = .ok (.map es clock) w := by
  simp only [getObj, Sem.run, h]
theorem run_setMap {w : World} {r : Nat} {es : Array MapEntry} {clock : Nat} (h : w.heap[r]? = some (.map es clock)) (o : Obj) : (setObj r o).run PP w = .ok () { w with heap := w.heap.setIfInBounds r o } := by
  simp only [setObj, Sem.run, h]

theorem mGot_ab {ok : Bool} {e : TypeId} {r : Option (Option (Nat × AV))} {S S' : St} {v : AV} (h : mGot ok e r S = some (v, S')) : S' = S := by
  unfold mGot at h
  split at h
  · cases h
  · injection h with h; injection h with _ h; exact h.symm
  · split at h
    · injection h with h; injection h with _ h; exact h.symm
    · cases h
theorem mGot_spec {ok : Bool} {e : TypeId} {r : Option (Nat × AV)} {S S' : St} {v : AV} (h : mGot ok e (some r) S = some (v, S')) {m : M} {r' : Option (Nat × Value)} (hr : FoundR m r r') (w : World) :
    ∃ u, (do
      let (v, o) ← (match r' with
        | some (_, v) => pure (v, true)
        | none => do pure (← zeroValue e, false) : Sem (Value × Bool))
      pure (if ok then .tuple #[v, .bool o] else v) : Sem Value).run PP w = .ok u w ∧ CR m v u := by
  unfold mGot at h
  cases r with
  | some p =>
    obtain ⟨i, x⟩ := p
    cases r' with
    | none => exact hr.elim
    | some q =>
      obtain ⟨j, y⟩ := q
      obtain ⟨_, hxy⟩ := hr
      injection h with h; injection h with h1 _
      cases ok with
      | true => subst h1; exact ⟨.tuple #[y, .bool true], by simp, [y, .bool true], rfl, y, _, rfl, hxy, _, _, rfl, rfl, rfl⟩
      | false => subst h1; exact ⟨y, by simp, hxy⟩
  | none =>
    cases r' with
    | some q => exact hr.elim
    | none =>
      simp only at h
      split at h
      · rename_i z hz
        obtain ⟨y, h2, h3⟩ := zeroA_spec hz
        injection h with h; injection h with h1 _
        cases ok with
        | true => subst h1; exact ⟨.tuple #[y, .bool false], by simp [h2], [y, .bool false], rfl, y, _, rfl, h3 m, _, _, rfl, rfl, rfl⟩
        | false => subst h1; exact ⟨y, by simp [h2], h3 m⟩
      · cases h

theorem aMapGet_spec {t : TypeId} {ok : Bool} {x k v : AV} {S S' : St} (h : aMapGet t ok x k S = some (v, S')) :
    Ab S S' ∧ ∀ (F G : Nat → Prop) (m : M) (w : World) (ux uk : Value), Fits F G S' → Free m S S' → Rel F m S.h w → CR m x ux → CR m k uk → VOk F G m S S' w (Instr.lookup t ux uk ok) v := by
  unfold aMapGet at h
  split at h
  · cases h
  · rename_i kt d e hm
    obtain ⟨hu, hd⟩ := mapT_spec hm
    have hcs := cond_some h; clear h; obtain ⟨hb, h⟩ := hcs
    split at h
    · have := mGot_ab h
      subst this
      refine ⟨Ab.rfl, fun F G m w ux uk hf hfree hr hx hk => ?_⟩
      simp only [CR] at hx; subst hx
      obtain ⟨u, h1, h2⟩ := mGot_spec h (m := m) (r' := none) trivial w
      refine ⟨m, w, u, Ev.rfl hr, ?_, h2⟩
      have hck := keyKind_check hd hb hk true w
      have hfk := run_findKey hd (u := uk) (res := []) (r := none) rfl w
      simp only [Instr.lookup, Sem.run_bind, run_underlying hu, Result.andThen_ok, Sem.run_pure]
      have he : (#[] : Array MapEntry).isEmpty = true := rfl
      rw [he, hck]
      simp only [Result.andThen_ok, hfk]
      simpa using h1
    · rename_i id
      split at h
      · rename_i es clock S1 hl
        obtain ⟨ab, hh, hn, _⟩ := look_ab hl
        cases hfind : mFind d k es 0 with
        | none => rw [hfind] at h; cases h
        | some r =>
          rw [hfind] at h
          have := mGot_ab h
          subst this
          refine ⟨ab, fun F G m w ux uk hf hfree hr hx hk => ?_⟩
          obtain ⟨ev, _, _, L, hL, res, hw, hent⟩ := look_mp hl hf hr
          simp only [CR] at hx
          obtain ⟨L', hL', rfl⟩ := hx
          rw [hL] at hL'
          injection hL' with hL'
          subst hL'
          obtain ⟨r', g1, g2, _⟩ := mFind_spec hk hent hfind
          obtain ⟨u, h1, h2⟩ := mGot_spec h g2 w
          refine ⟨m, w, u, ev, ?_, h2⟩
          have hck := keyKind_check hd hb hk res.toArray.isEmpty w
          have hfk := run_findKey hd g1 w
          simp only [Instr.lookup, Sem.run_bind, run_underlying hu, Result.andThen_ok, run_getMap hw, Sem.run_pure, hck, hfk]
          cases r' with
          | none => simpa using h1
          | some q =>
            obtain ⟨j, y⟩ := q
            simpa using h1
      · cases h
    · cases h

theorem EntR.set {m : M} {k v : AV} {ku vu : Value} (hk : CR m k ku) (hv : CR m v vu) : ∀ {es : List (AV × AV × Nat)} {res : List MapEntry} (i : Nat), EntR m es res →
    EntR m (es.modify i fun e => (k, v, e.2.2)) (res.modify i fun e => { e with key := ku, val := vu })
  | [], res, i, h => by simp only [EntR] at h; subst h; simp [EntR]
  | e :: es, res, 0, h => by
    obtain ⟨a, b, r, rfl, h1, h2, h3⟩ := h
    exact ⟨ku, vu, r, rfl, hk, hv, h3⟩
  | e :: es, res, i + 1, h => by
    obtain ⟨a, b, r, rfl, h1, h2, h3⟩ := h
    exact ⟨a, b, _, rfl, h1, h2, EntR.set hk hv i h3⟩
theorem EntR.push {m : M} {k v : AV} {ku vu : Value} {c : Nat} (hk : CR m k ku) (hv : CR m v vu) : ∀ {es : List (AV × AV × Nat)} {res : List MapEntry}, EntR m es res → EntR m (es ++ [(k, v, c)]) (res ++ [⟨ku, vu, c⟩])
  | [], res, h => by simp only [EntR] at h; subst h; exact ⟨ku, vu, [], rfl, hk, hv, rfl⟩
  | e :: es, res, h => by
    obtain ⟨a, b, r, rfl, h1, h2, h3⟩ := h
    exact ⟨a, b, _, rfl, h1, h2, EntR.push hk hv h3⟩
theorem EntR.erase {m : M} : ∀ {es : List (AV × AV × Nat)} {res : List MapEntry} (i : Nat), EntR m es res → EntR m (es.eraseIdx i) (res.eraseIdx i)
  | [], res, i, h => by simp only [EntR] at h; subst h; simp [EntR]
  | e :: es, res, 0, h => by
    obtain ⟨a, b, r, rfl, h1, h2, h3⟩ := h
    exact h3
  | e :: es, res, i + 1, h => by
    obtain ⟨a, b, r, rfl, h1, h2, h3⟩ := h
    exact ⟨a, b, _, rfl, h1, h2, EntR.erase i h3⟩
theorem EntR.length {m : M} : ∀ {es : List (AV × AV × Nat)} {res : List MapEntry}, EntR m es res → res.length = es.length
  | [], res, h => by simp only [EntR] at h; subst h; rfl
  | e :: es, res, h => by
    obtain ⟨a, b, r, rfl, h1, h2, h3⟩ := h
    simp [EntR.length h3]

theorem aMapSet_spec {t : TypeId} {x k v : AV} {S S' : St} (h : aMapSet t x k v S = some S') :
    Ab S S' ∧ ∀ (F G : Nat → Prop) (m : M) (w : World) (ux uk uv : Value), Fits F G S' → Free m S S' → Rel F m S.h w → CR m x ux → CR m k uk → CR m v uv →
      ∃ w', Ev F G m m S S' w w' ∧ (Instr.mapUpdate t ux uk uv).run PP w = .ok () w' := by
  unfold aMapSet at h
  split at h
  · rename_i kt d e id hm
    obtain ⟨hu, hd⟩ := mapT_spec hm
    have hcs := cond_some h; clear h; obtain ⟨hb, h⟩ := hcs
    split at h
    · rename_i es clock S1 hl
      obtain ⟨ab, hh, hn, hg0, _, _, hid⟩ := look_ab hl
      have hg : H.get S1.h id = some (.mp es clock) := by rw [hh]; exact hg0
      cases hfind : mFind d k es 0 with
      | none => rw [hfind] at h; cases h
      | some r =>
        rw [hfind] at h
        unfold mPut at h
        cases r with
        | some p =>
          obtain ⟨i, old⟩ := p
          simp only at h
          obtain ⟨ab2, _⟩ := put_ab h hid (by rw [hg]; rfl)
          refine ⟨ab.trans ab2, fun F G m w ux uk uv hf hfree hr hx hk hv => ?_⟩
          obtain ⟨ev, _, _, L, hL, res, hw, hent⟩ := look_mp hl (hf.back ab2) hr
          simp only [CR] at hx
          obtain ⟨L', hL', rfl⟩ := hx
          rw [hL] at hL'
          injection hL' with hL'
          subst hL'
          obtain ⟨r', g1, g2, g3⟩ := mFind_spec hk hent hfind
          cases r' with
          | none => exact g2.elim
          | some q =>
            obtain ⟨j, y⟩ := q
            obtain ⟨rfl, _⟩ := g2
            obtain ⟨_, e', a2, a3, a4, _⟩ := g3 i y rfl
            simp only [Nat.sub_zero] at a2
            have hlt := (Array.getElem?_eq_some_iff.1 hw).1
            have ev2 := put_gen hid h hf hg ev.rel hL hlt (.map (res.modify i fun e => { e with key := uk, val := uv }).toArray clock) (fun w' hw' => ⟨_, hw', EntR.set hk hv i hent⟩)
            refine ⟨_, ev.trans ev2 ab.nx ab2.nx, ?_⟩
            have hck := keyKind_check hd hb hk false w
            have hfk := run_findKey hd g1 w
            have hstay : (Instr.keyThatStays e'.key uk).run PP w = .ok uk w := by unfold Instr.keyThatStays; rw [if_pos a4]; rfl
            simp only [Instr.mapUpdate, Sem.run_bind, run_underlying hu, Result.andThen_ok, run_getMap hw, hck, hfk, List.getElem?_toArray, a2, Option.map_some, Option.getD_some, hstay, run_setMap hw, List.toList_toArray]
            simp
        | none =>
          simp only at h
          obtain ⟨ab2, _⟩ := put_ab h hid (by rw [hg]; rfl)
          refine ⟨ab.trans ab2, fun F G m w ux uk uv hf hfree hr hx hk hv => ?_⟩
          obtain ⟨ev, _, _, L, hL, res, hw, hent⟩ := look_mp hl (hf.back ab2) hr
          simp only [CR] at hx
          obtain ⟨L', hL', rfl⟩ := hx
          rw [hL] at hL'
          injection hL' with hL'
          subst hL'
          obtain ⟨r', g1, g2, g3⟩ := mFind_spec hk hent hfind
          cases r' with
          | some q => exact g2.elim
          | none =>
            have hlt := (Array.getElem?_eq_some_iff.1 hw).1
            have ev2 := put_gen hid h hf hg ev.rel hL hlt (.map (res ++ [(⟨uk, uv, clock⟩ : MapEntry)]).toArray (clock + 1)) (fun w' hw' => ⟨_, hw', EntR.push hk hv hent⟩)
            refine ⟨_, ev.trans ev2 ab.nx ab2.nx, ?_⟩
            have hck := keyKind_check hd hb hk false w
            have hfk := run_findKey hd g1 w
            simp only [Instr.mapUpdate, Sem.run_bind, run_underlying hu, Result.andThen_ok, run_getMap hw, hck, hfk, run_setMap hw, List.toList_toArray, List.push_toArray]
    · cases h
  · cases h

theorem aMapDel_spec {t : TypeId} {x k : AV} {S S' : St} (h : aMapDel t x k S = some S') (tys : List TypeId) (ty : TypeId) :
    Ab S S' ∧ ∀ (F G : Nat → Prop) (m : M) (w : World) (ux uk : Value), Fits F G S' → Free m S S' → Rel F m S.h w → CR m x ux → CR m k uk →
      ∃ w', Ev F G m m S S' w w' ∧ (Builtin.delete_ (t :: tys).toArray ty #[ux, uk]).run PP w = .ok (.tuple #[]) w' := by
  unfold aMapDel at h
  split at h
  · rename_i kt d e id hm
    obtain ⟨hu, hd⟩ := mapT_spec hm
    have hcs := cond_some h; clear h; obtain ⟨hb, h⟩ := hcs
    split at h
    · rename_i es clock S1 hl
      obtain ⟨ab, hh, hn, hg0, _, _, hid⟩ := look_ab hl
      have hg : H.get S1.h id = some (.mp es clock) := by rw [hh]; exact hg0
      cases hfind : mFind d k es 0 with
      | none => rw [hfind] at h; cases h
      | some r =>
        rw [hfind] at h
        unfold mDel at h
        cases r with
        | some p =>
          obtain ⟨i, old⟩ := p
          simp only at h
          obtain ⟨ab2, _⟩ := put_ab h hid (by rw [hg]; rfl)
          refine ⟨ab.trans ab2, fun F G m w ux uk hf hfree hr hx hk => ?_⟩
          obtain ⟨ev, _, _, L, hL, res, hw, hent⟩ := look_mp hl (hf.back ab2) hr
          simp only [CR] at hx
          obtain ⟨L', hL', rfl⟩ := hx
          rw [hL] at hL'
          injection hL' with hL'
          subst hL'
          obtain ⟨r', g1, g2, g3⟩ := mFind_spec hk hent hfind
          cases r' with
          | none => exact g2.elim
          | some q =>
            obtain ⟨j, y⟩ := q
            obtain ⟨rfl, _⟩ := g2
            have hlt := (Array.getElem?_eq_some_iff.1 hw).1
            have ev2 := put_gen hid h hf hg ev.rel hL hlt (.map (res.eraseIdx i).toArray clock) (fun w' hw' => ⟨_, hw', EntR.erase i hent⟩)
            refine ⟨_, ev.trans ev2 ab.nx ab2.nx, ?_⟩
            have hck := keyKind_check hd hb hk res.toArray.isEmpty w
            have hfk := run_findKey hd g1 w
            simp only [Builtin.delete_, List.getElem?_toArray, List.getElem?_cons_zero, List.getElem?_cons_succ, Sem.run_bind, run_underlying hu, Result.andThen_ok, run_getMap hw, hck, hfk, run_setMap hw, List.toList_toArray, Sem.run_pure]
            simp
        | none =>
          simp only at h
          obtain ⟨ab2, _⟩ := put_ab h hid (by rw [hg]; rfl)
          refine ⟨ab.trans ab2, fun F G m w ux uk hf hfree hr hx hk => ?_⟩
          obtain ⟨ev, _, _, L, hL, res, hw, hent⟩ := look_mp hl (hf.back ab2) hr
          simp only [CR] at hx
          obtain ⟨L', hL', rfl⟩ := hx
          rw [hL] at hL'
          injection hL' with hL'
          subst hL'
          obtain ⟨r', g1, g2, g3⟩ := mFind_spec hk hent hfind
          cases r' with
          | some q => exact g2.elim
          | none =>
            have hlt := (Array.getElem?_eq_some_iff.1 hw).1
            have ev2 := put_gen hid h hf hg ev.rel hL hlt (.map res.toArray clock) (fun w' hw' => ⟨_, hw', hent⟩)
            refine ⟨_, ev.trans ev2 ab.nx ab2.nx, ?_⟩
            have hck := keyKind_check hd hb hk res.toArray.isEmpty w
            have hfk := run_findKey hd g1 w
            simp only [Builtin.delete_, List.getElem?_toArray, List.getElem?_cons_zero, List.getElem?_cons_succ, Sem.run_bind, run_underlying hu, Result.andThen_ok, run_getMap hw, hck, hfk, run_setMap hw, List.toList_toArray, Sem.run_pure]
    · cases h
  · cases h

theorem aMakeMap_spec {S S' : St} {v : AV} (h : aMakeMap S = some (v, S')) :
    Ab S S' ∧ ∀ (F G : Nat → Prop) (m : M) (w : World), Fits F G S' → Free m S S' → Rel F m S.h w →
      ∃ m', Ev F G m m' S S' w (w.alloc (.map #[] 0)) ∧ CR m' v (.map (some w.heap.size)) := by
  unfold aMakeMap at h
  split at h
  · rename_i id S1 hn
    injection h with h; injection h with h1 h2; subst h2; subst h1
    obtain ⟨ab, _, hnx, hid, _⟩ := new_ab hn
    refine ⟨ab, fun F G m w hf hfree hr => ?_⟩
    obtain ⟨ev, hm⟩ := new_gen hn hf (hfree id (by omega) (by omega)) hr (.map #[] 0) (fun m' w' hs hw => ⟨[], hw, rfl⟩)
    exact ⟨_, ev, ⟨w.heap.size, 0, 0⟩, hm, rfl⟩
  · cases h

theorem aMapLen_spec {t kt e : TypeId} (hu : PP.underlying t = some (.map kt e)) {x v : AV} {S S' : St} (h : aMapLen x S = some (v, S')) (tys : List TypeId) (ty : TypeId) :
    Ab S S' ∧ ∀ (F G : Nat → Prop) (m : M) (w : World) (u : Value), Fits F G S' → Free m S S' → Rel F m S.h w → CR m x u → VOk F G m S S' w (Builtin.len_ (t :: tys).toArray ty #[u]) v := by
  unfold aMapLen at h
  split at h
  · injection h with h; injection h with h1 h2; subst h2; subst h1
    refine ⟨Ab.rfl, fun F G m w u hf hfree hr hx => ?_⟩
    simp only [CR] at hx; subst hx
    exact ⟨m, w, _, Ev.rfl hr, by simp [Builtin.len_, run_underlying hu, goInt], rfl⟩
  · rename_i id
    split at h
    · rename_i es clock S1 hl
      injection h with h; injection h with h1 h2; subst h2; subst h1
      obtain ⟨ab, hh, hn, _⟩ := look_ab hl
      refine ⟨ab, fun F G m w u hf hfree hr hx => ?_⟩
      obtain ⟨ev, _, _, L, hL, res, hw, hent⟩ := look_mp hl hf hr
      simp only [CR] at hx
      obtain ⟨L', hL', rfl⟩ := hx
      rw [hL] at hL'
      injection hL' with hL'
      subst hL'
      refine ⟨m, w, .int .i64 res.length, ev, ?_, by rw [hent.length]; rfl⟩
      simp [Builtin.len_, run_underlying hu, goInt, run_getMap hw]
    · cases h
  · cases h
end Rn
end Go.Proofs.Ytgfcakdpfedokaa
