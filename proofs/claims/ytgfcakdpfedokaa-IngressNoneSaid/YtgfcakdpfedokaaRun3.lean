/- The runner's slices, loads, stores and new blocks are the model's. -/
import Derived.Test.YtgfcakdpfedokaaRun2
import Derived.IntWalk
namespace Go.Proofs.Ytgfcakdpfedokaa
namespace Rn
set_option linter.unusedVariables false
set_option linter.unusedSimpArgs false

/-! slicing -/
def CRO (m : M) : Option AV → Option Value → Prop
  | none, none => True
  | some x, some v => CR m x v
  | _, _ => False
theorem CRO_of {m : M} {nt : Nat} {tm : T AV} {a : Act} (ht : Tm m nt tm a) {o : Option Operand} {l : List AV} (h : evalL o.toList tm = some l) : CRO m l.head? (o.map a.eval) := by
  cases o with
  | none => injection h with h; subst h; trivial
  | some o =>
    have hc := evalL_spec ht h
    cases l with
    | nil => simp only [CRL, Option.toList, List.map_cons, List.map_nil] at hc; cases hc
    | cons x l =>
      simp only [CRL, Option.toList, List.map_cons, List.map_nil] at hc
      obtain ⟨y, r, e, h1, h2⟩ := hc
      injection e with e1 e2
      subst e1
      exact h1
theorem optN_spec {m : M} {d n : Nat} {x : Option AV} {v : Option Value} (h : optN d x = some n) (hx : CRO m x v) :
    (x = none ∧ v = none ∧ n = d) ∨ ∃ k i, v = some (.int k i) ∧ 0 ≤ i ∧ i.toNat = n := by
  unfold optN at h
  split at h
  · injection h with h
    cases v with
    | none => exact .inl ⟨rfl, rfl, h.symm⟩
    | some v => exact hx.elim
  · rename_i k i
    cases v with
    | none => exact hx.elim
    | some v =>
      simp only [CRO, CR] at hx
      subst hx
      cases hb : decide (0 ≤ i) with
      | false => rw [hb] at h; cases h
      | true =>
        rw [hb] at h
        injection h with h
        exact .inr ⟨k, i, rfl, by simpa using hb, h⟩
  · cases h
theorem optS_spec {m : M} {n : Nat} {x : Option AV} {v : Option Value} (h : optS x = some n) (hx : CRO m x v) :
    ∃ k i, v = some (.int k i) ∧ 0 ≤ i ∧ i.toNat = n := by
  unfold optS at h
  split at h
  · rename_i k i
    cases v with
    | none => exact hx.elim
    | some v =>
      simp only [CRO, CR] at hx
      subst hx
      cases hb : decide (0 ≤ i) with
      | false => rw [hb] at h; cases h
      | true =>
        rw [hb] at h
        injection h with h
        exact ⟨k, i, rfl, by simpa using hb, h⟩
  · cases h
theorem run_bound (k : IntKind) (i : Int) (y : Nat) (code : BoundsCode) (h0 : 0 ≤ i) (h : i.toNat ≤ y) (w : World) : (Instr.sliceBound (.int k i) y code).run PP w = .ok i.toNat w := by
  have : 0 ≤ i ∧ i ≤ (y : Int) := ⟨h0, by omega⟩
  simp [Instr.sliceBound, asIntOf, this]
theorem run_bounds2 {m : M} {isS : Bool} {len cap h l : Nat} {lo hi : Option AV} {vlo vhi : Option Value} (hh : optN len hi = some h) (hl : optN 0 lo = some l)
    (ch : CRO m hi vhi) (cl : CRO m lo vlo) (h1 : l ≤ h) (h2 : h ≤ cap) (w : World) : (Instr.sliceBounds isS len cap vlo vhi none).run PP w = .ok (l, h, cap) w := by
  rcases optN_spec hh ch with ⟨_, rfl, rfl⟩ | ⟨k, i, rfl, hi0, rfl⟩ <;> rcases optN_spec hl cl with ⟨_, rfl, rfl⟩ | ⟨k', i', rfl, hi0', rfl⟩
  · simp [Instr.sliceBounds]
  · simp [Instr.sliceBounds, run_bound _ _ _ _ hi0' h1]
  · simp [Instr.sliceBounds, run_bound _ _ _ _ hi0 h2]
  · simp [Instr.sliceBounds, run_bound _ _ _ _ hi0 h2, run_bound _ _ _ _ hi0' h1]
theorem run_bounds3 {m : M} {len cap mm h l : Nat} {lo hi mx : Option AV} {vlo vhi vmx : Option Value} (hm : optS mx = some mm) (hh : optS hi = some h) (hl : optN 0 lo = some l)
    (cm : CRO m mx vmx) (ch : CRO m hi vhi) (cl : CRO m lo vlo) (h1 : l ≤ h) (h2 : h ≤ mm) (h3 : mm ≤ cap) (w : World) :
    (Instr.sliceBounds true len cap vlo vhi vmx).run PP w = .ok (l, h, mm) w := by
  obtain ⟨k1, i1, rfl, p1, rfl⟩ := optS_spec hm cm
  obtain ⟨k2, i2, rfl, p2, rfl⟩ := optS_spec hh ch
  rcases optN_spec hl cl with ⟨_, rfl, rfl⟩ | ⟨k', i', rfl, hi0', rfl⟩
  · simp [Instr.sliceBounds, run_bound _ _ _ _ p1 h3, run_bound _ _ _ _ p2 h2]
  · simp [Instr.sliceBounds, run_bound _ _ _ _ p1 h3, run_bound _ _ _ _ p2 h2, run_bound _ _ _ _ hi0' h1]
theorem ble_spec {a b : Nat} (h : Nat.ble a b = true) : a ≤ b := Nat.le_of_ble_eq_true h

theorem aSlice_spec {m : M} {t : TypeId} {x v : AV} {lo hi mx : Option AV} (h : aSlice t x lo hi mx = some v) {u : Value} {vlo vhi vmx : Option Value}
    (hx : CR m x u) (cl : CRO m lo vlo) (ch : CRO m hi vhi) (cm : CRO m mx vmx) (w : World) :
    ∃ y, (Instr.sliceAt t u vlo vhi vmx).run PP w = .ok y w ∧ CR m v y := by
  unfold aSlice at h
  split at h
  · rename_i s hu
    simp only [CR] at hx; subst hx
    split at h
    · cases h
    · cases vmx with
      | some _ => exact cm.elim
      | none =>
        split at h
        · rename_i hh ll h1 h2
          cases hb : (Nat.ble ll hh && Nat.ble hh s.size) with
          | false => rw [hb] at h; cases h
          | true =>
            rw [hb] at h
            injection h with h; subst h
            simp only [Bool.and_eq_true] at hb
            have hr := run_bounds2 (isS := false) h1 h2 ch cl (ble_spec hb.1) (ble_spec hb.2) w
            exact ⟨_, by simp [Instr.sliceAt, Instr.slice, run_underlying hu, hr], rfl⟩
        · cases h
  · rename_i e hu
    simp only [CR] at hx; subst hx
    split at h
    · rename_i _ _ _ _ sz hsz h1 h2
      injection h with h; subst h
      cases vmx with
      | some _ => exact cm.elim
      | none =>
        have hr := run_bounds2 (isS := true) h1 h2 ch cl (Nat.le_refl _) (Nat.le_refl 0) w
        exact ⟨.slice none 0 0, by simp [Instr.sliceAt, Instr.slice, run_underlying hu, hr, run_sz hsz], rfl⟩
    · cases h
  · rename_i e id off hu
    simp only [CR] at hx
    obtain ⟨L, a, c, hL, rfl, ha, hs, hc⟩ := hx
    split at h
    · rename_i _ _ _ _ sz hsz h1 h2
      injection h with h; subst h
      cases vmx with
      | some _ => exact cm.elim
      | none =>
        have hr := run_bounds2 (isS := true) h1 h2 ch cl (Nat.le_refl _) (Nat.zero_le c) w
        have ha0 : a.add 0 = a := by simp [Addr.add]
        refine ⟨.slice (some a) 0 c, ?_, L, a, c, hL, rfl, ha, hs, hc⟩
        by_cases hz : c = 0
        · subst hz
          simp [Instr.sliceAt, Instr.slice, run_underlying hu, hr, run_sz hsz]
        · simp [Instr.sliceAt, Instr.slice, run_underlying hu, hr, run_sz hsz, hz, ha0]
    · cases h
  · rename_i e id off len cap op hu
    simp only [CR] at hx
    obtain ⟨L, hL, rfl⟩ := hx
    split at h
    · cases h
    · rename_i sz hsz
      split at h
      · split at h
        · rename_i mm hh ll h0 h1 h2
          cases hb : (Nat.ble ll hh && Nat.ble hh mm && Nat.ble mm cap) with
          | false => rw [hb] at h; cases h
          | true =>
            rw [hb] at h
            injection h with h; subst h
            simp only [Bool.and_eq_true] at hb
            have hr := run_bounds3 (len := len) (cap := cap + (if op then L.ext else 0)) h0 h1 h2 cm ch cl (ble_spec hb.1.1) (ble_spec hb.1.2) (by have := ble_spec hb.2; omega) w
            by_cases hml : mm = ll
            · subst hml
              refine ⟨.slice (some ⟨L.blk, L.base + off, none⟩) (hh - mm) 0, ?_, L, hL, ?_⟩
              · simp [Instr.sliceAt, Instr.slice, run_underlying hu, hr, run_sz hsz]
              · simp
            · have hml' : Nat.beq mm ll = false := by
                cases hq : Nat.beq mm ll with
                | false => rfl
                | true => exact absurd (Nat.eq_of_beq_eq_true hq) hml
              refine ⟨.slice (some ⟨L.blk, L.base + off + ll * sz, none⟩) (hh - ll) (mm - ll), ?_, L, hL, ?_⟩
              · simp [Instr.sliceAt, Instr.slice, run_underlying hu, hr, run_sz hsz, hml, addr_add]
              · rw [hml']; simp [Nat.add_assoc]
        · cases h
      · cases vmx with
        | some _ => exact cm.elim
        | none =>
        split at h
        · rename_i hh ll h1 h2
          cases hb : (Nat.ble ll hh && Nat.ble hh cap) with
          | false => rw [hb] at h; cases h
          | true =>
            rw [hb] at h
            simp only [Bool.and_eq_true, cond_true] at hb h
            have b1 := ble_spec hb.1
            have b2 := ble_spec hb.2
            have hr := run_bounds2 (isS := true) (cap := cap + (if op then L.ext else 0)) h1 h2 ch cl b1 (by omega) w
            cases hc : Nat.beq ll cap with
            | false =>
              rw [hc] at h
              injection h with h; subst h
              have hne : ll ≠ cap := Nat.ne_of_beq_eq_false hc
              have hne2 : ¬ (cap + (if op then L.ext else 0) = ll) := by omega
              refine ⟨.slice (some ⟨L.blk, L.base + off + ll * sz, none⟩) (hh - ll) (cap + (if op then L.ext else 0) - ll), ?_, L, hL, ?_⟩
              · simp only [Instr.sliceAt, Instr.slice, Sem.run_bind, run_underlying hu, Result.andThen_ok, hr, run_sz hsz, if_neg hne2, Option.map_some, Sem.run_pure, addr_add]
              · rw [show cap + (if op then L.ext else 0) - ll = cap - ll + (if op then L.ext else 0) by omega, Nat.add_assoc]
            | true =>
              rw [hc] at h
              have he : ll = cap := Nat.eq_of_beq_eq_true hc
              subst he
              have hhl : hh = ll := by omega
              subst hhl
              cases op with
              | false =>
                injection h with h; subst h
                simp only [Bool.false_eq_true, if_false, Nat.add_zero] at hr
                refine ⟨.slice (some ⟨L.blk, L.base + off, none⟩) 0 0, ?_, L, hL, ?_⟩
                · simp [Instr.sliceAt, Instr.slice, run_underlying hu, hr, run_sz hsz]
                · simp
              | true =>
                injection h with h; subst h
                simp only [if_true] at hr
                by_cases hz : L.ext = 0
                · refine ⟨.slice (some ⟨L.blk, L.base + off, none⟩) 0 0, ?_, L, ⟨L.blk, L.base + off, none⟩, 0, hL, rfl, rfl, rfl, .inl rfl⟩
                  rw [hz, Nat.add_zero] at hr
                  simp [Instr.sliceAt, Instr.slice, run_underlying hu, hr, run_sz hsz, hz]
                · have hne2 : ¬ (hh + L.ext = hh) := by omega
                  refine ⟨.slice (some ⟨L.blk, L.base + off + hh * sz, none⟩) 0 L.ext, ?_, L, ⟨L.blk, L.base + off + hh * sz, none⟩, L.ext, hL, rfl, rfl, rfl, .inr ⟨by simp [Nat.add_assoc], rfl⟩⟩
                  simp only [Instr.sliceAt, Instr.slice, Sem.run_bind, run_underlying hu, Result.andThen_ok, hr, run_sz hsz, if_true, if_neg hne2, Option.map_some, Sem.run_pure, addr_add, Nat.sub_self, Nat.add_sub_cancel_left]
        · cases h
  · cases h
end Rn
end Go.Proofs.Ytgfcakdpfedokaa
