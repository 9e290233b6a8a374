/- The runner's regions without a draw are the model's. -/
import Derived.Test.YtgfcakdpfedokaaRun6
import Derived.TacticsIn
import Derived.OrdersIn
import Derived.RangeFuncLeaves
import Derived.RangeFuncRecord
namespace Go.Proofs.Ytgfcakdpfedokaa
namespace Rn
set_option linter.unusedVariables false
set_option linter.unusedSimpArgs false

/-- the widest fence, for a function's own frame or a round's -/
def FW (r : Option Nat) : Fence := { Fence.wide with round := r }
theorem FW_depth {r : Option Nat} {p : Prop} : (FW r).depth.isSome = true → p := fun h => by cases h

/-- what is known of a call -/
def CallSnd (call : CallF) : Prop := ∀ (g : Tgt) (args : List AV) (S S' : St) (v : AV), call g args S = some (v, S') →
  Ab S S' ∧ ∀ (F G : Nat → Prop) (m : M) (w : World) (vs : List Value) (R : Ending → World → Prop), Fits F G S' → Free m S S' → Rel F m S.h w → CRL m args vs →
    (∀ m' u w', Ev F G m m' S S' w w' → CR m' v u → R (.returned u) w') →
    match g with
    | .fn f => CallsIn (FW none) 0 PP f vs.toArray w R
    | .yd id => ∀ L, m id = some L → ∃ fn tmps assign body, (Instr.yield L.blk vs.toArray).run PP w = .ok (.round L.blk fn tmps assign body) w ∧ RoundIn (FW none) 0 PP L.blk fn tmps assign body w R

/-- one operation within a region -/
def opWp (r : Option Nat) (ops : Array Oper) (o : Oper) (K : Act → World → Prop) (Q : Exit → Act → World → Prop) (a : Act) (w : World) : Prop :=
  if Region.wanted o (yielded ops a.tmps) then o.wpIn (FW r) 0 PP a w K Q else K (a.put o.dst undef) w

theorem aOp_noDefer {o : Oper} {tm : T AV} {S : St} (h : aOp o.op tm S ≠ .no) (c : Call) : o.op ≠ .defer c := by
  intro e
  rw [e] at h
  exact h rfl

theorem valIn_spec {call : CallF} (hc : CallSnd call) {nt : Nat} {o : Oper} {tm : T AV} {S S' : St} {v : AV} (h : valIn call (aOp o.op tm S) = some (v, S')) :
    Ab S S' ∧ ∀ (r : Option Nat) (F G : Nat → Prop) (m : M) (w : World) (a : Act) (K : Act → World → Prop) (Q : Exit → Act → World → Prop), Fits F G S' → Free m S S' → Rel F m S.h w → Tm m nt tm a →
      (∀ m' u w', Ev F G m m' S S' w w' → CR m' v u → K (a.put o.dst u) w') → o.wpIn (FW r) 0 PP a w K Q := by
  obtain ⟨hab, hok⟩ := aOp_st nt o tm S
  have hnd : ∀ c, o.op ≠ .defer c := aOp_noDefer (tm := tm) (S := S) fun e => by rw [e] at h; cases h
  have hsem : ∀ (r : Option Nat) (a : Act), o.semAt r a.eval = execOp a.eval o := fun r a => Oper.semAt_eq r a.eval o hnd
  cases hr : aOp o.op tm S with
  | no => rw [hr] at h; cases h
  | val v' S1 =>
    rw [hr] at h hab hok
    injection h with h; injection h with h1 h2; subst h1; subst h2
    refine ⟨hab, fun r F G m w a K Q hf hfree hrl ht hK => ⟨fun _ _ => trivial, ?_⟩⟩
    obtain ⟨m', w', u, ev, hcr, hrun⟩ := hok F G m w hf hfree hrl a ht
    rw [hsem]
    rcases hrun with hrun | ⟨hrun, rfl⟩
    · rw [hrun]; exact hK m' u w' ev hcr
    · rw [hrun]; exact hK m' undef w' ev hcr
  | enter g args S1 =>
    rw [hr] at h hab hok
    simp only [ResAb] at hab
    subst hab
    obtain ⟨ab, hs⟩ := hc g args S1 S' v h
    refine ⟨ab, fun r F G m w a K Q hf hfree hrl ht hK => ⟨fun _ _ => trivial, ?_⟩⟩
    rw [hsem]
    cases g with
    | fn f =>
      obtain ⟨vs, hcr, hrun, _⟩ := hok F G m w (hf.back ab) (fun k h1 h2 => absurd h1 (Nat.not_le.2 h2)) hrl a ht
      rw [hrun]
      exact ⟨FW_depth, hs F G m w vs (fun | .returned v, w'' => K (a.put o.dst v) w'' | .panicked chain, w'' => Q (.panic chain) a w'' | .outgrown, _ => LetsOut Q) hf hfree hrl hcr fun m' u w' ev hcu => hK m' u w' ev hcu⟩
    | yd id =>
      obtain ⟨vs, L, hcr, hL, hrun, _⟩ := hok F G m w (hf.back ab) (fun k h1 h2 => absurd h1 (Nat.not_le.2 h2)) hrl a ht
      obtain ⟨fn, tmps, assign, body, hy, hround⟩ := hs F G m w vs (fun | .returned v, w'' => K (a.put o.dst v) w'' | .panicked chain, w'' => Q (.panic chain) a w'' | .outgrown, _ => LetsOut Q) hf hfree hrl hcr (fun m' u w' ev hcu => hK m' u w' ev hcu) L hL
      rw [hrun, hy]
      exact ⟨FW_depth, hround⟩

theorem valOp_spec {call : CallF} (hc : CallSnd call) {ops : Array Oper} {nt : Nat} {o : Oper} {tm : T AV} {S S' : St} {v : AV} (h : valOp call ops o tm S = some (v, S')) :
    Ab S S' ∧ ∀ (r : Option Nat) (F G : Nat → Prop) (m : M) (w : World) (a : Act) (K : Act → World → Prop) (Q : Exit → Act → World → Prop), Fits F G S' → Free m S S' → Rel F m S.h w → Tm m nt tm a →
      (∀ m' u w', Ev F G m m' S S' w w' → CR m' v u → K (a.put o.dst u) w') → opWp r ops o K Q a w := by
  unfold valOp at h
  cases hg : o.guard with
  | none =>
    rw [hg] at h
    obtain ⟨ab, hs⟩ := valIn_spec (nt := nt) hc h
    refine ⟨ab, fun r F G m w a K Q hf hfree hr ht hK => ?_⟩
    unfold opWp
    rw [if_pos (by simp [Region.wanted, hg])]
    exact hs r F G m w a K Q hf hfree hr ht hK
  | some p =>
    obtain ⟨j, b⟩ := p
    rw [hg] at h
    change guardG ops j b tm (valIn call (aOp o.op tm S)) (some (.tup [], S)) = _ at h
    unfold guardG at h
    split at h
    · cases h
    · rename_i d hd
      unfold guardB at h
      split at h
      · rename_i x hx
        have hyield : ∀ {m : M} {a : Act}, Tm m nt tm a → yielded ops a.tmps j = some x := by
          intro m a ht
          obtain ⟨u, h1, h2⟩ := getO_spec hx ht
          simp only [CR] at h2
          subst h2
          unfold guardD at hd
          simp [yielded, hd, h1]
        cases hb : (x == b) with
        | true =>
          rw [hb] at h
          simp only [cond_true] at h
          obtain ⟨ab, hs⟩ := valIn_spec (nt := nt) hc h
          refine ⟨ab, fun r F G m w a K Q hf hfree hr ht hK => ?_⟩
          unfold opWp
          rw [if_pos (by simp only [Region.wanted, hg, hyield ht]; simpa using hb)]
          exact hs r F G m w a K Q hf hfree hr ht hK
        | false =>
          rw [hb] at h
          injection h with h; injection h with h1 h2; subst h1; subst h2
          refine ⟨Ab.rfl, fun r F G m w a K Q hf hfree hr ht hK => ?_⟩
          unfold opWp
          rw [if_neg (by simp only [Region.wanted, hg, hyield ht]; simpa using hb)]
          exact hK m undef w (Ev.rfl hr) ⟨[], rfl, rfl⟩
      · rename_i l hx
        injection h with h; injection h with h1 h2; subst h1; subst h2
        refine ⟨Ab.rfl, fun r F G m w a K Q hf hfree hr ht hK => ?_⟩
        obtain ⟨u, h1, h2⟩ := getO_spec hx ht
        simp only [CR] at h2
        obtain ⟨us, rfl, _⟩ := h2
        have hy : yielded ops a.tmps j = none := by
          unfold guardD at hd
          simp [yielded, hd, h1]
        unfold opWp
        rw [if_neg (by simp [Region.wanted, hg, hy])]
        exact hK m undef w (Ev.rfl hr) ⟨[], rfl, rfl⟩
      · cases h

noncomputable def setT (tm : T AV) (d : Option Tmp) (v : AV) : T AV := match d with
  | some k => T.set tm k (some v)
  | none => tm
theorem putT_spec {nt : Nat} {d : Option Tmp} {v : AV} {tm tm' : T AV} {S S' : St} (h : putT nt d v tm S = .ok tm' S') :
    S' = S ∧ (∀ k, d = some k → k < nt) ∧ tm' = setT tm d v := by
  cases d with
  | none => injection h with h1 h2; exact ⟨h2.symm, (fun _ e => by cases e), h1.symm⟩
  | some k =>
    change putS nt k v tm S = _ at h
    unfold putS at h
    cases hb : Nat.blt k nt with
    | false => rw [hb] at h; cases h
    | true =>
      rw [hb] at h
      injection h with h1 h2
      exact ⟨h2.symm, (fun k' e => by injection e with e; subst e; exact blt_spec hb), h1.symm⟩
theorem runOp_spec {call : CallF} {ops : Array Oper} {nt : Nat} {o : Oper} {tm tm' : T AV} {S S' : St} (h : runOp call ops nt o tm S = .ok tm' S') :
    ∃ v, valOp call ops o tm S = some (v, S') ∧ (∀ k, o.dst = some k → k < nt) ∧ tm' = setT tm o.dst v := by
  unfold runOp at h
  cases hv : valOp call ops o tm S with
  | none => rw [hv] at h; cases h
  | some p =>
    obtain ⟨v, S1⟩ := p
    rw [hv] at h
    obtain ⟨rfl, h2, h3⟩ := putT_spec (show putT nt o.dst v tm S1 = .ok tm' S' from h)
    exact ⟨v, rfl, h2, h3⟩
theorem Tm.put' {m : M} {nt : Nat} {tm : T AV} {a : Act} (h : Tm m nt tm a) (hnt : nt ≤ 511) {d : Option Tmp} {v : AV} {u : Value} (hd : ∀ k, d = some k → k < nt) (hv : CR m v u) :
    Tm m nt (setT tm d v) (a.put d u) := by
  cases d with
  | none => exact h
  | some k => exact h.put (hd k rfl) hnt hv

/-- a region in its text's order -/
theorem runOps_spec {call : CallF} (hc : CallSnd call) {ops : Array Oper} {nt : Nat} (hnt : nt ≤ 511) : ∀ {l : List Oper} {tm tm' : T AV} {S S' : St}, runOps call ops nt l tm S = .ok tm' S' →
    Ab S S' ∧ ∀ (r : Option Nat) (F G : Nat → Prop) (m : M) (w : World) (a : Act) (Q : Exit → Act → World → Prop), Fits F G S' → Free m S S' → Rel F m S.h w → Tm m nt tm a →
      (∀ m' a' w', Ev F G m m' S S' w w' → Tm m' nt tm' a' → Q .normal a' w') → wpListIn (FW r) 0 PP ops Q l a w
  | [], tm, tm', S, S', h => by
    injection h with h1 h2; subst h1; subst h2
    exact ⟨Ab.rfl, fun r F G m w a Q hf hfree hr ht hQ => hQ m a w (Ev.rfl hr) ht⟩
  | o :: l, tm, tm', S, S', h => by
    change thenOps (runOps call ops nt l) (runOp call ops nt o tm S) = _ at h
    cases hr : runOp call ops nt o tm S with
    | no => rw [hr] at h; cases h
    | ok tm1 S1 =>
      rw [hr] at h
      change runOps call ops nt l tm1 S1 = _ at h
      obtain ⟨v, hv, hd, ht1⟩ := runOp_spec hr
      obtain ⟨ab1, hs1⟩ := valOp_spec (nt := nt) hc hv
      obtain ⟨ab2, hs2⟩ := runOps_spec hc hnt h
      refine ⟨ab1.trans ab2, fun r F G m w a Q hf hfree hrl ht hQ => ?_⟩
      have f1 := hf.back ab2
      have := hs1 r F G m w a (wpListIn (FW r) 0 PP ops Q l) Q f1 (fun k h1 h2 => hfree k h1 (Nat.lt_of_lt_of_le h2 ab2.nx)) hrl ht fun m' u w' ev hcr => by
        refine hs2 r F G m' w' _ Q hf (fun k h1 h2 => ?_) ev.rel (by subst ht1; exact (ht.mono ev.sub).put' hnt hd hcr) fun m'' a' w'' ev2 ht2 => hQ m'' a' w'' (ev.trans ev2 ab1.nx ab2.nx) ht2
        rw [ev.old k (.inr h1)]
        exact hfree k (Nat.le_trans ab1.nx h1) h2
      unfold opWp at this
      unfold wpListIn
      split
      · rename_i hw; rw [if_pos hw] at this; exact this
      · rename_i hw; rw [if_neg hw] at this; exact ⟨fun _ _ => trivial, this⟩
end Rn
end Go.Proofs.Ytgfcakdpfedokaa
