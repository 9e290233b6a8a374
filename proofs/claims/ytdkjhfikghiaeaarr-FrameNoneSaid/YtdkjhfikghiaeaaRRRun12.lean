/- The runner is right: what it computes of a closed call, the model does, in any memory: the end. -/
import Derived.Test.YtdkjhfikghiaeaaRRRun11
namespace Go.Proofs.YtdkjhfikghiaeaaRR
namespace Rn
set_option linter.unusedVariables false
set_option linter.unusedSimpArgs false

def OutC.st (S : St) : OutC → St
  | .no => S
  | .nx _ S => S
  | .ex _ _ S => S
  | .rt _ S => S
/-- what the runner's end of a piece of code asks of the model's -/
def Post (nt : Nat) (F G : Nat → Prop) (m : M) (S : St) (w : World) (Q : Exit → Act → World → Prop) : OutC → Prop
  | .no => False
  | .nx tm' S' => ∀ m' a' w', Ev F G m m' S S' w w' → Tm m' nt tm' a' → Q .normal a' w'
  | .ex id tm' S' => ∀ m' a' w', Ev F G m m' S S' w w' → Tm m' nt tm' a' → Q (.exit id) a' w'
  | .rt tm' S' => ∀ m' a' w', Ev F G m m' S S' w w' → Tm m' nt tm' a' → Q .ret a' w'
def CSnd (nt : Nat) (c : Code) (tm : T AV) (S : St) (r : OutC) : Prop := (r ≠ .no → Ab S (OutC.st S r)) ∧
  ∀ (F G : Nat → Prop) (m : M) (w : World) (a : Act) (Q : Exit → Act → World → Prop), Fits F G (OutC.st S r) → Free m S (OutC.st S r) → Rel F m S.h w → Tm m nt tm a →
    Post nt F G m S w Q r → c.wp PP Q a w
def CodeSnd (nt : Nat) (c : Code) (f : CodeF) : Prop := ∀ (tm : T AV) (S : St), CSnd nt c tm S (f tm S)

theorem Free.left {m : M} {S S1 S2 : St} (h : Free m S S2) (ab : Ab S1 S2) : Free m S S1 := fun k a b => h k a (Nat.lt_of_lt_of_le b ab.nx)
theorem Free.right {F G : Nat → Prop} {m m1 : M} {S S1 S2 : St} {w w1 : World} (h : Free m S S2) (ab : Ab S S1) (ev : Ev F G m m1 S S1 w w1) : Free m1 S1 S2 := fun k a b => by
  rw [ev.old k (.inr a)]
  exact h k (Nat.le_trans ab.nx a) b

/-- the same, for what follows a piece of code -/
theorem loopN_ab {f : CodeF} {S : St} {r : OutC} (h1 : r ≠ .no → Ab S (OutC.st S r)) (h2 : ∀ tm S1, f tm S1 ≠ .no → Ab S1 (OutC.st S1 (f tm S1))) (hn : loopN f r ≠ .no) : Ab S (OutC.st S (loopN f r)) := by
  cases r with
  | no => exact absurd rfl hn
  | nx tm S1 =>
    have hn' : f tm S1 ≠ .no := hn
    have e : OutC.st S (loopN f (.nx tm S1)) = OutC.st S1 (f tm S1) := by
      show OutC.st S (f tm S1) = _
      cases hf : f tm S1 with
      | no => exact absurd hf hn'
      | _ => rfl
    rw [e]
    exact (h1 (by simp)).trans (h2 tm S1 hn')
  | ex id tm S1 => exact h1 (by simp)
  | rt tm S1 => exact h1 (by simp)
theorem st_loopN {f : CodeF} {S : St} {tm : T AV} {S1 : St} (hn : f tm S1 ≠ .no) : OutC.st S (f tm S1) = OutC.st S1 (f tm S1) := by
  cases hf : f tm S1 with
  | no => exact absurd hf hn
  | _ => rfl
theorem Post.ne {nt : Nat} {F G : Nat → Prop} {m : M} {S : St} {w : World} {Q : Exit → Act → World → Prop} {r : OutC} (h : Post nt F G m S w Q r) : r ≠ .no := by
  rintro rfl; exact h

theorem seq_snd {nt : Nat} {a b : Code} {fa fb : CodeF} (ha : CodeSnd nt a fa) (hb : CodeSnd nt b fb) : CodeSnd nt (.seq a b) fun tm S => loopN fb (fa tm S) := by
  intro tm S
  refine ⟨fun hn => loopN_ab (ha tm S).1 (fun tm S1 => (hb tm S1).1) hn, fun F G m w ac Q hf hfree hr ht hp => ?_⟩
  have hne := hp.ne
  refine wp_seq ?_
  cases hra : fa tm S with
  | no => simp only [hra] at hne; exact absurd rfl hne
  | ex id tm1 S1 =>
    have h := ha tm S
    simp only [hra] at h hf hfree hp
    exact h.2 F G m w ac _ hf hfree hr ht fun m' a' w' ev ht' => hp m' a' w' ev ht'
  | rt tm1 S1 =>
    have h := ha tm S
    simp only [hra] at h hf hfree hp
    exact h.2 F G m w ac _ hf hfree hr ht fun m' a' w' ev ht' => hp m' a' w' ev ht'
  | nx tm1 S1 =>
    have h := ha tm S
    simp only [hra] at h hf hfree hp hne
    have hne' : fb tm1 S1 ≠ .no := hne
    have hf' : Fits F G (OutC.st S1 (fb tm1 S1)) := by rw [← st_loopN (S := S) hne']; exact hf
    have hfree' : Free m S (OutC.st S1 (fb tm1 S1)) := by rw [← st_loopN (S := S) hne']; exact hfree
    have ab1 : Ab S S1 := h.1 (by simp)
    have ab2 := (hb tm1 S1).1 hne'
    refine h.2 F G m w ac _ (hf'.back ab2) (hfree'.left ab2) hr ht fun m' a' w' ev ht' => ?_
    refine (hb tm1 S1).2 F G m' w' a' Q hf' (hfree'.right ab1 ev) ev.rel ht' ?_
    have hp' : Post nt F G m S w Q (fb tm1 S1) := hp
    cases hrb : fb tm1 S1 with
    | no => exact absurd hrb hne'
    | nx tm2 S2 => rw [hrb] at hp' ab2; exact fun m'' a'' w'' ev2 ht2 => hp' m'' a'' w'' (ev.trans ev2 ab1.nx ab2.nx) ht2
    | ex id tm2 S2 => rw [hrb] at hp' ab2; exact fun m'' a'' w'' ev2 ht2 => hp' m'' a'' w'' (ev.trans ev2 ab1.nx ab2.nx) ht2
    | rt tm2 S2 => rw [hrb] at hp' ab2; exact fun m'' a'' w'' ev2 ht2 => hp' m'' a'' w'' (ev.trans ev2 ab1.nx ab2.nx) ht2

theorem loop_ab {fa : CodeF} (ha : ∀ tm S, fa tm S ≠ .no → Ab S (OutC.st S (fa tm S))) : ∀ (k : Nat) (tm : T AV) (S : St), loopA fa k tm S ≠ .no → Ab S (OutC.st S (loopA fa k tm S))
  | 0, tm, S, hn => absurd rfl hn
  | k + 1, tm, S, hn => loopN_ab (f := loopA fa k) (ha tm S) (loop_ab ha k) hn

/-- a loop at the head of a round -/
def LoopAt (c : Code) (Q : Exit → Act → World → Prop) (a : Act) (w : World) : Prop := ∀ (b : Frame) (k : List Item) (cs : List Frame),
  ∃ e a' w', Q e a' w' ∧ Arrives PP (lone (b.at a (.code c :: .inLoop c :: k)) cs w) b k cs e a' w'
theorem loopAt_of {c : Code} {Q : Exit → Act → World → Prop} {a : Act} {w : World} (h : c.wp PP (Exit.then (LoopAt c Q) Q) a w) : LoopAt c Q a w := by
  intro b k cs
  obtain ⟨e, a₁, w₁, hq, harr⟩ := h b (.inLoop c :: k) cs
  cases e with
  | normal =>
    obtain ⟨e₂, a₂, w₂, hq₂, harr₂⟩ := hq b k cs
    exact ⟨e₂, a₂, w₂, hq₂, .of_steps (Steps.trans harr (.one step_inLoop)) harr₂⟩
  | exit id => exact ⟨_, a₁, w₁, hq, .pass (x := .inLoop c) rfl (fun _ _ => .inl (by simp)) harr⟩
  | goto l => exact ⟨_, a₁, w₁, hq, .pass (x := .inLoop c) rfl (fun _ _ => .inl (by simp)) harr⟩
  | ret => exact ⟨_, a₁, w₁, hq, .pass (x := .inLoop c) rfl (fun _ _ => .inl (by simp)) harr⟩
  | panic ch => exact ⟨_, a₁, w₁, hq, .pass (x := .inLoop c) rfl (fun _ _ => .inl (by simp)) harr⟩
  | outgrown => exact ⟨_, a₁, w₁, hq, .pass (x := .inLoop c) rfl (fun _ _ => .inl (by simp)) harr⟩
theorem wp_of_loopAt {c : Code} {Q : Exit → Act → World → Prop} {a : Act} {w : World} (h : LoopAt c Q a w) : (Code.loop c).wp PP Q a w :=
  fun b k cs => let ⟨e, a', w', q, r⟩ := h b k cs; ⟨e, a', w', q, .of_steps (.one step_loop) r⟩

/-- a loop: the model's rounds follow the runner's -/
theorem loop_snd {nt : Nat} {a : Code} {fa : CodeF} (ha : CodeSnd nt a fa) (k : Nat) : CodeSnd nt (.loop a) (loopA fa k) := by
  intro tm S
  refine ⟨fun hn => loop_ab (fun tm S => (ha tm S).1) k tm S hn, fun F G m w ac Q hf hfree hr ht hp => ?_⟩
  -- the invariant: some rounds are left to the runner
  let I : Nat → Act → World → Prop := fun j a' w' => ∃ m' tm' S', Ev F G m m' S S' w w' ∧ Ab S S' ∧ Tm m' nt tm' a' ∧ Free m S (OutC.st S' (loopA fa j tm' S')) ∧ Fits F G (OutC.st S' (loopA fa j tm' S')) ∧ loopA fa j tm' S' ≠ .no ∧ Post nt F G m S w Q (loopA fa j tm' S')
  have hne := hp.ne
  have key : ∀ j a' w', I j a' w' → LoopAt a Q a' w' := by
    intro j
    induction j with
    | zero => rintro a' w' ⟨m', tm', S', _, _, _, _, _, hn, _⟩; exact absurd rfl hn
    | succ j ih =>
      rintro a' w' ⟨m', tm', S', ev, ab, ht', hfr, hft, hn, hpo⟩
      refine loopAt_of ?_
      have h := ha tm' S'
      cases hra : fa tm' S' with
      | no =>
        have : loopA fa (j + 1) tm' S' = .no := by show loopN (loopA fa j) (fa tm' S') = _; rw [hra]; rfl
        exact absurd this hn
      | ex id tm1 S1 =>
        have e : loopA fa (j + 1) tm' S' = .ex id tm1 S1 := by show loopN (loopA fa j) (fa tm' S') = _; rw [hra]; rfl
        rw [e] at hfr hft hpo
        simp only [hra] at h
        have ab1 : Ab S' S1 := h.1 (by simp)
        exact h.2 F G m' w' a' _ hft (hfr.right ab ev) ev.rel ht' fun m2 a2 w2 ev2 ht2 => hpo m2 a2 w2 (ev.trans ev2 ab.nx ab1.nx) ht2
      | rt tm1 S1 =>
        have e : loopA fa (j + 1) tm' S' = .rt tm1 S1 := by show loopN (loopA fa j) (fa tm' S') = _; rw [hra]; rfl
        rw [e] at hfr hft hpo
        simp only [hra] at h
        have ab1 : Ab S' S1 := h.1 (by simp)
        exact h.2 F G m' w' a' _ hft (hfr.right ab ev) ev.rel ht' fun m2 a2 w2 ev2 ht2 => hpo m2 a2 w2 (ev.trans ev2 ab.nx ab1.nx) ht2
      | nx tm1 S1 =>
        have e : loopA fa (j + 1) tm' S' = loopA fa j tm1 S1 := by show loopN (loopA fa j) (fa tm' S') = _; rw [hra]; rfl
        rw [e] at hfr hft hpo hn
        simp only [hra] at h
        have ab1 : Ab S' S1 := h.1 (by simp)
        have est : OutC.st S' (loopA fa j tm1 S1) = OutC.st S1 (loopA fa j tm1 S1) := st_loopN hn
        rw [est] at hfr hft
        have ab2 := loop_ab (fun tm S => (ha tm S).1) j tm1 S1 hn
        exact h.2 F G m' w' a' _ (hft.back ab2) ((hfr.right ab ev).left ab2) ev.rel ht' fun m2 a2 w2 ev2 ht2 => ih a2 w2 ⟨m2, tm1, S1, ev.trans ev2 ab.nx ab1.nx, ab.trans ab1, ht2, hfr, hft, hn, hpo⟩
  exact wp_of_loopAt (key k ac w ⟨m, tm, S, Ev.rfl hr, Ab.rfl, ht, hfree, hf, hne, hp⟩)

theorem cIf_snd {nt : Nat} {x y : Code} {fa fb : CodeF} (ha : CodeSnd nt x fa) (hb : CodeSnd nt y fb) (c : Operand) : CodeSnd nt (.cond c x y) fun tm S => cCond fa fb (evalO c tm) tm S := by
  intro tm S
  show CSnd nt _ tm S (cCond fa fb (evalO c tm) tm S)
  generalize hx : evalO c tm = x
  unfold cCond
  split
  · rename_i t
    have hc : evalO c tm = some (.b t) := hx
    clear hx
    cases t with
    | true =>
      refine ⟨(ha tm S).1, fun F G m w a Q hf hfree hr ht hp => ?_⟩
      have hcc := evalO_spec hc ht
      simp only [CR] at hcc
      exact wp_cond hcc ((ha tm S).2 F G m w a Q hf hfree hr ht hp)
    | false =>
      refine ⟨(hb tm S).1, fun F G m w a Q hf hfree hr ht hp => ?_⟩
      have hcc := evalO_spec hc ht
      simp only [CR] at hcc
      exact wp_cond hcc ((hb tm S).2 F G m w a Q hf hfree hr ht hp)
  · exact ⟨fun hn => absurd rfl hn, fun F G m w a Q hf hfree hr ht hp => hp.elim⟩

theorem block_snd {nt : Nat} {x : Code} {fa : CodeF} (ha : CodeSnd nt x fa) (id : Nat) : CodeSnd nt (.block id x) fun tm S => cBlock id (fa tm S) := by
  intro tm S
  have h := ha tm S
  simp only
  cases hra : fa tm S with
  | no => exact ⟨fun hn => absurd rfl hn, fun F G m w a Q hf hfree hr ht hp => hp.elim⟩
  | nx tm1 S1 =>
    simp only [hra] at h
    refine ⟨fun _ => h.1 (by simp), fun F G m w a Q hf hfree hr ht hp => wp_block (h.2 F G m w a _ hf hfree hr ht fun m' a' w' ev ht' => hp m' a' w' ev ht')⟩
  | rt tm1 S1 =>
    simp only [hra] at h
    refine ⟨fun _ => h.1 (by simp), fun F G m w a Q hf hfree hr ht hp => wp_block (h.2 F G m w a _ hf hfree hr ht fun m' a' w' ev ht' => hp m' a' w' ev ht')⟩
  | ex k tm1 S1 =>
    simp only [hra] at h
    show (Bool.rec (motive := fun _ => OutC) (.ex k tm1 S1) (.nx tm1 S1) (Nat.beq k id) ≠ .no → _) ∧ _
    unfold cBlock
    simp only
    cases hb : Nat.beq k id with
    | true =>
      have hk := Nat.eq_of_beq_eq_true hb
      refine ⟨fun _ => h.1 (by simp), fun F G m w a Q hf hfree hr ht hp => wp_block (h.2 F G m w a _ hf hfree hr ht fun m' a' w' ev ht' => ?_)⟩
      unfold Exit.inBlock
      simp only [hk, if_true]
      exact hp m' a' w' ev ht'
    | false =>
      have hk := Nat.ne_of_beq_eq_false hb
      refine ⟨fun _ => h.1 (by simp), fun F G m w a Q hf hfree hr ht hp => wp_block (h.2 F G m w a _ hf hfree hr ht fun m' a' w' ev ht' => ?_)⟩
      unfold Exit.inBlock
      simp only [hk, if_false]
      exact hp m' a' w' ev ht'

theorem no_snd {nt : Nat} {c : Code} : CodeSnd nt c fun _ _ => .no := fun tm S => ⟨fun hn => absurd rfl hn, fun F G m w a Q hf hfree hr ht hp => hp.elim⟩

theorem runCode_snd {call : CallF} (hc : CallSnd call) {nt : Nat} (hnt : nt ≤ 512) (c : Code) : CodeSnd nt c (runCode call nt c) := by
  induction c with
  | skip => exact fun tm S => ⟨fun _ => Ab.rfl, fun F G m w a Q hf hfree hr ht hp => wp_skip (hp m a w (Ev.rfl hr) ht)⟩
  | region id ops draw =>
    intro tm S
    show (cNorm (runRegion call ops draw nt tm S) ≠ .no → Ab S (OutC.st S (cNorm (runRegion call ops draw nt tm S)))) ∧ ∀ (F G : Nat → Prop) (m : M) (w : World) (a : Act) (Q : Exit → Act → World → Prop), Fits F G (OutC.st S (cNorm (runRegion call ops draw nt tm S))) → Free m S (OutC.st S (cNorm (runRegion call ops draw nt tm S))) → Rel F m S.h w → Tm m nt tm a → Post nt F G m S w Q (cNorm (runRegion call ops draw nt tm S)) → _
    cases hr : runRegion call ops draw nt tm S with
    | no => exact ⟨fun hn => absurd rfl hn, fun F G m w a Q hf hfree hr ht hp => hp.elim⟩
    | ok tm1 S1 =>
      obtain ⟨ab, hs⟩ := runRegion_spec (id := id) hc hnt hr
      exact ⟨fun _ => ab, fun F G m w a Q hf hfree hr ht hp => hs F G m w a Q hf hfree hr ht fun m' a' w' ev ht' => hp m' a' w' ev ht'⟩
  | seq a b iha ihb => exact seq_snd iha ihb
  | cond c a b iha ihb => exact cIf_snd iha ihb c
  | block id a iha => exact block_snd iha id
  | loop a iha => exact loop_snd iha 1000000
  | rangeFunc f ps a b _ _ => exact no_snd
  | exit id => exact fun tm S => ⟨fun _ => Ab.rfl, fun F G m w a Q hf hfree hr ht hp => wp_exit (hp m a w (Ev.rfl hr) ht)⟩
  | scope a _ => exact no_snd
  | label l => exact no_snd
  | goto l => exact no_snd
  | ret => exact fun tm S => ⟨fun _ => Ab.rfl, fun F G m w a Q hf hfree hr ht hp => wp_ret (hp m a w (Ev.rfl hr) ht)⟩
  | refuse why => exact no_snd

/-! functions -/
theorem argsT_get : ∀ (l : List AV) (k : Nat) (t : T AV) (i : Nat), k + l.length ≤ 512 → i < 512 → T.get (argsT l k t) i = if k ≤ i ∧ i < k + l.length then l[i - k]? else T.get t i
  | [], k, t, i, _, _ => by simp [argsT]; omega
  | v :: l, k, t, i, hk, hi => by
    unfold argsT
    rw [argsT_get l (k + 1) _ i (by simp at hk; omega) hi, T.get_set _ _ _ _ (by simp at hk; omega) hi]
    by_cases h : i = k
    · subst h
      rw [if_neg (by omega), if_pos rfl, if_pos (by simp)]
      simp
    · rw [if_neg h]
      by_cases h2 : k + 1 ≤ i ∧ i < k + 1 + l.length
      · rw [if_pos h2, if_pos (by simp; omega)]
        obtain ⟨j, rfl⟩ : ∃ j, i = k + 1 + j := ⟨i - (k + 1), by omega⟩
        rw [show k + 1 + j - (k + 1) = j by omega, show k + 1 + j - k = j + 1 by omega]
        simp
      · rw [if_neg h2, if_neg (by simp; omega)]
theorem Tm.enter {m : M} {args : List AV} {vs : List Value} {nt : Nat} (hc : CRL m args vs) (hl : args.length ≤ nt) (hnt : nt ≤ 512) :
    Tm m nt (argsT args 0 T.nil) { tmps := vs.toArray ++ Array.replicate (nt - vs.toArray.size) undef, defers := [] } := by
  have hlen := hc.length
  refine ⟨fun t v ht hv => ?_, by simp; omega, rfl⟩
  rw [argsT_get args 0 T.nil t (by omega) ht] at hv
  split at hv
  · rename_i h
    simp only [Nat.sub_zero] at hv
    obtain ⟨u, h1, h2⟩ := hc.get hv
    refine ⟨u, ?_, h2⟩
    rw [Array.getElem?_append_left (by simp; omega)]
    simpa using h1
  · rw [T.get_nil] at hv; cases hv

def resSem (a : Act) (r : ResultVar) : Sem Value := match r with
  | .tmp t => pure (a.tmps.getD t undef)
  | .cell c t => do loadVar t (← asAddr (a.tmps.getD c undef))
theorem aResult_spec {nt : Nat} {tm : T AV} {S S' : St} {r : ResultVar} {v : AV} (h : aResult tm S r = some (v, S')) :
    Ab S S' ∧ ∀ (F G : Nat → Prop) (m : M) (w : World) (a : Act), Fits F G S' → Rel F m S.h w → Tm m nt tm a →
      Rel F m S'.h w ∧ S'.nx = S.nx ∧ ∃ u, CR m v u ∧ (resSem a r).run PP w = .ok u w := by
  cases r with
  | tmp t =>
    simp only [aResult] at h
    cases hg : getO t tm with
    | none => rw [hg] at h; cases h
    | some x =>
      rw [hg] at h
      injection h with h; injection h with h1 h2; subst h1; subst h2
      refine ⟨Ab.rfl, fun F G m w a hf hr ht => ⟨hr, rfl, ?_⟩⟩
      obtain ⟨u, e1, e2⟩ := getO_spec hg ht
      exact ⟨u, e2, by simp [resSem, Array.getD_eq_getD_getElem?, e1]⟩
  | cell c t =>
    simp only [aResult] at h
    split at h
    · rename_i x hx
      have h0 := h
      refine ⟨aLoad_ab h, fun F G m w a hf hr ht => ?_⟩
      obtain ⟨u, e1, e2⟩ := getO_spec hx ht
      unfold aLoad at h
      split at h
      · rename_i id off
        simp only [CR] at e2
        obtain ⟨L, hL, rfl⟩ := e2
        split at h
        · rename_i l sz S1 hl
          split at h
          · rename_i v' hv
            injection h with h; injection h with h1 h2; subst h2; subst h1
            obtain ⟨ab, hh, hn, _⟩ := look_ab hl
            obtain ⟨ev, _, _, L', hL', pre, xs, post, e, hw, hp, hcc, _⟩ := look_rel hl hf hr
            rw [hL] at hL'
            injection hL' with hL'
            subst hL'
            obtain ⟨y, q1, q2⟩ := loadVar_spec hw hcc hv
            rw [hp] at q1
            exact ⟨ev.rel, hn, y, q2, by simp [resSem, Array.getD_eq_getD_getElem?, e1, asAddr, q1]⟩
          · cases h
        · cases h
      · cases h
    · cases h

theorem aResults_spec {nt : Nat} {tm : T AV} : ∀ {rs : List ResultVar} {S S' : St} {vs : List AV}, aResults tm rs S = some (vs, S') →
    Ab S S' ∧ ∀ (F G : Nat → Prop) (m : M) (w : World) (a : Act), Fits F G S' → Rel F m S.h w → Tm m nt tm a →
      Rel F m S'.h w ∧ S'.nx = S.nx ∧ ∃ us, CRL m vs us ∧ (rs.mapM (resSem a)).run PP w = .ok us w
  | [], S, S', vs, h => by
    injection h with h; injection h with h1 h2; subst h1; subst h2
    exact ⟨Ab.rfl, fun F G m w a hf hr ht => ⟨hr, rfl, [], rfl, by simp⟩⟩
  | r :: rs, S, S', vs, h => by
    simp only [aResults] at h
    split at h
    · cases h
    · rename_i v S1 hv
      split at h
      · cases h
      · rename_i vs' S2 hvs
        injection h with h; injection h with h1 h2; subst h1; subst h2
        obtain ⟨ab1, hs1⟩ := aResult_spec (nt := nt) hv
        obtain ⟨ab2, hs2⟩ := aResults_spec (nt := nt) hvs
        refine ⟨ab1.trans ab2, fun F G m w a hf hr ht => ?_⟩
        obtain ⟨r1, n1, u, c1, e1⟩ := hs1 F G m w a (hf.back ab2) hr ht
        obtain ⟨r2, n2, us, c2, e2⟩ := hs2 F G m w a hf r1 ht
        exact ⟨r2, by omega, u :: us, ⟨u, us, rfl, c1, c2⟩, by simp only [List.mapM_cons, Sem.run_bind, e1, Result.andThen_ok, e2, Sem.run_pure]⟩

theorem endFn2_spec {nt : Nat} {fn : Func} {tm : T AV} {S S' : St} {v : AV} (h : endFn2 (aResults tm fn.results.toList S) = some (v, S')) :
    Ab S S' ∧ ∀ (F G : Nat → Prop) (m : M) (w : World) (a : Act), Fits F G S' → Rel F m S.h w → Tm m nt tm a →
      Rel F m S'.h w ∧ S'.nx = S.nx ∧ ∃ u, CR m v u ∧ (results fn a.tmps).run PP w = .ok u w := by
  have hmap : ∀ (a : Act), (results fn a.tmps) = (do
      let vs ← fn.results.toList.mapM (resSem a)
      let vs := vs.toArray
      pure (if h : vs.size = 1 then vs[0] else .tuple vs)) := by
    intro a
    have hf : (fun (r : ResultVar) => (match r with
        | .tmp t => pure (a.tmps.getD t undef)
        | .cell c t => do loadVar t (← asAddr (a.tmps.getD c undef)) : Sem Value)) = resSem a := by
      funext r; cases r <;> rfl
    unfold results
    rw [Array.mapM_eq_mapM_toList, ← hf]
    simp only [bind_map_left]
    rfl
  cases hr : aResults tm fn.results.toList S with
  | none => rw [hr] at h; cases h
  | some p =>
    obtain ⟨vs, S1⟩ := p
    rw [hr] at h
    obtain ⟨ab, hs⟩ := aResults_spec (nt := nt) hr
    have hend : S1 = S' ∧ ((∃ x, vs = [x] ∧ v = x) ∨ (vs.length ≠ 1 ∧ v = .tup vs)) := by
      match vs, h with
      | [], h =>
        injection h with h; injection h with h1 h2
        exact ⟨h2, .inr ⟨by simp, h1.symm⟩⟩
      | [x], h =>
        injection h with h; injection h with h1 h2
        exact ⟨h2, .inl ⟨x, rfl, h1.symm⟩⟩
      | x :: y :: l, h =>
        injection h with h; injection h with h1 h2
        exact ⟨h2, .inr ⟨by simp, h1.symm⟩⟩
    obtain ⟨rfl, hv⟩ := hend
    refine ⟨ab, fun F G m w a hf hrl ht => ?_⟩
    obtain ⟨r1, n1, us, c1, e1⟩ := hs F G m w a hf hrl ht
    refine ⟨r1, n1, ?_⟩
    rcases hv with ⟨x, rfl, rfl⟩ | ⟨hl, rfl⟩
    · simp only [CRL] at c1
      obtain ⟨u, _, rfl, c2, rfl⟩ := c1
      refine ⟨u, c2, ?_⟩
      rw [hmap, Sem.run_bind, e1]
      simp [Result.andThen]
    · refine ⟨.tuple us.toArray, ⟨us, rfl, c1⟩, ?_⟩
      have hus : ¬ us.toArray.size = 1 := by rw [List.size_toArray, c1.length]; exact hl
      rw [hmap, Sem.run_bind, e1]
      simp [Result.andThen, hus, c1.length, hl]

theorem run_snd : ∀ n, CallSnd (run n)
  | 0 => fun f args S S' v h => by cases h
  | n + 1 => fun f args S S' v h => by
    have hc := run_snd n
    change runFn (run n) f args S = some (v, S') at h
    unfold runFn at h
    split at h
    · cases h
    · rename_i fn hfn
      split at h
      · cases h
      · rename_i c hbody
        have hcs := cond_some h; clear h; obtain ⟨hb, h⟩ := hcs
        simp only [Bool.and_eq_true] at hb
        have b1 := ble_spec hb.1
        have b2 := ble_spec hb.2
        have hcode := runCode_snd hc b2 c (argsT args 0 T.nil) S
        unfold endFn at h
        split at h
        · rename_i tm1 S1 hr
          simp only [hr] at hcode
          obtain ⟨ab2, hs2⟩ := endFn2_spec (nt := fn.ntmps) h
          have ab1 : Ab S S1 := hcode.1 (by simp)
          refine ⟨ab1.trans ab2, fun F G m w vs R hf hfree hrl hcr hR => ?_⟩
          refine calls_of_wp hfn hbody (hcode.2 F G m w _ _ (hf.back ab2) (hfree.left ab2) hrl (Tm.enter hcr b1 b2) fun m' a' w' ev ht' => ?_)
          obtain ⟨r1, n1, u, c1, e1⟩ := hs2 F G m' w' a' hf ev.rel ht'
          refine ⟨ht'.defers, u, e1, hR m' u w' (ev.trans ⟨fun _ _ => rfl, Sub.rfl, r1, Nat.le_refl _, fun _ _ _ => rfl, fun k L q1 q2 => by omega, rfl, rfl, rfl⟩ ab1.nx ab2.nx) c1⟩
        · rename_i tm1 S1 hr
          simp only [hr] at hcode
          obtain ⟨ab2, hs2⟩ := endFn2_spec (nt := fn.ntmps) h
          have ab1 : Ab S S1 := hcode.1 (by simp)
          refine ⟨ab1.trans ab2, fun F G m w vs R hf hfree hrl hcr hR => ?_⟩
          refine calls_of_wp hfn hbody (hcode.2 F G m w _ _ (hf.back ab2) (hfree.left ab2) hrl (Tm.enter hcr b1 b2) fun m' a' w' ev ht' => ?_)
          obtain ⟨r1, n1, u, c1, e1⟩ := hs2 F G m' w' a' hf ev.rel ht'
          refine ⟨ht'.defers, u, e1, hR m' u w' (ev.trans ⟨fun _ _ => rfl, Sub.rfl, r1, Nat.le_refl _, fun _ _ _ => rfl, fun k L q1 q2 => by omega, rfl, rfl, rfl⟩ ab1.nx ab2.nx) c1⟩
        · cases h

/-- THE RUNNER'S WORD, for a function that says true or false: in any memory the call says so too, and what was there stays. -/
noncomputable def says (n : Nat) (f : FuncId) : Option Bool := match run n f [] ⟨H.nil, 0, 0, 0⟩ with
  | some (.b x, _) => some x
  | _ => none
theorem says_calls {n : Nat} {f : FuncId} {b : Bool} (h : says n f = some b) (w : World) :
    Calls Try.prog f #[] w fun e w' => e = .returned (.bool b) ∧ Go.RowKit.Below w.heap.size w w' := by
  have hpp : PP = Try.prog := by unfold PP; rfl
  rw [← hpp]
  unfold says at h
  split at h
  · rename_i x S' hr
    injection h with h
    subst h
    obtain ⟨ab, hs⟩ := run_snd n f [] _ S' (.b x) hr
    refine hs (fun _ => True) (fun _ => True) (fun _ => none) w [] _ ⟨fun _ _ => trivial, fun _ _ => ⟨trivial, trivial⟩⟩ (fun _ _ _ => rfl) ⟨fun id o _ _ hg => ?_, fun id id' o o' L L' _ _ _ _ hg => ?_⟩ rfl fun m' u w' ev hcr => ?_
    · rw [H.get_nil] at hg; cases hg
    · rw [H.get_nil] at hg; cases hg
    · simp only [CR] at hcr
      subst hcr
      exact ⟨rfl, ev.os, ev.tape, ev.output, ev.size, fun k hk => ev.keep k hk fun k' L _ h' => by cases h'⟩
  · cases h

/-- the same, for a function of any arguments of which the runner knew no more than their shape -/
noncomputable def saysA (n : Nat) (f : FuncId) (args : List AV) : Option Bool := match run n f args ⟨H.nil, 0, 0, 0⟩ with
  | some (.b x, _) => some x
  | _ => none
theorem saysA_calls {n : Nat} {f : FuncId} {args : List AV} {b : Bool} (h : saysA n f args = some b) {vs : List Value} (hv : CRL (fun _ => none) args vs) (w : World) :
    Calls Try.prog f vs.toArray w fun e w' => e = .returned (.bool b) ∧ Go.RowKit.Below w.heap.size w w' := by
  have hpp : PP = Try.prog := by unfold PP; rfl
  rw [← hpp]
  unfold saysA at h
  split at h
  · rename_i x S' hr
    injection h with h
    subst h
    obtain ⟨ab, hs⟩ := run_snd n f args _ S' (.b x) hr
    refine hs (fun _ => True) (fun _ => True) (fun _ => none) w vs _ ⟨fun _ _ => trivial, fun _ _ => ⟨trivial, trivial⟩⟩ (fun _ _ _ => rfl) ⟨fun id o _ _ hg => ?_, fun id id' o o' L L' _ _ _ _ hg => ?_⟩ hv fun m' u w' ev hcr => ?_
    · rw [H.get_nil] at hg; cases hg
    · rw [H.get_nil] at hg; cases hg
    · simp only [CR] at hcr
      subst hcr
      exact ⟨rfl, ev.os, ev.tape, ev.output, ev.size, fun k hk => ev.keep k hk fun k' L _ h' => by cases h'⟩
  · cases h
theorem CRL_unks {m : M} : ∀ (n : Nat) (xs : List Value), xs.length = n → CRL m (List.replicate n .unk) xs
  | 0, xs, h => by have := List.eq_nil_of_length_eq_zero h; subst this; rfl
  | n + 1, [], h => by cases h
  | n + 1, x :: xs, h => ⟨x, xs, rfl, trivial, CRL_unks n xs (by simpa using h)⟩
theorem CR_unks {m : M} {n : Nat} {cs : Array Value} (h : cs.size = n) : CR m (.agg (List.replicate n .unk)) (.agg cs) :=
  ⟨cs.toList, by simp, CRL_unks n _ (by simpa using h)⟩
end Rn
end Go.Proofs.YtdkjhfikghiaeaaRR
