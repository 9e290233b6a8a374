/- The runner is right: what it computes of a closed call, the model does, in any memory: the end. -/
import Derived.Test.YtgfcakdpfedokaaRun11
import Derived.Test.YtgfcakdpfedokaaIns2
namespace Go.Proofs.Ytgfcakdpfedokaa
namespace Rn
set_option linter.unusedVariables false
set_option linter.unusedSimpArgs false

def OutC.st (S : St) : OutC → St
  | .no => S
  | .nx _ S => S
  | .ex _ _ S => S
  | .rt _ S => S
/-- what the runner's end of a piece of code asks of the model's -/
def Post (nt : Nat) (F G : Nat → Prop) (m : M) (S : St) (w : World) (Q : Exit → Act → World → Prop) : OutC → Prop
  | .no => False
  | .nx tm' S' => ∀ m' a' w', Ev F G m m' S S' w w' → Tm m' nt tm' a' → Q .normal a' w'
  | .ex id tm' S' => ∀ m' a' w', Ev F G m m' S S' w w' → Tm m' nt tm' a' → Q (.exit id) a' w'
  | .rt tm' S' => ∀ m' a' w', Ev F G m m' S S' w w' → Tm m' nt tm' a' → Q .ret a' w'
def CSnd (rd : Bool) (nt : Nat) (c : Code) (tm : T AV) (S : St) (r : OutC) : Prop := (r ≠ .no → Ab S (OutC.st S r)) ∧
  ∀ (rn : Option Nat) (F G : Nat → Prop) (m : M) (w : World) (a : Act) (Q : Exit → Act → World → Prop), Fits F G (OutC.st S r) → Free m S (OutC.st S r) → Rel F m S.h w → Tm m nt tm a → (rd = false → rn = none) →
    Post nt F G m S w Q r → c.wpIn (FW rn) 0 PP Q a w
def CodeSnd (rd : Bool) (nt : Nat) (c : Code) (f : CodeF) : Prop := ∀ (tm : T AV) (S : St), CSnd rd nt c tm S (f tm S)

theorem Free.left {m : M} {S S1 S2 : St} (h : Free m S S2) (ab : Ab S1 S2) : Free m S S1 := fun k a b => h k a (Nat.lt_of_lt_of_le b ab.nx)
theorem Free.right {F G : Nat → Prop} {m m1 : M} {S S1 S2 : St} {w w1 : World} (h : Free m S S2) (ab : Ab S S1) (ev : Ev F G m m1 S S1 w w1) : Free m1 S1 S2 := fun k a b => by
  rw [ev.old k (.inr a)]
  exact h k (Nat.le_trans ab.nx a) b

/-- the same, for what follows a piece of code -/
theorem loopN_ab {f : CodeF} {S : St} {r : OutC} (h1 : r ≠ .no → Ab S (OutC.st S r)) (h2 : ∀ tm S1, f tm S1 ≠ .no → Ab S1 (OutC.st S1 (f tm S1))) (hn : loopN f r ≠ .no) : Ab S (OutC.st S (loopN f r)) := by
  cases r with
  | no => exact absurd rfl hn
  | nx tm S1 =>
    have hn' : f tm S1 ≠ .no := hn
    have e : OutC.st S (loopN f (.nx tm S1)) = OutC.st S1 (f tm S1) := by
      show OutC.st S (f tm S1) = _
      cases hf : f tm S1 with
      | no => exact absurd hf hn'
      | _ => rfl
    rw [e]
    exact (h1 (by simp)).trans (h2 tm S1 hn')
  | ex id tm S1 => exact h1 (by simp)
  | rt tm S1 => exact h1 (by simp)
theorem st_loopN {f : CodeF} {S : St} {tm : T AV} {S1 : St} (hn : f tm S1 ≠ .no) : OutC.st S (f tm S1) = OutC.st S1 (f tm S1) := by
  cases hf : f tm S1 with
  | no => exact absurd hf hn
  | _ => rfl
theorem Post.ne {nt : Nat} {F G : Nat → Prop} {m : M} {S : St} {w : World} {Q : Exit → Act → World → Prop} {r : OutC} (h : Post nt F G m S w Q r) : r ≠ .no := by
  rintro rfl; exact h

theorem seq_snd {rd : Bool} {nt : Nat} {a b : Code} {fa fb : CodeF} (ha : CodeSnd rd nt a fa) (hb : CodeSnd rd nt b fb) : CodeSnd rd nt (.seq a b) fun tm S => loopN fb (fa tm S) := by
  intro tm S
  refine ⟨fun hn => loopN_ab (ha tm S).1 (fun tm S1 => (hb tm S1).1) hn, fun rn F G m w ac Q hf hfree hr ht hrn hp => ?_⟩
  have hne := hp.ne
  refine wpIn_seq ?_
  cases hra : fa tm S with
  | no => simp only [hra] at hne; exact absurd rfl hne
  | ex id tm1 S1 =>
    have h := ha tm S
    simp only [hra] at h hf hfree hp
    exact h.2 rn F G m w ac _ hf hfree hr ht hrn fun m' a' w' ev ht' => hp m' a' w' ev ht'
  | rt tm1 S1 =>
    have h := ha tm S
    simp only [hra] at h hf hfree hp
    exact h.2 rn F G m w ac _ hf hfree hr ht hrn fun m' a' w' ev ht' => hp m' a' w' ev ht'
  | nx tm1 S1 =>
    have h := ha tm S
    simp only [hra] at h hf hfree hp hne
    have hne' : fb tm1 S1 ≠ .no := hne
    have hf' : Fits F G (OutC.st S1 (fb tm1 S1)) := by rw [← st_loopN (S := S) hne']; exact hf
    have hfree' : Free m S (OutC.st S1 (fb tm1 S1)) := by rw [← st_loopN (S := S) hne']; exact hfree
    have ab1 : Ab S S1 := h.1 (by simp)
    have ab2 := (hb tm1 S1).1 hne'
    refine h.2 rn F G m w ac _ (hf'.back ab2) (hfree'.left ab2) hr ht hrn fun m' a' w' ev ht' => ?_
    refine (hb tm1 S1).2 rn F G m' w' a' Q hf' (hfree'.right ab1 ev) ev.rel ht' hrn ?_
    have hp' : Post nt F G m S w Q (fb tm1 S1) := hp
    cases hrb : fb tm1 S1 with
    | no => exact absurd hrb hne'
    | nx tm2 S2 => rw [hrb] at hp' ab2; exact fun m'' a'' w'' ev2 ht2 => hp' m'' a'' w'' (ev.trans ev2 ab1.nx ab2.nx) ht2
    | ex id tm2 S2 => rw [hrb] at hp' ab2; exact fun m'' a'' w'' ev2 ht2 => hp' m'' a'' w'' (ev.trans ev2 ab1.nx ab2.nx) ht2
    | rt tm2 S2 => rw [hrb] at hp' ab2; exact fun m'' a'' w'' ev2 ht2 => hp' m'' a'' w'' (ev.trans ev2 ab1.nx ab2.nx) ht2

theorem loop_ab {fa : CodeF} (ha : ∀ tm S, fa tm S ≠ .no → Ab S (OutC.st S (fa tm S))) : ∀ (k : Nat) (tm : T AV) (S : St), loopA fa k tm S ≠ .no → Ab S (OutC.st S (loopA fa k tm S))
  | 0, tm, S, hn => absurd rfl hn
  | k + 1, tm, S, hn => loopN_ab (f := loopA fa k) (ha tm S) (loop_ab ha k) hn

/-- a loop at the head of a round -/
def LoopAt (rn : Option Nat) (c : Code) (Q : Exit → Act → World → Prop) (a : Act) (w : World) : Prop := ∀ (b : Frame) (k : List Item) (cs : List Frame), b.roundOf = (FW rn).round → (FW rn).fn b.fn → (FW rn).room (cs.length + 1 + 0) →
  ∃ e a' w', Q e a' w' ∧ ArrivesIn (Machine.fenced PP (FW rn)) PP (lone (b.atR a (.code c :: .inLoop c :: k)) cs w) b k cs e a' w'
theorem loopAt_of {rn : Option Nat} {c : Code} {Q : Exit → Act → World → Prop} {a : Act} {w : World} (h : c.wpIn (FW rn) 0 PP (Exit.then (LoopAt rn c Q) Q) a w) : LoopAt rn c Q a w := by
  intro b k cs hro hb hr
  obtain ⟨e, a₁, w₁, hq, harr⟩ := h b (.inLoop c :: k) cs hro hb hr
  cases e with
  | normal =>
    obtain ⟨e₂, a₂, w₂, hq₂, harr₂⟩ := hq b k cs hro hb hr
    exact ⟨e₂, a₂, w₂, hq₂, .of_steps (StepsIn.trans harr (.one (fenced_calm hb hr rfl) stepR_inLoop)) harr₂⟩
  | exit id => exact ⟨_, a₁, w₁, hq, .pass (x := .inLoop c) rfl (fun _ _ => .inl (by simp)) harr⟩
  | goto l => exact ⟨_, a₁, w₁, hq, .pass (x := .inLoop c) rfl (fun _ _ => .inl (by simp)) harr⟩
  | ret => exact ⟨_, a₁, w₁, hq, .pass (x := .inLoop c) rfl (fun _ _ => .inl (by simp)) harr⟩
  | panic ch => exact ⟨_, a₁, w₁, hq, .pass (x := .inLoop c) rfl (fun _ _ => .inl (by simp)) harr⟩
  | outgrown => exact ⟨_, a₁, w₁, hq, .pass (x := .inLoop c) rfl (fun _ _ => .inl (by simp)) harr⟩
theorem wp_of_loopAt {rn : Option Nat} {c : Code} {Q : Exit → Act → World → Prop} {a : Act} {w : World} (h : LoopAt rn c Q a w) : (Code.loop c).wpIn (FW rn) 0 PP Q a w :=
  fun b k cs hro hb hr => let ⟨e, a', w', q, r⟩ := h b k cs hro hb hr; ⟨e, a', w', q, .of_steps (.one (fenced_calm hb hr rfl) stepR_loop) r⟩

/-- a loop: the model's rounds follow the runner's -/
theorem loop_snd {rd : Bool} {nt : Nat} {a : Code} {fa : CodeF} (ha : CodeSnd rd nt a fa) (k : Nat) : CodeSnd rd nt (.loop a) (loopA fa k) := by
  intro tm S
  refine ⟨fun hn => loop_ab (fun tm S => (ha tm S).1) k tm S hn, fun rn F G m w ac Q hf hfree hr ht hrn hp => ?_⟩
  -- the invariant: some rounds are left to the runner
  let I : Nat → Act → World → Prop := fun j a' w' => ∃ m' tm' S', Ev F G m m' S S' w w' ∧ Ab S S' ∧ Tm m' nt tm' a' ∧ Free m S (OutC.st S' (loopA fa j tm' S')) ∧ Fits F G (OutC.st S' (loopA fa j tm' S')) ∧ loopA fa j tm' S' ≠ .no ∧ Post nt F G m S w Q (loopA fa j tm' S')
  have hne := hp.ne
  have key : ∀ j a' w', I j a' w' → LoopAt rn a Q a' w' := by
    intro j
    induction j with
    | zero => rintro a' w' ⟨m', tm', S', _, _, _, _, _, hn, _⟩; exact absurd rfl hn
    | succ j ih =>
      rintro a' w' ⟨m', tm', S', ev, ab, ht', hfr, hft, hn, hpo⟩
      refine loopAt_of ?_
      have h := ha tm' S'
      cases hra : fa tm' S' with
      | no =>
        have : loopA fa (j + 1) tm' S' = .no := by show loopN (loopA fa j) (fa tm' S') = _; rw [hra]; rfl
        exact absurd this hn
      | ex id tm1 S1 =>
        have e : loopA fa (j + 1) tm' S' = .ex id tm1 S1 := by show loopN (loopA fa j) (fa tm' S') = _; rw [hra]; rfl
        rw [e] at hfr hft hpo
        simp only [hra] at h
        have ab1 : Ab S' S1 := h.1 (by simp)
        exact h.2 rn F G m' w' a' _ hft (hfr.right ab ev) ev.rel ht' hrn fun m2 a2 w2 ev2 ht2 => hpo m2 a2 w2 (ev.trans ev2 ab.nx ab1.nx) ht2
      | rt tm1 S1 =>
        have e : loopA fa (j + 1) tm' S' = .rt tm1 S1 := by show loopN (loopA fa j) (fa tm' S') = _; rw [hra]; rfl
        rw [e] at hfr hft hpo
        simp only [hra] at h
        have ab1 : Ab S' S1 := h.1 (by simp)
        exact h.2 rn F G m' w' a' _ hft (hfr.right ab ev) ev.rel ht' hrn fun m2 a2 w2 ev2 ht2 => hpo m2 a2 w2 (ev.trans ev2 ab.nx ab1.nx) ht2
      | nx tm1 S1 =>
        have e : loopA fa (j + 1) tm' S' = loopA fa j tm1 S1 := by show loopN (loopA fa j) (fa tm' S') = _; rw [hra]; rfl
        rw [e] at hfr hft hpo hn
        simp only [hra] at h
        have ab1 : Ab S' S1 := h.1 (by simp)
        have est : OutC.st S' (loopA fa j tm1 S1) = OutC.st S1 (loopA fa j tm1 S1) := st_loopN hn
        rw [est] at hfr hft
        have ab2 := loop_ab (fun tm S => (ha tm S).1) j tm1 S1 hn
        exact h.2 rn F G m' w' a' _ (hft.back ab2) ((hfr.right ab ev).left ab2) ev.rel ht' hrn fun m2 a2 w2 ev2 ht2 => ih a2 w2 ⟨m2, tm1, S1, ev.trans ev2 ab.nx ab1.nx, ab.trans ab1, ht2, hfr, hft, hn, hpo⟩
  exact wp_of_loopAt (key k ac w ⟨m, tm, S, Ev.rfl hr, Ab.rfl, ht, hfree, hf, hne, hp⟩)

theorem cIf_snd {rd : Bool} {nt : Nat} {x y : Code} {fa fb : CodeF} (ha : CodeSnd rd nt x fa) (hb : CodeSnd rd nt y fb) (c : Operand) : CodeSnd rd nt (.cond c x y) fun tm S => cCond fa fb (evalO c tm) tm S := by
  intro tm S
  show CSnd rd nt _ tm S (cCond fa fb (evalO c tm) tm S)
  generalize hx : evalO c tm = x
  unfold cCond
  split
  · rename_i t
    have hc : evalO c tm = some (.b t) := hx
    clear hx
    cases t with
    | true =>
      refine ⟨(ha tm S).1, fun rn F G m w a Q hf hfree hr ht hrn hp => ?_⟩
      have hcc := evalO_spec hc ht
      simp only [CR] at hcc
      exact wpIn_cond hcc ((ha tm S).2 rn F G m w a Q hf hfree hr ht hrn hp)
    | false =>
      refine ⟨(hb tm S).1, fun rn F G m w a Q hf hfree hr ht hrn hp => ?_⟩
      have hcc := evalO_spec hc ht
      simp only [CR] at hcc
      exact wpIn_cond hcc ((hb tm S).2 rn F G m w a Q hf hfree hr ht hrn hp)
  · exact ⟨fun hn => absurd rfl hn, fun rn F G m w a Q hf hfree hr ht hrn hp => hp.elim⟩

theorem block_snd {rd : Bool} {nt : Nat} {x : Code} {fa : CodeF} (ha : CodeSnd rd nt x fa) (id : Nat) : CodeSnd rd nt (.block id x) fun tm S => cBlock id (fa tm S) := by
  intro tm S
  have h := ha tm S
  simp only
  cases hra : fa tm S with
  | no => exact ⟨fun hn => absurd rfl hn, fun rn F G m w a Q hf hfree hr ht hrn hp => hp.elim⟩
  | nx tm1 S1 =>
    simp only [hra] at h
    refine ⟨fun _ => h.1 (by simp), fun rn F G m w a Q hf hfree hr ht hrn hp => wpIn_block (h.2 rn F G m w a _ hf hfree hr ht hrn fun m' a' w' ev ht' => hp m' a' w' ev ht')⟩
  | rt tm1 S1 =>
    simp only [hra] at h
    refine ⟨fun _ => h.1 (by simp), fun rn F G m w a Q hf hfree hr ht hrn hp => wpIn_block (h.2 rn F G m w a _ hf hfree hr ht hrn fun m' a' w' ev ht' => hp m' a' w' ev ht')⟩
  | ex k tm1 S1 =>
    simp only [hra] at h
    show (Bool.rec (motive := fun _ => OutC) (.ex k tm1 S1) (.nx tm1 S1) (Nat.beq k id) ≠ .no → _) ∧ _
    unfold cBlock
    simp only
    cases hb : Nat.beq k id with
    | true =>
      have hk := Nat.eq_of_beq_eq_true hb
      refine ⟨fun _ => h.1 (by simp), fun rn F G m w a Q hf hfree hr ht hrn hp => wpIn_block (h.2 rn F G m w a _ hf hfree hr ht hrn fun m' a' w' ev ht' => ?_)⟩
      unfold Exit.inBlock
      simp only [hk, if_true]
      exact hp m' a' w' ev ht'
    | false =>
      have hk := Nat.ne_of_beq_eq_false hb
      refine ⟨fun _ => h.1 (by simp), fun rn F G m w a Q hf hfree hr ht hrn hp => wpIn_block (h.2 rn F G m w a _ hf hfree hr ht hrn fun m' a' w' ev ht' => ?_)⟩
      unfold Exit.inBlock
      simp only [hk, if_false]
      exact hp m' a' w' ev ht'

theorem no_snd {rd : Bool} {nt : Nat} {c : Code} : CodeSnd rd nt c fun _ _ => .no := fun tm S => ⟨fun hn => absurd rfl hn, fun rn F G m w a Q hf hfree hr ht hrn hp => hp.elim⟩

/-! a part with labels to which nothing jumps -/
theorem stepR_scope0 {b : Frame} {a : Act} {k : List Item} {cs : List Frame} {w : World} {c : Code} : step PP (lone (b.atR a (.code (.scope c) :: k)) cs w) = .next (lone (b.atR a (.code c :: .inScope c :: k)) cs w) :=
  step_lone_go (by simp [stepG, stepG.exec, Frame.atR])
theorem stepR_inScope0 {b : Frame} {a : Act} {k : List Item} {cs : List Frame} {w : World} {c : Code} : step PP (lone (b.atR a (.inScope c :: k)) cs w) = .next (lone (b.atR a k) cs w) :=
  step_lone_go (by simp [stepG, stepG.exec, Frame.atR])
def NoGoto (Q : Exit → Act → World → Prop) : Exit → Act → World → Prop
  | .goto _, _, _ => False
  | e, a, w => Q e a w
theorem wpIn_scope0 {rn : Option Nat} {c : Code} {Q : Exit → Act → World → Prop} {a : Act} {w : World} (h : c.wpIn (FW rn) 0 PP (NoGoto Q) a w) : (Code.scope c).wpIn (FW rn) 0 PP Q a w := by
  intro b k cs hro hb hr
  have h0 : (lone (b.atR a (.code (.scope c) :: k)) cs w).fenced PP (FW rn) := fenced_calm hb hr rfl
  obtain ⟨e, a₁, w₁, hq, harr⟩ := h b (.inScope c :: k) cs hro hb hr
  cases e with
  | normal => exact ⟨.normal, a₁, w₁, hq, .head h0 stepR_scope0 (StepsIn.trans harr (.one (fenced_calm hb hr rfl) stepR_inScope0))⟩
  | exit id =>
    have hx : exitTo id (.inScope c :: k) = exitTo id k := by simp [exitTo]
    exact ⟨.exit id, a₁, w₁, hq, fun k' hk => .head h0 stepR_scope0 (harr.1 k' (by rw [hx]; exact hk)),
      fun hr' hk => let ⟨k₁, h1, h2⟩ := harr.2 hr' (by rw [hx]; exact hk); ⟨k₁, h1, .head h0 stepR_scope0 h2⟩⟩
  | goto l => exact hq.elim
  | ret => exact ⟨.ret, a₁, w₁, hq, .of_steps (.one h0 stepR_scope0) harr⟩
  | panic ch => exact ⟨_, a₁, w₁, hq, .of_steps (.one h0 stepR_scope0) harr⟩
  | outgrown => exact ⟨_, a₁, w₁, hq, .of_steps (.one h0 stepR_scope0) harr⟩
theorem scope_snd {rd : Bool} {nt : Nat} {x : Code} {fa : CodeF} (ha : CodeSnd rd nt x fa) : CodeSnd rd nt (.scope x) fa := by
  intro tm S
  refine ⟨(ha tm S).1, fun rn F G m w a Q hf hfree hr ht hrn hp => wpIn_scope0 ((ha tm S).2 rn F G m w a _ hf hfree hr ht hrn ?_)⟩
  cases hra : fa tm S with
  | no => rw [hra] at hp; exact hp.elim
  | nx tm1 S1 => rw [hra] at hp; exact fun m' a' w' ev ht' => hp m' a' w' ev ht'
  | ex id tm1 S1 => rw [hra] at hp; exact fun m' a' w' ev ht' => hp m' a' w' ev ht'
  | rt tm1 S1 => rw [hra] at hp; exact fun m' a' w' ev ht' => hp m' a' w' ev ht'

/-! a range over a function -/
theorem marks_add (tm : T AV) (D : Nat) : marks (addMark tm D) = D :: marks tm := by
  unfold marks addMark
  rw [T.get_set _ _ _ _ (by decide) (by decide), if_pos rfl]
  rfl
theorem Tm.mark {m : M} {nt : Nat} {tm : T AV} {a : Act} (h : Tm m nt tm a) {D : Nat} {L : Loc} (hD : m D = some L) :
    Tm m nt (addMark tm D) { a with defers := [{ target := .collected L.blk, args := #[] }] ++ a.defers } := by
  refine ⟨fun t v ht hv => ?_, h.size, ?_⟩
  · unfold addMark at hv
    rw [T.get_set _ _ _ _ (by decide) (by omega), if_neg (by omega)] at hv
    exact h.at_ t v ht hv
  · rw [marks_add]
    exact ⟨L, a.defers, hD, rfl, h.defers⟩
theorem new_rfl {S S' : St} {id : Nat} {o : AObj} (h : S.new o = some (id, S')) : S'.nx = S.nx + 1 ∧ id = S.nx := let ⟨_, _, h2, h3, _⟩ := new_ab h; ⟨h2, h3⟩
theorem jumpTo_st {j : Option Jmp} {tm : T AV} {S S0 : St} : OutC.st S0 (jumpTo j tm S) = S ∧ jumpTo j tm S ≠ .no := by
  match j with
  | none => exact ⟨rfl, fun h => by cases h⟩
  | some .ret => exact ⟨rfl, fun h => by cases h⟩
  | some (.exit id) => exact ⟨rfl, fun h => by cases h⟩
theorem stOf_busy {st : Nat} (h : Nat.beq st 1 = false) : stOf st ≠ .busy := by
  match st with
  | 0 => decide
  | 1 => cases h
  | 2 => decide
  | n + 3 => exact (by decide : LoopState.exhausted ≠ LoopState.busy)
theorem rangeEnd_inv {l D : Nat} {tm : T AV} {q : Option (AV × St)} (h : rangeEnd l D tm q ≠ .no) :
    ∃ v S st j tm' nt' ps a b S1 S2, q = some (v, S) ∧ S.look l = some (.lp st j tm' nt' ps a b, S1) ∧ Nat.beq st 1 = false ∧ S1.put l (some (.lp 3 j tm' nt' ps a b)) = some S2 ∧ rangeEnd l D tm q = jumpTo j (addMark tm D) S2 := by
  unfold rangeEnd at h ⊢
  split at h
  · rename_i v S
    unfold rangeEnd2 at h ⊢
    split at h
    · rename_i st j tm' nt' ps a b S1 hl
      cases hb : Nat.beq st 1 with
      | true => rw [hb] at h; exact absurd rfl h
      | false =>
        rw [hb] at h
        simp only [cond_false] at h
        split at h
        · rename_i S2 hp
          refine ⟨v, S, st, j, tm', nt', ps, a, b, S1, S2, rfl, hl, hb, hp, ?_⟩
          simp only [hl, hb, cond_false, hp]
        · exact absurd rfl h
    · exact absurd rfl h
  · exact absurd rfl h

theorem range_snd {call : CallF} (hc : CallSnd call) {rd : Bool} {nt : Nat} (hnt : nt ≤ 511) (f : Operand) (ps : Array Tmp) (asn bo : Code) : CodeSnd rd nt (.rangeFunc f ps asn bo) (rangeA call rd nt f ps.toList asn bo) := by
  intro tm S
  cases hrd : rd with
  | true => exact ⟨fun hn => absurd rfl hn, fun rn F G m w a Q hf hfree hr ht hrn hp => hp.elim⟩
  | false =>
    show CSnd false nt _ tm S (rangeA call false nt f ps.toList asn bo tm S)
    have key : rangeA call false nt f ps.toList asn bo tm S ≠ .no → ∃ D l S1 S2 g first cap v S3 st j tm' nt' ps' a' b' S4 S5,
        S.new (.df false) = some (D, S1) ∧ S1.new (.lp 0 none tm nt ps.toList asn bo) = some (l, S2) ∧ evalO f tm = some (.f (.func g) first cap) ∧ callable g = true ∧
        call (.fn g) (first ++ [.y l] ++ cap) S2 = some (v, S3) ∧ S3.look l = some (.lp st j tm' nt' ps' a' b', S4) ∧ Nat.beq st 1 = false ∧ S4.put l (some (.lp 3 j tm' nt' ps' a' b')) = some S5 ∧
        rangeA call false nt f ps.toList asn bo tm S = jumpTo j (addMark tm D) S5 := by
      intro h
      unfold rangeA at h ⊢
      simp only [cond_false] at h ⊢
      cases h1 : S.new (.df false) with
      | none => rw [h1] at h; exact absurd rfl h
      | some p =>
        obtain ⟨D, S1⟩ := p
        rw [h1] at h
        simp only at h ⊢
        cases h2 : S1.new (.lp 0 none tm nt ps.toList asn bo) with
        | none => rw [h2] at h; exact absurd rfl h
        | some p =>
          obtain ⟨l, S2⟩ := p
          rw [h2] at h
          simp only at h ⊢
          unfold rangeGo at h ⊢
          split at h
          · rename_i g first cap hfo
            cases hcb : callable g with
            | false => rw [hcb] at h; exact absurd rfl h
            | true =>
              rw [hcb] at h
              simp only [cond_true] at h
              obtain ⟨v, S3, st, j, tm', nt', ps', a', b', S4, S5, e1, e2, e3, e4, e5⟩ := rangeEnd_inv h
              refine ⟨D, l, S1, S2, g, first, cap, v, S3, st, j, tm', nt', ps', a', b', S4, S5, rfl, h2, hfo, hcb, e1, e2, e3, e4, ?_⟩
              simp only [hfo, hcb, cond_true]
              exact e5
          · exact absurd rfl h
    have hab : ∀ {D l : Nat} {S1 S2 S3 S4 S5 : St} {o1 o2 o3 o4 : AObj} {g : FuncId} {args : List AV} {v : AV}, S.new o1 = some (D, S1) → S1.new o2 = some (l, S2) → call (.fn g) args S2 = some (v, S3) → S3.look l = some (o3, S4) → S4.put l (some o4) = some S5 →
        Ab S S1 ∧ Ab S1 S2 ∧ Ab S2 S3 ∧ Ab S3 S4 ∧ Ab S4 S5 := by
      intro D l S1 S2 S3 S4 S5 o1 o2 o3 o4 g args v e1 e2 e3 e4 e5
      obtain ⟨ab4, hh, _, hg, _, _, hid⟩ := look_ab e4
      exact ⟨(new_ab e1).1, (new_ab e2).1, (hc _ _ _ _ _ e3).1, ab4, (put_ab e5 hid (by rw [hh, hg]; rfl)).1⟩
    refine ⟨fun hn => ?_, fun rn F G m w a Q hf hfree hr ht hrn hp => ?_⟩
    · obtain ⟨D, l, S1, S2, g, first, cap, v, S3, st, j, tm', nt', ps', a', b', S4, S5, e1, e2, e3, e4, e5, e6, e7, e8, e9⟩ := key hn
      obtain ⟨a1, a2, a3, a4, a5⟩ := hab e1 e2 e5 e6 e8
      rw [e9, jumpTo_st.1]
      exact (((a1.trans a2).trans a3).trans a4).trans a5
    · obtain ⟨D, l, S1, S2, g, first, cap, v, S3, st, j, tm', nt', ps', a', b', S4, S5, e1, e2, e3, e4, e5, e6, e7, e8, e9⟩ := key hp.ne
      obtain ⟨a1, a2, a3, a4, a5⟩ := hab e1 e2 e5 e6 e8
      rw [e9] at hf hfree hp
      rw [jumpTo_st.1] at hf hfree
      have hrn' := hrn rfl
      subst hrn'
      have f4 := hf.back a5
      have f3 := f4.back a4
      have f2 := f3.back a3
      have f1 := f2.back a2
      have n5 : S.nx ≤ S5.nx := ((((a1.trans a2).trans a3).trans a4).trans a5).nx
      have n25 : S2.nx ≤ S5.nx := ((a3.trans a4).trans a5).nx
      have n15 : S1.nx ≤ S5.nx := (((a2.trans a3).trans a4).trans a5).nx
      -- the block and the record
      obtain ⟨q1, q2⟩ := new_rfl e1
      obtain ⟨q3, q4⟩ := new_rfl e2
      obtain ⟨ev1, hD⟩ := new_gen e1 f1 (hfree D (by omega) (by omega)) hr (.deferred (some [])) fun m' w' _ h => h
      generalize hm1 : (fun k => if k = D then some (⟨w.heap.size, 0, 0⟩ : Loc) else m k) = m1 at ev1 hD
      have free1 : m1 l = none := by
        rw [ev1.old l (.inr (by omega))]
        exact hfree l (by omega) (by omega)
      refine wpIn_rangeFunc fun fn hfn => ?_
      let rec0 : Loop := { state := .ready, pending := none, fn := fn, tmps := a.tmps, params := ps, assign := asn, body := bo, defers := w.heap.size }
      obtain ⟨ev2, hl⟩ := new_gen e2 f2 free1 ev1.rel (.loop rec0) fun m' w' hs h =>
        ⟨rec0, h, rfl, rfl, ⟨fun t v ht' hv => let ⟨u, h1, h2⟩ := ht.at_ t v ht' hv; ⟨u, h1, (h2.mono ev1.sub).mono hs⟩, ht.size⟩, rfl, rfl, rfl⟩
      generalize hm2 : (fun k => if k = l then some (⟨(w.alloc (.deferred (some []))).heap.size, 0, 0⟩ : Loc) else m1 k) = m2 at ev2 hl
      have hsz : (w.alloc (.deferred (some []))).heap.size = w.heap.size + 1 := by show (w.heap.push _).size = _; simp
      rw [hsz] at hl
      have ev12 := ev1.trans ev2 a1.nx a2.nx
      have hfo := (evalO_spec e3 ht)
      simp only [CR] at hfo
      obtain ⟨xs, ys, ef, hxs, hys⟩ := hfo
      let vs : List Value := xs ++ [.func (.yield (w.heap.size + 1)) #[] #[]] ++ ys
      have hcr : CRL m2 (first ++ [.y l] ++ cap) vs := by
        refine ((CRL.mono ev12.sub _ _ hxs).append ?_).append (CRL.mono ev12.sub _ _ hys)
        exact ⟨_, _, rfl, ⟨_, hl, rfl⟩, rfl⟩
      refine ⟨w.heap.size + 1, [{ target := .collected w.heap.size, args := #[] }], _, { target := .fn (.func g) ys.toArray, args := xs.toArray ++ #[.func (.yield (w.heap.size + 1)) #[] #[]] }, (w.alloc (.deferred (some []))).alloc (.loop rec0), g, vs.toArray, (w.alloc (.deferred (some []))).alloc (.loop rec0), run_enterLoop_outer fn a.tmps ps asn bo, ?_, fun _ _ => trivial, ?_, (fun h => by cases h), ?_⟩
      · have : Act.eval { tmps := a.tmps, defers := [{ target := .collected w.heap.size, args := #[] }] ++ a.defers } = a.eval := rfl
        simp only [resolve, ef, Deferred.ofValue, Sem.run_pure]
        congr 2
        apply Array.ext'; simp [Act.eval]
      · have := callable_spec e4 vs.toArray ((w.alloc (.deferred (some []))).alloc (.loop rec0))
        simp only [invoke]
        rw [← this]
        congr 2
        apply Array.ext'
        simp [vs]
      · obtain ⟨_, hs⟩ := hc _ _ _ _ _ e5
        refine hs F G m2 _ vs _ f3 (fun k k1 k2 => ?_) ev2.rel hcr fun m3 u w3 ev3 _ => ?_
        · rw [ev12.old k (.inr k1)]
          exact hfree k (by have := (a1.trans a2).nx; omega) (by have := (a4.trans a5).nx; omega)
        · obtain ⟨_, hh4, hn4, hg4, hrd4, _, hid4⟩ := look_ab e6
          obtain ⟨L, hL, r, hb, hst, hpd, htv, hps, has, hbo⟩ := ev3.rel.obj l _ hid4 (f4.1 l hrd4) hg4
          have hL' := ev3.sub _ _ hl
          rw [hL] at hL'
          injection hL' with hL'
          subst hL'
          refine ⟨j.map Jmp.code, w3.putObj (w.heap.size + 1) (.loop { r with state := .exhausted }), ?_, ?_⟩
          · rw [← hpd]; exact run_endLoop hb (by rw [hst]; exact stOf_busy e7)
          · have hevp : Ev F G m3 m3 S4 S5 w3 (w3.putObj (w.heap.size + 1) (.loop { r with state := .exhausted })) := by
              refine put_gen (L := ⟨w.heap.size + 1, 0, 0⟩) hid4 e8 hf (by rw [hh4]; exact hg4) (by rw [hh4]; exact ev3.rel) hL (Array.getElem?_eq_some_iff.1 hb).1 _ fun w' h => ?_
              exact ⟨_, h, rfl, hpd, htv, hps, has, hbo⟩
            have hev34 : Ev F G m3 m3 S3 S4 w3 w3 := ⟨fun _ _ => rfl, Sub.rfl, by rw [hh4]; exact ev3.rel, Nat.le_refl _, fun _ _ _ => rfl, fun k L q1 q2 => by omega, rfl, rfl, rfl⟩
            have evAll := (((ev12.trans ev3 (a1.trans a2).nx a3.nx).trans hev34 ((a1.trans a2).trans a3).nx a4.nx).trans hevp (((a1.trans a2).trans a3).trans a4).nx a5.nx)
            have hD3 : m3 D = some ⟨w.heap.size, 0, 0⟩ := ev3.sub _ _ (ev2.sub _ _ hD)
            have htm := (ht.mono evAll.sub).mark hD3
            match j, hp with
            | none, hp => exact hp m3 _ _ evAll htm
            | some .ret, hp => exact wpIn_ret (hp m3 _ _ evAll htm)
            | some (.exit id), hp => exact wpIn_exit (hp m3 _ _ evAll htm)

theorem runCode_snd {call : CallF} (hc : CallSnd call) {rd : Bool} {nt : Nat} (hnt : nt ≤ 511) (c : Code) : CodeSnd rd nt c (runCode call rd nt c) := by
  induction c with
  | skip => exact fun tm S => ⟨fun _ => Ab.rfl, fun rn F G m w a Q hf hfree hr ht hrn hp => wpIn_skip (hp m a w (Ev.rfl hr) ht)⟩
  | region id ops draw =>
    intro tm S
    show (cNorm (runRegion call ops draw nt tm S) ≠ .no → Ab S (OutC.st S (cNorm (runRegion call ops draw nt tm S)))) ∧ ∀ (rn : Option Nat) (F G : Nat → Prop) (m : M) (w : World) (a : Act) (Q : Exit → Act → World → Prop), Fits F G (OutC.st S (cNorm (runRegion call ops draw nt tm S))) → Free m S (OutC.st S (cNorm (runRegion call ops draw nt tm S))) → Rel F m S.h w → Tm m nt tm a → (rd = false → rn = none) → Post nt F G m S w Q (cNorm (runRegion call ops draw nt tm S)) → _
    cases hr : runRegion call ops draw nt tm S with
    | no => exact ⟨fun hn => absurd rfl hn, fun rn F G m w a Q hf hfree hr ht hrn hp => hp.elim⟩
    | ok tm1 S1 =>
      obtain ⟨ab, hs⟩ := runRegion_spec (id := id) hc hnt hr
      exact ⟨fun _ => ab, fun rn F G m w a Q hf hfree hr ht hrn hp => hs rn F G m w a Q hf hfree hr ht fun m' a' w' ev ht' => hp m' a' w' ev ht'⟩
  | seq a b iha ihb => exact seq_snd iha ihb
  | cond c a b iha ihb => exact cIf_snd iha ihb c
  | block id a iha => exact block_snd iha id
  | loop a iha => exact loop_snd iha 1000000
  | rangeFunc f ps a b _ _ => exact range_snd hc hnt f ps a b
  | exit id => exact fun tm S => ⟨fun _ => Ab.rfl, fun rn F G m w a Q hf hfree hr ht hrn hp => wpIn_exit (hp m a w (Ev.rfl hr) ht)⟩
  | scope a iha => exact scope_snd iha
  | label l => exact fun tm S => ⟨fun _ => Ab.rfl, fun rn F G m w a Q hf hfree hr ht hrn hp => wpIn_label (hp m a w (Ev.rfl hr) ht)⟩
  | goto l => exact no_snd
  | ret => exact fun tm S => ⟨fun _ => Ab.rfl, fun rn F G m w a Q hf hfree hr ht hrn hp => wpIn_ret (hp m a w (Ev.rfl hr) ht)⟩
  | refuse why => exact no_snd

/-! functions -/
theorem argsT_get : ∀ (l : List AV) (k : Nat) (t : T AV) (i : Nat), k + l.length ≤ 512 → i < 512 → T.get (argsT l k t) i = if k ≤ i ∧ i < k + l.length then l[i - k]? else T.get t i
  | [], k, t, i, _, _ => by simp [argsT]; omega
  | v :: l, k, t, i, hk, hi => by
    unfold argsT
    rw [argsT_get l (k + 1) _ i (by simp at hk; omega) hi, T.get_set _ _ _ _ (by simp at hk; omega) hi]
    by_cases h : i = k
    · subst h
      rw [if_neg (by omega), if_pos rfl, if_pos (by simp)]
      simp
    · rw [if_neg h]
      by_cases h2 : k + 1 ≤ i ∧ i < k + 1 + l.length
      · rw [if_pos h2, if_pos (by simp; omega)]
        obtain ⟨j, rfl⟩ : ∃ j, i = k + 1 + j := ⟨i - (k + 1), by omega⟩
        rw [show k + 1 + j - (k + 1) = j by omega, show k + 1 + j - k = j + 1 by omega]
        simp
      · rw [if_neg h2, if_neg (by simp; omega)]
theorem Tm.enter {m : M} {args : List AV} {vs : List Value} {nt : Nat} (hc : CRL m args vs) (hl : args.length ≤ nt) (hnt : nt ≤ 511) :
    Tm m nt (argsT args 0 T.nil) { tmps := vs.toArray ++ Array.replicate (nt - vs.toArray.size) undef, defers := [] } := by
  have hlen := hc.length
  refine ⟨fun t v ht hv => ?_, by simp; omega, ?_⟩
  rotate_left
  · have : marks (argsT args 0 T.nil) = [] := by
      unfold marks
      rw [argsT_get args 0 T.nil 511 (by omega) (by omega), if_neg (by omega), T.get_nil]
    rw [this]
    rfl
  rw [argsT_get args 0 T.nil t (by omega) (by omega)] at hv
  split at hv
  · rename_i h
    simp only [Nat.sub_zero] at hv
    obtain ⟨u, h1, h2⟩ := hc.get hv
    refine ⟨u, ?_, h2⟩
    rw [Array.getElem?_append_left (by simp; omega)]
    simpa using h1
  · rw [T.get_nil] at hv; cases hv

def resSem (a : Act) (r : ResultVar) : Sem Value := match r with
  | .tmp t => pure (a.tmps.getD t undef)
  | .cell c t => do loadVar t (← asAddr (a.tmps.getD c undef))
theorem aResult_spec {nt : Nat} {tm : T AV} {S S' : St} {r : ResultVar} {v : AV} (h : aResult tm S r = some (v, S')) :
    Ab S S' ∧ ∀ (F G : Nat → Prop) (m : M) (w : World) (a : Act), Fits F G S' → Rel F m S.h w → Tm m nt tm a →
      Rel F m S'.h w ∧ S'.nx = S.nx ∧ ∃ u, CR m v u ∧ (resSem a r).run PP w = .ok u w := by
  cases r with
  | tmp t =>
    simp only [aResult] at h
    cases hg : getO t tm with
    | none => rw [hg] at h; cases h
    | some x =>
      rw [hg] at h
      injection h with h; injection h with h1 h2; subst h1; subst h2
      refine ⟨Ab.rfl, fun F G m w a hf hr ht => ⟨hr, rfl, ?_⟩⟩
      obtain ⟨u, e1, e2⟩ := getO_spec hg ht
      exact ⟨u, e2, by simp [resSem, Array.getD_eq_getD_getElem?, e1]⟩
  | cell c t =>
    simp only [aResult] at h
    split at h
    · rename_i x hx
      have h0 := h
      refine ⟨aLoad_ab h, fun F G m w a hf hr ht => ?_⟩
      obtain ⟨u, e1, e2⟩ := getO_spec hx ht
      unfold aLoad at h
      split at h
      · rename_i id off
        simp only [CR] at e2
        obtain ⟨L, hL, rfl⟩ := e2
        split at h
        · rename_i l sz S1 hl
          split at h
          · rename_i v' hv
            injection h with h; injection h with h1 h2; subst h2; subst h1
            obtain ⟨ab, hh, hn, _⟩ := look_ab hl
            obtain ⟨ev, _, _, L', hL', pre, xs, post, e, hw, hp, hcc, _⟩ := look_rel hl hf hr
            rw [hL] at hL'
            injection hL' with hL'
            subst hL'
            obtain ⟨y, q1, q2⟩ := loadVar_spec hw hcc hv
            rw [hp] at q1
            exact ⟨ev.rel, hn, y, q2, by simp [resSem, Array.getD_eq_getD_getElem?, e1, asAddr, q1]⟩
          · cases h
        · cases h
      · cases h
    · cases h

theorem aResults_spec {nt : Nat} {tm : T AV} : ∀ {rs : List ResultVar} {S S' : St} {vs : List AV}, aResults tm rs S = some (vs, S') →
    Ab S S' ∧ ∀ (F G : Nat → Prop) (m : M) (w : World) (a : Act), Fits F G S' → Rel F m S.h w → Tm m nt tm a →
      Rel F m S'.h w ∧ S'.nx = S.nx ∧ ∃ us, CRL m vs us ∧ (rs.mapM (resSem a)).run PP w = .ok us w
  | [], S, S', vs, h => by
    injection h with h; injection h with h1 h2; subst h1; subst h2
    exact ⟨Ab.rfl, fun F G m w a hf hr ht => ⟨hr, rfl, [], rfl, by simp⟩⟩
  | r :: rs, S, S', vs, h => by
    simp only [aResults] at h
    split at h
    · cases h
    · rename_i v S1 hv
      split at h
      · cases h
      · rename_i vs' S2 hvs
        injection h with h; injection h with h1 h2; subst h1; subst h2
        obtain ⟨ab1, hs1⟩ := aResult_spec (nt := nt) hv
        obtain ⟨ab2, hs2⟩ := aResults_spec (nt := nt) hvs
        refine ⟨ab1.trans ab2, fun F G m w a hf hr ht => ?_⟩
        obtain ⟨r1, n1, u, c1, e1⟩ := hs1 F G m w a (hf.back ab2) hr ht
        obtain ⟨r2, n2, us, c2, e2⟩ := hs2 F G m w a hf r1 ht
        exact ⟨r2, by omega, u :: us, ⟨u, us, rfl, c1, c2⟩, by simp only [List.mapM_cons, Sem.run_bind, e1, Result.andThen_ok, e2, Sem.run_pure]⟩

theorem endFn2_spec {nt : Nat} {fn : Func} {tm : T AV} {S S' : St} {v : AV} (h : endFn2 (aResults tm fn.results.toList S) = some (v, S')) :
    Ab S S' ∧ ∀ (F G : Nat → Prop) (m : M) (w : World) (a : Act), Fits F G S' → Rel F m S.h w → Tm m nt tm a →
      Rel F m S'.h w ∧ S'.nx = S.nx ∧ ∃ u, CR m v u ∧ (results fn a.tmps).run PP w = .ok u w := by
  have hmap : ∀ (a : Act), (results fn a.tmps) = (do
      let vs ← fn.results.toList.mapM (resSem a)
      let vs := vs.toArray
      pure (if h : vs.size = 1 then vs[0] else .tuple vs)) := by
    intro a
    have hf : (fun (r : ResultVar) => (match r with
        | .tmp t => pure (a.tmps.getD t undef)
        | .cell c t => do loadVar t (← asAddr (a.tmps.getD c undef)) : Sem Value)) = resSem a := by
      funext r; cases r <;> rfl
    unfold results
    rw [Array.mapM_eq_mapM_toList, ← hf]
    simp only [bind_map_left]
    rfl
  cases hr : aResults tm fn.results.toList S with
  | none => rw [hr] at h; cases h
  | some p =>
    obtain ⟨vs, S1⟩ := p
    rw [hr] at h
    obtain ⟨ab, hs⟩ := aResults_spec (nt := nt) hr
    have hend : S1 = S' ∧ ((∃ x, vs = [x] ∧ v = x) ∨ (vs.length ≠ 1 ∧ v = .tup vs)) := by
      match vs, h with
      | [], h =>
        injection h with h; injection h with h1 h2
        exact ⟨h2, .inr ⟨by simp, h1.symm⟩⟩
      | [x], h =>
        injection h with h; injection h with h1 h2
        exact ⟨h2, .inl ⟨x, rfl, h1.symm⟩⟩
      | x :: y :: l, h =>
        injection h with h; injection h with h1 h2
        exact ⟨h2, .inr ⟨by simp, h1.symm⟩⟩
    obtain ⟨rfl, hv⟩ := hend
    refine ⟨ab, fun F G m w a hf hrl ht => ?_⟩
    obtain ⟨r1, n1, us, c1, e1⟩ := hs F G m w a hf hrl ht
    refine ⟨r1, n1, ?_⟩
    rcases hv with ⟨x, rfl, rfl⟩ | ⟨hl, rfl⟩
    · simp only [CRL] at c1
      obtain ⟨u, _, rfl, c2, rfl⟩ := c1
      refine ⟨u, c2, ?_⟩
      rw [hmap, Sem.run_bind, e1]
      simp [Result.andThen]
    · refine ⟨.tuple us.toArray, ⟨us, rfl, c1⟩, ?_⟩
      have hus : ¬ us.toArray.size = 1 := by rw [List.size_toArray, c1.length]; exact hl
      rw [hmap, Sem.run_bind, e1]
      simp [Result.andThen, hus, c1.length, hl]

/-! the marks at a function's end -/
theorem takeOne_inv {D : Nat} {o : Option (AObj × St)} {S' : St} (h : takeOne D o = some S') : ∃ S1, o = some (.df false, S1) ∧ S1.put D (some (.df true)) = some S' := by
  unfold takeOne at h
  split at h
  · exact ⟨_, rfl, h⟩
  · cases h
theorem takeAll_spec {fn : Func} {tmps : Array Value} {R : Ending → World → Prop} : ∀ {ms : List Nat} {S S' : St}, takeAll ms S = some S' → Ab S S' ∧ S'.nx = S.nx ∧
    ∀ (F G : Nat → Prop) (m : M) (w : World) (ds : List Deferred), Fits F G S' → Rel F m S.h w → DR m ms ds →
      (∀ w', Ev F G m m S S' w w' → LeavesInM (FW none) 0 PP fn tmps R [] .returning w') → LeavesInM (FW none) 0 PP fn tmps R ds .returning w
  | [], S, S', h => by
    injection h with h; subst h
    refine ⟨Ab.rfl, rfl, fun F G m w ds hf hr hd hk => ?_⟩
    simp only [DR] at hd
    subst hd
    exact hk w (Ev.rfl hr)
  | D :: ms, S, S', h => by
    unfold takeAll at h
    split at h
    · rename_i S2 ho
      obtain ⟨S1, hl, hp⟩ := takeOne_inv ho
      obtain ⟨ab1, hh, hn, hg, hrd, _, hid⟩ := look_ab hl
      obtain ⟨ab2, _, hn2, _⟩ := put_ab hp hid (by rw [hh, hg]; rfl)
      obtain ⟨ab3, hn3, hs⟩ := takeAll_spec (fn := fn) (tmps := tmps) (R := R) h
      refine ⟨(ab1.trans ab2).trans ab3, by omega, fun F G m w ds hf hr hd hk => ?_⟩
      obtain ⟨L, rs, hL, rfl, hrs⟩ := hd
      have f2 := hf.back ab3
      have f1 := f2.back ab2
      obtain ⟨L', hL', hO⟩ := hr.obj D _ hid (f1.1 D hrd) hg
      rw [hL] at hL'
      injection hL' with hL'
      subst hL'
      have hO' : w.heap[L.blk]? = some (.deferred (some [])) := hO
      have ev1 : Ev F G m m S S1 w w := ⟨fun _ _ => rfl, Sub.rfl, by rw [hh]; exact hr, Nat.le_refl _, fun _ _ _ => rfl, fun k L q1 q2 => by omega, rfl, rfl, rfl⟩
      have ev2 : Ev F G m m S1 S2 w (w.putObj L.blk (.deferred none)) := put_gen hid hp f2 (by rw [hh]; exact hg) (by rw [hh]; exact hr) hL hO.lt _ fun w' h => h
      refine ⟨(fun e => by cases e), .inl ⟨L.blk, _, rfl, run_takeDeferred hO', hs F G m _ rs hf ev2.rel hrs fun w' ev3 => hk w' ((ev1.trans ev2 ab1.nx ab2.nx).trans ev3 (ab1.trans ab2).nx ab3.nx)⟩⟩
    · cases h

theorem endFn3_spec {nt : Nat} {fn : Func} {tm : T AV} {S S' : St} {v : AV} (h : endFn3 fn tm S = some (v, S')) :
    Ab S S' ∧ ∀ (F G : Nat → Prop) (m : M) (w : World) (a : Act) (R : Ending → World → Prop), Fits F G S' → Rel F m S.h w → Tm m nt tm a →
      (∀ u w', Ev F G m m S S' w w' → CR m v u → R (.returned u) w') → LeavesInM (FW none) 0 PP fn a.tmps R a.defers .returning w := by
  unfold endFn3 at h
  split at h
  · rename_i S1 ht1
    obtain ⟨ab2, hs2⟩ := endFn2_spec (nt := nt) h
    have ab1 := (takeAll_spec (fn := fn) (tmps := #[]) (R := fun _ _ => True) ht1).1
    refine ⟨ab1.trans ab2, fun F G m w a R hf hr ht hk => ?_⟩
    refine (takeAll_spec ht1).2.2 F G m w a.defers (hf.back ab2) hr ht.defers fun w' ev => ?_
    obtain ⟨r1, n1, u, c1, e1⟩ := hs2 F G m w' a hf ev.rel ht
    exact ⟨u, e1, hk u w' (ev.trans ⟨fun _ _ => rfl, Sub.rfl, r1, Nat.le_refl _, fun _ _ _ => rfl, fun k L q1 q2 => by omega, rfl, rfl, rfl⟩ ab1.nx ab2.nx) c1⟩
  · cases h

theorem runFn_snd {call : CallF} (hc : CallSnd call) {f : FuncId} {args : List AV} {S S' : St} {v : AV} (h : runFn call f args S = some (v, S')) :
    Ab S S' ∧ ∀ (F G : Nat → Prop) (m : M) (w : World) (vs : List Value) (R : Ending → World → Prop), Fits F G S' → Free m S S' → Rel F m S.h w → CRL m args vs →
      (∀ m' u w', Ev F G m m' S S' w w' → CR m' v u → R (.returned u) w') → CallsIn (FW none) 0 PP f vs.toArray w R := by
  unfold runFn at h
  split at h
  · cases h
  · rename_i fn hfn
    split at h
    · cases h
    · rename_i c hbody
      have hcs := cond_some h; clear h; obtain ⟨hb, h⟩ := hcs
      simp only [Bool.and_eq_true] at hb
      have b1 := ble_spec hb.1
      have b2 := ble_spec hb.2
      have hcode := runCode_snd hc (rd := false) b2 c (argsT args 0 T.nil) S
      unfold endFn at h
      split at h
      · rename_i tm1 S1 hr
        simp only [hr] at hcode
        obtain ⟨ab2, hs2⟩ := endFn3_spec (nt := fn.ntmps) h
        have ab1 : Ab S S1 := hcode.1 (by simp)
        refine ⟨ab1.trans ab2, fun F G m w vs R hf hfree hrl hcr hR => ?_⟩
        refine callsIn_of_wp_marks hfn hbody trivial (hcode.2 none F G m w _ _ (hf.back ab2) (hfree.left ab2) hrl (Tm.enter hcr b1 b2) (fun _ => rfl) fun m' a' w' ev ht' => ?_)
        exact hs2 F G m' w' a' R hf ev.rel ht' fun u w'' ev2 c1 => hR m' u w'' (ev.trans ev2 ab1.nx ab2.nx) c1
      · rename_i tm1 S1 hr
        simp only [hr] at hcode
        obtain ⟨ab2, hs2⟩ := endFn3_spec (nt := fn.ntmps) h
        have ab1 : Ab S S1 := hcode.1 (by simp)
        refine ⟨ab1.trans ab2, fun F G m w vs R hf hfree hrl hcr hR => ?_⟩
        refine callsIn_of_wp_marks hfn hbody trivial (hcode.2 none F G m w _ _ (hf.back ab2) (hfree.left ab2) hrl (Tm.enter hcr b1 b2) (fun _ => rfl) fun m' a' w' ev ht' => ?_)
        exact hs2 F G m' w' a' R hf ev.rel ht' fun u w'' ev2 c1 => hR m' u w'' (ev.trans ev2 ab1.nx ab2.nx) c1
      · cases h

/-! one round of a range over a function -/
theorem setPs_spec {m : M} {nt : Nat} (hnt : nt ≤ 511) : ∀ {ps : List Tmp} {args : List AV} {vs : List Value} {tm : T AV} {tmps : Array Value}, TmV m nt tm tmps → CRL m args vs → ps.all (fun p => Nat.blt p nt) = true →
    TmV m nt (setPs ps args tm) ((ps.zip vs).foldl (fun tmps (t, a) => tmps.setIfInBounds t a) tmps)
  | [], args, vs, tm, tmps, h, _, _ => by
    cases args <;> exact h
  | p :: ps, [], vs, tm, tmps, h, hc, _ => by
    simp only [CRL] at hc
    subst hc
    exact h
  | p :: ps, x :: args, vs, tm, tmps, h, hc, hp => by
    simp only [CRL] at hc
    obtain ⟨u, vs', rfl, hu, hvs⟩ := hc
    simp only [List.all_cons, Bool.and_eq_true] at hp
    have hpn := blt_spec hp.1
    refine setPs_spec hnt (tm := T.set tm p (some x)) (tmps := tmps.setIfInBounds p u) ⟨fun t v ht hv => ?_, by simpa using h.2⟩ hvs hp.2
    rw [T.get_set _ _ _ _ (by omega) (by omega)] at hv
    by_cases hk : t = p
    · subst hk
      rw [if_pos rfl] at hv
      injection hv with hv
      subst hv
      exact ⟨u, by rw [Array.getElem?_setIfInBounds_self_of_lt (by rw [h.2]; exact hpn)], hu⟩
    · rw [if_neg hk] at hv
      obtain ⟨y, h1, h2⟩ := h.1 t v ht hv
      exact ⟨y, by rw [Array.getElem?_setIfInBounds_ne (by omega)]; exact h1, h2⟩

theorem endR_spec {id : Nat} {j : Option Jmp} {S S' : St} {v : AV} (h : endR id j S = some (v, S')) :
    Ab S S' ∧ ∀ (F G : Nat → Prop) (m : M) (w : World) (L : Loc), Fits F G S' → Rel F m S.h w → m id = some L →
      ∃ u w', (Instr.endRound L.blk (j.map Jmp.code)).run PP w = .ok u w' ∧ Ev F G m m S S' w w' ∧ CR m v u := by
  unfold endR endR2 at h
  split at h
  · rename_i st j0 tm nt ps a b S1 hl
    split at h
    · rename_i S2 hp
      injection h with h; injection h with h1 h2; subst h1; subst h2
      obtain ⟨ab1, hh, hn, hg, hrd, _, hid⟩ := look_ab hl
      obtain ⟨ab2, _⟩ := put_ab hp hid (by rw [hh, hg]; rfl)
      refine ⟨ab1.trans ab2, fun F G m w L hf hr hL => ?_⟩
      have f1 := hf.back ab2
      obtain ⟨L', hL', r, hb, hst, hpd, htv, hps, has, hbo⟩ := hr.obj id _ hid (f1.1 id hrd) hg
      rw [hL] at hL'
      injection hL' with hL'
      subst hL'
      refine ⟨.bool j.isNone, w.putObj L.blk (.loop { r with state := if j.isNone then .ready else .done, pending := j.map Jmp.code }), ?_, ?_, ?_⟩
      · have := run_endRound (P := PP) (w := w) (r := r) (j.map Jmp.code) hb
        rw [Option.isNone_map] at this
        exact this
      · have ev1 : Ev F G m m S S1 w w := ⟨fun _ _ => rfl, Sub.rfl, by rw [hh]; exact hr, Nat.le_refl _, fun _ _ _ => rfl, fun k L q1 q2 => by omega, rfl, rfl, rfl⟩
        refine ev1.trans (put_gen hid hp hf (by rw [hh]; exact hg) (by rw [hh]; exact hr) hL (Array.getElem?_eq_some_iff.1 hb).1 _ fun w' h => ?_) ab1.nx ab2.nx
        refine ⟨_, h, ?_, rfl, htv, hps, has, hbo⟩
        cases j <;> rfl
      · simp only [CR]
    · cases h
  · cases h

theorem roundEnd_inv {id : Nat} {r : OutC} {v : AV} {S' : St} (h : roundEnd id r = some (v, S')) :
    ∃ j S, endR id j S = some (v, S') ∧ ∀ S0, OutC.st S0 r = S ∧ r ≠ .no ∧ ∀ (nt : Nat) (F G : Nat → Prop) (m : M) (w : World) (Q : Exit → Act → World → Prop),
      (∀ m' w' a' e, Ev F G m m' S0 S w w' → (e, j) ∈ [(Exit.normal, none), (Exit.ret, some Jmp.ret)] ∨ (∃ k, e = .exit k ∧ j = some (.exit k)) → Q e a' w') → Post nt F G m S0 w Q r := by
  cases r with
  | no => cases h
  | nx tm S => exact ⟨none, S, h, fun S0 => ⟨rfl, (fun e => by cases e), fun nt F G m w Q hk m' a' w' ev _ => hk m' w' a' _ ev (.inl (by simp))⟩⟩
  | ex k tm S => exact ⟨some (.exit k), S, h, fun S0 => ⟨rfl, (fun e => by cases e), fun nt F G m w Q hk m' a' w' ev _ => hk m' w' a' _ ev (.inr ⟨k, rfl, rfl⟩)⟩⟩
  | rt tm S => exact ⟨some .ret, S, h, fun S0 => ⟨rfl, (fun e => by cases e), fun nt F G m w Q hk m' a' w' ev _ => hk m' w' a' _ ev (.inl (by simp))⟩⟩

theorem beginR_spec {id : Nat} {S S' : St} (h : beginR2 id (S.look id) = some S') :
    Ab S S' ∧ ∀ (F G : Nat → Prop) (m : M) (w : World) (L : Loc), Fits F G S' → Rel F m S.h w → m id = some L →
      ∃ w', (Instr.beginRound L.blk).run PP w = .ok () w' ∧ Ev F G m m S S' w w' := by
  unfold beginR2 at h
  split at h
  · rename_i st j0 tm nt ps a b S1 hl
    cases hb0 : Nat.beq st 0 with
    | false => rw [hb0] at h; cases h
    | true =>
      rw [hb0] at h
      simp only [cond_true] at h
      have hst0 := Nat.eq_of_beq_eq_true hb0
      subst hst0
      obtain ⟨ab1, hh, hn, hg, hrd, _, hid⟩ := look_ab hl
      obtain ⟨ab2, _⟩ := put_ab h hid (by rw [hh, hg]; rfl)
      refine ⟨ab1.trans ab2, fun F G m w L hf hr hL => ?_⟩
      have f1 := hf.back ab2
      obtain ⟨L', hL', r, hb, hst, hpd, htv, hps, has, hbo⟩ := hr.obj id _ hid (f1.1 id hrd) hg
      rw [hL] at hL'
      injection hL' with hL'
      subst hL'
      refine ⟨_, run_beginRound hb hst, ?_⟩
      have ev1 : Ev F G m m S S1 w w := ⟨fun _ _ => rfl, Sub.rfl, by rw [hh]; exact hr, Nat.le_refl _, fun _ _ _ => rfl, fun k L q1 q2 => by omega, rfl, rfl, rfl⟩
      refine ev1.trans (put_gen hid h hf (by rw [hh]; exact hg) (by rw [hh]; exact hr) hL (Array.getElem?_eq_some_iff.1 hb).1 _ fun w' h => ?_) ab1.nx ab2.nx
      exact ⟨_, h, rfl, hpd, htv, hps, has, hbo⟩
  · cases h

theorem round_snd {call : CallF} (hc : CallSnd call) {id : Nat} {args : List AV} {S S' : St} {v : AV} (h : runRound call id args S = some (v, S')) :
    Ab S S' ∧ ∀ (F G : Nat → Prop) (m : M) (w : World) (vs : List Value) (R : Ending → World → Prop), Fits F G S' → Free m S S' → Rel F m S.h w → CRL m args vs →
      (∀ m' u w', Ev F G m m' S S' w w' → CR m' v u → R (.returned u) w') →
      ∀ L, m id = some L → ∃ fn tmps assign body, (Instr.yield L.blk vs.toArray).run PP w = .ok (.round L.blk fn tmps assign body) w ∧ RoundIn (FW none) 0 PP L.blk fn tmps assign body w R := by
  unfold runRound runRound2 at h
  split at h
  · rename_i st j0 tm nt ps asn bo S1 hl
    have hcs := cond_some h; clear h; obtain ⟨hb, h⟩ := hcs
    simp only [Bool.and_eq_true] at hb
    have hlen := Nat.eq_of_beq_eq_true hb.1.1
    have hnt := ble_spec hb.2
    unfold roundB at h
    have hA := runCode_snd hc (rd := true) hnt asn (T.set (setPs ps args tm) 511 none) S1
    split at h
    · rename_i tm2 S2 hr2
      rw [hr2] at hA
      split at h
      · rename_i S3 hbg
        obtain ⟨abg, hsg⟩ := beginR_spec hbg
        have hB := runCode_snd hc (rd := true) hnt bo tm2 S3
        obtain ⟨j, S4, he, hinv⟩ := roundEnd_inv h
        obtain ⟨abe, hse⟩ := endR_spec he
        obtain ⟨ab1, hh, hn, hg, hrd, _, hid⟩ := look_ab hl
        have ab2 : Ab S1 S2 := hA.1 (by simp)
        have ab4 : Ab S3 S4 := by
          have := hB.1 (hinv S3).2.1
          rw [(hinv S3).1] at this
          exact this
        have abAll : Ab S S' := (((ab1.trans ab2).trans abg).trans ab4).trans abe
        refine ⟨abAll, fun F G m w vs R hf hfree hrl hcr hR L hL => ?_⟩
        have f4 := hf.back abe
        have f3 := f4.back ab4
        have f2 := f3.back abg
        have f1 := f2.back ab2
        obtain ⟨L', hL', r, hbk, hst, hpd, htv, hps, has, hbo⟩ := hrl.obj id _ hid (f1.1 id hrd) hg
        rw [hL] at hL'
        injection hL' with hL'
        subst hL'
        have hvl := hcr.length
        have hpl : r.params.size = ps.length := by rw [← hps, Array.length_toList]
        have hz : (r.params.zip vs.toArray).foldl (fun tmps (t, a) => tmps.setIfInBounds t a) r.tmps = (ps.zip vs).foldl (fun tmps (t, a) => tmps.setIfInBounds t a) r.tmps := by
          rw [← Array.foldl_toList, Array.toList_zip, hps]
        refine ⟨r.fn, _, r.assign, r.body, run_yield hbk (by simp; omega), ?_⟩
        rw [hz, has, hbo]
        have ev1 : Ev F G m m S S1 w w := ⟨fun _ _ => rfl, Sub.rfl, by rw [hh]; exact hrl, Nat.le_refl _, fun _ _ _ => rfl, fun k L q1 q2 => by omega, rfl, rfl, rfl⟩
        have htmv := setPs_spec hnt htv hcr hb.1.2
        have htm : Tm m nt (T.set (setPs ps args tm) 511 none) { tmps := (ps.zip vs).foldl (fun tmps (t, a) => tmps.setIfInBounds t a) r.tmps, defers := [] } := by
          refine ⟨fun t x ht hx => ?_, htmv.2, ?_⟩
          · rw [T.get_set _ _ _ _ (by decide) (by omega), if_neg (by omega)] at hx
            exact htmv.1 t x ht hx
          · have : marks (T.set (setPs ps args tm) 511 none) = [] := by
              unfold marks
              rw [T.get_set _ _ _ _ (by decide) (by decide), if_pos rfl]
            rw [this]
            rfl
        have x2 := (ab2.trans abg).nx
        have x3 := (ab4.trans abe).nx
        have x4 := abe.nx
        refine roundIn_of_wpIn trivial (hA.2 (some L.blk) F G m w _ _ f2 (fun k k1 k2 => hfree k (by omega) (Nat.lt_of_lt_of_le k2 ((abg.trans ab4).trans abe).nx)) ev1.rel htm (fun e => by cases e) fun m2 a2 w2 ev2 ht2 => ?_)
        have hL2 := ev2.sub _ _ hL
        obtain ⟨w3, hrun3, ev3⟩ := hsg F G m2 w2 L f3 ev2.rel hL2
        refine ⟨w3, hrun3, ?_⟩
        have ev13 := (ev1.trans ev2 ab1.nx ab2.nx).trans ev3 (ab1.trans ab2).nx abg.nx
        have n3 := ((ab1.trans ab2).trans abg).nx
        refine hB.2 (some L.blk) F G m2 w3 a2 _ (by rw [(hinv S3).1]; exact f4) ?_ ev3.rel ht2 (fun e => by cases e) ((hinv S3).2.2 nt F G m2 w3 _ fun m4 w4 a4 e ev4 hej => ?_)
        · rw [(hinv S3).1]
          intro k k1 k2
          rw [ev13.old k (.inr k1)]
          exact hfree k (by omega) (by omega)
        · have hL4 := ev4.sub _ _ hL2
          obtain ⟨u, w5, hend, ev5, hcu⟩ := hse F G m4 w4 L hf ev4.rel hL4
          have hRR := hR m4 u w5 ((ev13.trans ev4 n3 ab4.nx).trans ev5 (((ab1.trans ab2).trans abg).trans ab4).nx abe.nx) hcu
          rcases hej with hej | ⟨k, rfl, rfl⟩
          · simp only [List.mem_cons, Prod.mk.injEq, List.not_mem_nil, or_false] at hej
            rcases hej with ⟨rfl, rfl⟩ | ⟨rfl, rfl⟩
            · exact ⟨u, w5, hend, hRR⟩
            · exact ⟨u, w5, hend, hRR⟩
          · exact ⟨u, w5, hend, hRR⟩
      · cases h
    · cases h
  · cases h

theorem run_snd : ∀ n, CallSnd (run n)
  | 0 => fun f args S S' v h => by cases h
  | n + 1 => fun g args S S' v h => by
    have hc := run_snd n
    cases g with
    | fn f =>
      change runFnI (run n) f args S = some (v, S') at h
      unfold runFnI at h
      cases hi : isIns f with
      | false => rw [hi] at h; exact runFn_snd hc h
      | true =>
        rw [hi] at h
        simp only [cond_true] at h
        unfold orElse at h
        split at h
        · rename_i p hp
          injection h with h
          subst h
          exact ins_snd hi hp
        · exact runFn_snd hc h
    | yd id => exact round_snd hc h

/-- THE RUNNER'S WORD, for a function that says true or false: in any memory the call says so too, and what was there stays. -/
noncomputable def says (n : Nat) (f : FuncId) : Option Bool := match run n (.fn f) [] ⟨H.nil, 0, 0, 0⟩ with
  | some (.b x, _) => some x
  | _ => none
theorem says_calls {n : Nat} {f : FuncId} {b : Bool} (h : says n f = some b) (w : World) :
    Calls Try.prog f #[] w fun e w' => e = .returned (.bool b) ∧ Go.RowKit.Below w.heap.size w w' := by
  have hpp : PP = Try.prog := by unfold PP; rfl
  rw [← hpp]
  unfold says at h
  split at h
  · rename_i x S' hr
    injection h with h
    subst h
    obtain ⟨ab, hs⟩ := run_snd n (.fn f) [] _ S' (.b x) hr
    refine (callsIn_wide (n := 0)).1 ?_
    refine hs (fun _ => True) (fun _ => True) (fun _ => none) w [] _ ⟨fun _ _ => trivial, fun _ _ => ⟨trivial, trivial⟩⟩ (fun _ _ _ => rfl) ⟨fun id o _ _ hg => ?_, fun id id' o o' L L' _ _ _ _ hg => ?_⟩ rfl fun m' u w' ev hcr => ?_
    · rw [H.get_nil] at hg; cases hg
    · rw [H.get_nil] at hg; cases hg
    · simp only [CR] at hcr
      subst hcr
      exact ⟨rfl, ev.os, ev.tape, ev.output, ev.size, fun k hk => ev.keep k hk fun k' L _ h' => by cases h'⟩
  · cases h

/-- the same, for a function of any arguments of which the runner knew no more than their shape -/
noncomputable def saysA (n : Nat) (f : FuncId) (args : List AV) : Option Bool := match run n (.fn f) args ⟨H.nil, 0, 0, 0⟩ with
  | some (.b x, _) => some x
  | _ => none
theorem saysA_calls {n : Nat} {f : FuncId} {args : List AV} {b : Bool} (h : saysA n f args = some b) {vs : List Value} (hv : CRL (fun _ => none) args vs) (w : World) :
    Calls Try.prog f vs.toArray w fun e w' => e = .returned (.bool b) ∧ Go.RowKit.Below w.heap.size w w' := by
  have hpp : PP = Try.prog := by unfold PP; rfl
  rw [← hpp]
  unfold saysA at h
  split at h
  · rename_i x S' hr
    injection h with h
    subst h
    obtain ⟨ab, hs⟩ := run_snd n (.fn f) args _ S' (.b x) hr
    refine (callsIn_wide (n := 0)).1 ?_
    refine hs (fun _ => True) (fun _ => True) (fun _ => none) w vs _ ⟨fun _ _ => trivial, fun _ _ => ⟨trivial, trivial⟩⟩ (fun _ _ _ => rfl) ⟨fun id o _ _ hg => ?_, fun id id' o o' L L' _ _ _ _ hg => ?_⟩ hv fun m' u w' ev hcr => ?_
    · rw [H.get_nil] at hg; cases hg
    · rw [H.get_nil] at hg; cases hg
    · simp only [CR] at hcr
      subst hcr
      exact ⟨rfl, ev.os, ev.tape, ev.output, ev.size, fun k hk => ev.keep k hk fun k' L _ h' => by cases h'⟩
  · cases h
theorem CRL_unks {m : M} : ∀ (n : Nat) (xs : List Value), xs.length = n → CRL m (List.replicate n .unk) xs
  | 0, xs, h => by have := List.eq_nil_of_length_eq_zero h; subst this; rfl
  | n + 1, [], h => by cases h
  | n + 1, x :: xs, h => ⟨x, xs, rfl, trivial, CRL_unks n xs (by simpa using h)⟩
theorem CR_unks {m : M} {n : Nat} {cs : Array Value} (h : cs.size = n) : CR m (.agg (List.replicate n .unk)) (.agg cs) :=
  ⟨cs.toList, by simp, CRL_unks n _ (by simpa using h)⟩
end Rn
end Go.Proofs.Ytgfcakdpfedokaa
