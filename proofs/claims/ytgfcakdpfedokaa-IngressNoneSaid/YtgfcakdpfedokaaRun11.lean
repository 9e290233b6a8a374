/- The runner is right: what it computes of a closed call, the model does, in any memory. -/
import Derived.Test.YtgfcakdpfedokaaRun10
namespace Go.Proofs.Ytgfcakdpfedokaa
namespace Rn
set_option linter.unusedVariables false
set_option linter.unusedSimpArgs false

def unl (n : Nat) (X : Nat → Bool) : Nat := (List.range n).countP fun i => !X i
theorem unl_add {n : Nat} {X : Nat → Bool} {j : Nat} (hj : j < n) (hX : X j = false) : unl n (fun i => X i || i == j) + 1 = unl n X := by
  unfold unl
  induction n with
  | zero => omega
  | succ n ih =>
    rw [List.range_succ, List.countP_append, List.countP_append]
    by_cases h : j = n
    · subst h
      have : (List.range j).countP (fun i => !(X i || i == j)) = (List.range j).countP fun i => !X i := by
        refine List.countP_congr fun i hi => ?_
        have := List.mem_range.1 hi
        have hne : (i == j) = false := by simp; omega
        simp [hne]
      rw [this]
      simp [hX]
    · have := ih (by omega)
      have hne : (n == j) = false := by simp; omega
      have e2 : [n].countP (fun i => !(X i || i == j)) = [n].countP fun i => !X i := by
        simp only [List.countP_cons, List.countP_nil, hne, Bool.or_false]
      rw [e2]
      omega
theorem unl_zero {n : Nat} {X : Nat → Bool} (h : unl n X = 0) (i : Nat) (hi : i < n) : X i = true := by
  unfold unl at h
  have := List.countP_eq_zero.1 h i (List.mem_range.2 hi)
  simpa using this

section
variable {call : CallF} {ops : Array Oper} {nt : Nat} {tms : Nat → T AV} {sts lg : Nat → St}

/-- what stands in the list of what has been done -/
structure Lst (ops : Array Oper) (listed : Array Bool) : Prop where
  size : listed.size = ops.size
  closed : ∀ i o, i < ops.size → listed.getD i true = true → ops[i]? = some o → ∀ e ∈ o.after.toList, Region.binds .any e = true → listed.getD e.on false = true

theorem getD_true {listed : Array Bool} {i : Nat} (h : listed.getD i false = true) : i < listed.size ∧ listed.getD i true = true := by
  by_cases hi : i < listed.size
  · rw [Array.getD_eq_getD_getElem?, Array.getElem?_eq_getElem hi] at h ⊢
    exact ⟨hi, h⟩
  · rw [Array.getD_eq_getD_getElem?, Array.getElem?_eq_none (by omega)] at h
    cases h
theorem ready_iff {listed : Array Bool} {j : Nat} (h : j ∈ Region.ready .any ops listed) : j < ops.size ∧ listed.getD j true = false ∧ ∃ o, ops[j]? = some o ∧ ∀ e ∈ o.after.toList, Region.binds .any e = true → listed.getD e.on false = true := by
  unfold Region.ready at h
  rw [List.mem_filter] at h
  obtain ⟨h1, h2⟩ := h
  have hj := List.mem_range.1 h1
  simp only [Bool.and_eq_true, Bool.not_eq_true', Array.getElem?_eq_getElem hj, Option.map_some, Option.getD_some] at h2
  refine ⟨hj, h2.1, ops[j], Array.getElem?_eq_getElem hj, fun e he hb => ?_⟩
  have := Array.all_eq_true'.1 h2.2 e (by simpa using he)
  simpa [hb] using this
theorem ready_nil (hb : backward ops.toList = true) {listed : Array Bool} (h : Region.ready .any ops listed = []) : ∀ j, j < ops.size → listed.getD j true = true := by
  intro j
  induction j using Nat.strongRecOn with
  | _ j ih =>
    intro hj
    cases hl : listed.getD j true with
    | true => rfl
    | false =>
      exfalso
      have : j ∈ Region.ready .any ops listed := by
        unfold Region.ready
        rw [List.mem_filter]
        refine ⟨List.mem_range.2 hj, ?_⟩
        simp only [Bool.and_eq_true, Bool.not_eq_true', Array.getElem?_eq_getElem hj, Option.map_some, Option.getD_some]
        refine ⟨hl, Array.all_eq_true'.2 fun e he => ?_⟩
        cases hbe : Region.binds .any e with
        | false => rfl
        | true =>
          have hlt := backward_spec hb (o := ops[j]) (by rw [Array.getElem?_toList, Array.getElem?_eq_getElem]) (by simpa using he) hbe
          have := ih e.on hlt (by omega)
          have hsz : e.on < listed.size := by
            by_cases hs : e.on < listed.size
            · exact hs
            · exfalso
              -- beyond the list's end nothing is done: then j itself is beyond it
              rw [Array.getD_eq_getD_getElem?, Array.getElem?_eq_none (by omega)] at hl
              cases hl
          rw [Array.getD_eq_getD_getElem?, Array.getElem?_eq_getElem hsz] at this ⊢
          simpa using this
      rw [h] at this
      cases this

theorem draw_any {r : Option Nat} (hc : CallSnd call) (hnt : nt ≤ 511) (tr : Trace call ops nt ops.size tms sts lg) (hd : drawOk ops = true)
    (hind : ∀ i j, i < j → j < ops.size → Nat.testBit ((closure ops.toList).getD j 0) i = true ∨ Ind ops lg i j)
    {F G : Nat → Prop} {m0 : M} {w0 : World} (hf : Fits F G (sts ops.size)) (Q : Exit → Act → World → Prop)
    (hQ : ∀ m a w, Inv ops nt ops.size tms sts lg F G m0 w0 (fun _ => true) m a w → Q .normal a w) :
    ∀ (fuel : Nat) (listed : Array Bool) (m : M) (a : Act) (w : World), Lst ops listed → unl ops.size (fun i => listed.getD i true) ≤ fuel → Inv ops nt ops.size tms sts lg F G m0 w0 (fun i => listed.getD i true) m a w →
      wpAnyIn (FW r) 0 PP .any ops Q fuel listed a w := by
  have hback : backward ops.toList = true := by unfold drawOk at hd; simp only [Bool.and_eq_true] at hd; exact hd.1
  have hall : ∀ {listed : Array Bool} {m : M} {a : Act} {w : World}, (∀ j, j < ops.size → listed.getD j true = true) → Inv ops nt ops.size tms sts lg F G m0 w0 (fun i => listed.getD i true) m a w → Q .normal a w := by
    intro listed m a w hl inv
    refine hQ m a w ?_
    have hx : ∀ W : Nat → Bool, lastW ops.size (fun i => listed.getD i true) W = lastW ops.size (fun _ => true) W := fun W => lastW_congr _ fun i hi => by rw [hl i hi]
    refine ⟨fun t v ht hv => inv.tm t v ht (by rw [hx]; exact hv), inv.sz, inv.df, fun id o hid hF hg => inv.obj id o hid hF (by rw [hx]; exact hg),
      fun id id' o o' L L' hid hid' hF hF' hg hg' => inv.apart id id' o o' L L' hid hid' hF hF' (by rw [hx]; exact hg) (by rw [hx]; exact hg'), (fun i hi h => by cases h), inv.old, inv.sub, inv.size, inv.keep, inv.fresh, inv.os, inv.tape, inv.output⟩
  intro fuel
  induction fuel with
  | zero =>
    intro listed m a w hl hu inv
    have hz := unl_zero (Nat.le_zero.1 hu)
    refine ⟨?_, hall hz inv⟩
    unfold Region.ready
    rw [List.filter_eq_nil_iff]
    intro j hj
    have := hz j (List.mem_range.1 hj)
    simp [this]
  | succ fuel ih =>
    intro listed m a w hl hu inv
    refine ⟨fun hr => hall (ready_nil hback hr) inv, fun j hj => ?_⟩
    obtain ⟨hjn, hXj, o, ho, hedges⟩ := ready_iff hj
    have cl := closure_spec ops.toList
    have hlen : ops.toList.length = ops.size := Array.length_toList
    -- what is done is closed under the edges
    have hclosed : Closed ops.toList (fun i => listed.getD i false = true) := by
      intro k o' hk hok e he hb
      obtain ⟨h1, h2⟩ := getD_true hk
      rw [Array.getElem?_toList] at hok
      exact hl.closed k o' (by rw [← hl.size]; exact h1) h2 hok e he hb
    have hlt : ∀ i, i < j → listed.getD i true = true ∨ Ind ops lg i j := by
      intro i hij
      rcases hind i j hij hjn with h | h
      · exact .inl (getD_true (cl.1 j (by rw [cl.2, hlen]; exact hjn) o (by rw [Array.getElem?_toList]; exact ho) i h _ hclosed hedges)).2
      · exact .inr h
    have hgt : ∀ i, j < i → i < ops.size → listed.getD i true = false ∨ Ind ops lg j i := by
      intro i hij hi
      cases hXi : listed.getD i true with
      | false => exact .inl rfl
      | true =>
        rcases hind j i hij hi with h | h
        · exfalso
          have hoi : ops.toList[i]? = some ops[i] := by rw [Array.getElem?_toList, Array.getElem?_eq_getElem]
          have := cl.1 i (by rw [cl.2, hlen]; exact hi) ops[i] hoi j h _ hclosed fun e he hb => hl.closed i ops[i] hi hXi (Array.getElem?_eq_getElem hi) e he hb
          rw [(getD_true this).2] at hXj
          cases hXj
        · exact .inr h
    have hX' : ∀ i, i < ops.size → (listed.setIfInBounds j true).getD i true = (listed.getD i true || i == j) := by
      intro i hi
      rw [Array.getD_eq_getD_getElem?, Array.getElem?_setIfInBounds]
      by_cases hij : j = i
      · subst hij
        have : j < listed.size := by rw [hl.size]; exact hi
        simp [this]
      · have : (i == j) = false := by simp; omega
        rw [if_neg hij, this, Bool.or_false, Array.getD_eq_getD_getElem?]
    have hX'' : ∀ i, (listed.setIfInBounds j true).getD i true = (listed.getD i true || i == j) := by
      intro i
      by_cases hi : i < ops.size
      · exact hX' i hi
      · rw [Array.getD_eq_getD_getElem?, Array.getElem?_eq_none (by simp [hl.size]; omega), Array.getD_eq_getD_getElem?, Array.getElem?_eq_none (by rw [hl.size]; omega)]
        rfl
    have hfun : (fun i => (listed.setIfInBounds j true).getD i true) = fun i => listed.getD i true || i == j := funext hX''
    have := Inv.step (r := r) hc tr hnt hf inv hjn hXj hlt hgt ho (wpAnyIn (FW r) 0 PP .any ops Q fuel (listed.setIfInBounds j true)) Q fun m' a' w' inv' => by
      refine ih (listed.setIfInBounds j true) m' a' w' ⟨by simpa using hl.size, fun i o' hi hXi hoi e he hb => ?_⟩ ?_ (by rw [hfun]; exact inv')
      · rw [hX'' i] at hXi
        have hmono : listed.getD e.on false = true → (listed.setIfInBounds j true).getD e.on false = true := by
          intro h
          have hs := (getD_true h).1
          rw [Array.getD_eq_getD_getElem?, Array.getElem?_setIfInBounds]
          split
          · rename_i h1
            split
            · rfl
            · rename_i h2; omega
          · rw [← Array.getD_eq_getD_getElem?]; exact h
        rw [Bool.or_eq_true] at hXi
        rcases hXi with h | h
        · exact hmono (hl.closed i o' hi h hoi e he hb)
        · have hij : i = j := by simpa using h
          subst hij
          rw [ho] at hoi
          injection hoi with hoi
          subst hoi
          exact hmono (hedges e he hb)
      · rw [hfun]
        have := unl_add hjn (X := fun i => listed.getD i true) hXj
        omega
    unfold opWp at this
    unfold wpOpIn
    rw [ho]
    simp only
    split
    · rename_i hw; rw [if_pos hw] at this; exact this
    · rename_i hw; rw [if_neg hw] at this; exact ⟨fun _ _ => trivial, this⟩
end

/-- a region whose order is open -/
theorem draw_spec {call : CallF} (hc : CallSnd call) {ops : Array Oper} {nt : Nat} (hnt : nt ≤ 511) {tm tm' : T AV} {S S' : St} {id : Nat}
    (h : Bool.rec (motive := fun _ => Out) .no (endLog ops (runLog call ops nt ops.toList tm S [])) (drawOk ops) = .ok tm' S') :
    Ab S S' ∧ ∀ (r : Option Nat) (F G : Nat → Prop) (m : M) (w : World) (a : Act) (Q : Exit → Act → World → Prop), Fits F G S' → Free m S S' → Rel F m S.h w → Tm m nt tm a →
      (∀ m' a' w', Ev F G m m' S S' w w' → Tm m' nt tm' a' → Q .normal a' w') → (Code.region id ops true).wpIn (FW r) 0 PP Q a w := by
  cases hd : drawOk ops with
  | false => rw [hd] at h; cases h
  | true =>
    rw [hd] at h
    change endLog ops (runLog call ops nt ops.toList tm S []) = _ at h
    cases hr : runLog call ops nt ops.toList tm S [] with
    | no => rw [hr] at h; cases h
    | ok tm1 S1 logs =>
      rw [hr] at h
      change Bool.rec (motive := fun _ => Out) .no (.ok tm1 S1) (noClash logs.reverse (openPairs ops.toList) && noTouch logs.reverse (quietIdx ops.toList)) = _ at h
      cases hb : (noClash logs.reverse (openPairs ops.toList) && noTouch logs.reverse (quietIdx ops.toList)) with
      | false => rw [hb] at h; cases h
      | true =>
        rw [hb] at h
        injection h with h1 h2
        subst h1; subst h2
        simp only [Bool.and_eq_true] at hb
        obtain ⟨tms, sts, lg, e1, e2, e3, e4, e5, e6, e7⟩ := runLog_trace ops.toList [] rfl hr
        simp only [List.length_nil, Nat.zero_add, Array.length_toList, List.append_nil] at e1 e2 e3 e4 e5 e6 e7
        have tr : Trace call ops nt ops.size tms sts lg := ⟨fun i hi => e5 i (Nat.zero_le _) hi, fun i hi => e6 i (Nat.zero_le _) hi⟩
        have hlogs : logs.reverse = (List.range' 0 ops.size).map fun i => ((lg i).rd, (lg i).wr) := by rw [e7, List.reverse_reverse]
        have ab : Ab S S1 := by
          have := tr.abS hc (i := 0) (j := ops.size) (Nat.zero_le _) (Nat.le_refl _)
          rw [e2, e4] at this
          exact this
        refine ⟨ab, fun r F G m w a Q hf hfree hrel ht hQ => ?_⟩
        refine wpIn_region_any mixed ?_
        have h0 : ∀ W : Nat → Bool, lastW ops.size (fun i => (Array.replicate ops.size false).getD i true) W = 0 := by
          intro W
          have : ∀ n, n ≤ ops.size → lastW n (fun i => (Array.replicate ops.size false).getD i true) W = 0 := by
            intro n
            induction n with
            | zero => intro _; rfl
            | succ n ih =>
              intro hn
              have hx : (Array.replicate ops.size false).getD n true = false := by
                rw [Array.getD_eq_getD_getElem?, Array.getElem?_eq_getElem (by simp; omega)]; simp
              unfold lastW
              simp only [hx, Bool.false_and, Bool.false_eq_true, if_false]
              exact ih (by omega)
          exact this _ (Nat.le_refl _)
        refine draw_any (r := r) (F := F) (G := G) (m0 := m) (w0 := { w with drawn := w.drawn + 1 }) hc hnt tr hd (fun i j hij hj => ind_of rfl hd hlogs hb.1 hb.2 hij hj) (by rw [e4]; exact hf) Q (fun m' a' w' inv => ?_) ops.size (Array.replicate ops.size false) m a { w with drawn := w.drawn + 1 } ⟨by simp, fun i o hi hl => ?_⟩ ?_ ?_
        · -- all is done
          have hall : ∀ W : Nat → Bool, lastW ops.size (fun _ => true) W = lastW ops.size (fun _ => true) W := fun _ => rfl
          have vT : ∀ t, t < 511 → T.get (tms (lastW ops.size (fun _ => true) (wt ops t))) t = T.get tm1 t := by
            intro t ht
            rw [lastW_val (fun k => T.get (tms k) t) (wt ops t) ops.size fun i hi hw => tr.tstay hnt ht hi hw, e3]
          have vH : ∀ id, id < 32768 → H.get (sts (lastW ops.size (fun _ => true) (wi lg id))).h id = H.get S1.h id := by
            intro id hid
            rw [lastW_val (fun k => H.get (sts k).h id) (wi lg id) ops.size fun i hi hw => tr.hstay hc hid hi hw, e4]
          refine hQ m' a' w' ⟨fun k hk => inv.old k (by rw [e2, e4]; exact hk), inv.sub, ⟨fun id o hid hF hg => inv.obj id o hid hF (by rw [vH id hid]; exact hg), fun id id' o o' L L' hid hid' hF hF' hg hg' => inv.apart id id' o o' L L' hid hid' hF hF' (by rw [vH id hid]; exact hg) (by rw [vH id' hid']; exact hg')⟩,
            inv.size, inv.keep, fun k L a1 a2 => inv.fresh k L (by rw [e2]; exact a1) (by rw [e4]; exact a2), inv.os, inv.tape, inv.output⟩ ⟨fun t v ht' hv => inv.tm t v ht' (by rw [vT t ht']; exact hv), inv.sz, by rw [← e3, tr.marks hnt ops.size (Nat.le_refl _)]; exact inv.df⟩
        · exfalso
          rw [Array.getD_eq_getD_getElem?, Array.getElem?_eq_getElem (by simp; omega)] at hl
          simp at hl
        · unfold unl
          exact Nat.le_trans List.countP_le_length (by simp)
        · have hrel' := hrel.drew (w1 := { w with drawn := w.drawn + 1 }) rfl
          refine ⟨fun t v ht' hv => ht.at_ t v ht' (by rw [h0, e1] at hv; exact hv), ht.size, by rw [e1]; exact ht.defers, fun id o hid hF hg => hrel'.obj id o hid hF (by rw [h0, e2] at hg; exact hg), fun id id' o o' L L' hid hid' hF hF' hg hg' => hrel'.apart id id' o o' L L' hid hid' hF hF' (by rw [h0, e2] at hg; exact hg) (by rw [h0, e2] at hg'; exact hg'),
            fun i hi _ k h1 h2 => hfree k ?_ ?_, fun _ _ => rfl, Sub.rfl, Nat.le_refl _, fun _ _ _ => rfl, fun k L h1 h2 e => ?_, rfl, rfl, rfl⟩
          · have := (tr.abS hc (i := 0) (j := i) (Nat.zero_le _) (by omega)).nx
            rw [e2] at this; omega
          · have := (tr.abS hc (i := i + 1) (j := ops.size) (by omega) (Nat.le_refl _)).nx
            rw [e4] at this; omega
          · rw [e2] at h1
            rw [e4] at h2
            rw [hfree k h1 h2] at e; cases e

/-- a region -/
theorem runRegion_spec {call : CallF} (hc : CallSnd call) {ops : Array Oper} {draw : Bool} {nt : Nat} (hnt : nt ≤ 511) {tm tm' : T AV} {S S' : St} {id : Nat} (h : runRegion call ops draw nt tm S = .ok tm' S') :
    Ab S S' ∧ ∀ (r : Option Nat) (F G : Nat → Prop) (m : M) (w : World) (a : Act) (Q : Exit → Act → World → Prop), Fits F G S' → Free m S S' → Rel F m S.h w → Tm m nt tm a →
      (∀ m' a' w', Ev F G m m' S S' w w' → Tm m' nt tm' a' → Q .normal a' w') → (Code.region id ops draw).wpIn (FW r) 0 PP Q a w := by
  cases draw with
  | true => exact draw_spec hc hnt h
  | false =>
    obtain ⟨ab, hs⟩ := runOps_spec hc hnt (show runOps call ops nt ops.toList tm S = .ok tm' S' from h)
    exact ⟨ab, fun r F G m w a Q hf hfree hr ht hQ => wpIn_region_list (hs r F G m w a Q hf hfree hr ht hQ)⟩
end Rn
end Go.Proofs.Ytgfcakdpfedokaa
