/- ReorderNone: the guard of its argument, and the rest by the runner. -/
import Derived.Test.YtgfcakdpfedokaaRun12
import Derived.WalkKit
import Derived.Below
namespace Go.Proofs.Ytgfcakdpfedokaa
open Go.RowKit
set_option linter.unusedVariables false
set_option linter.unusedSimpArgs false
def ABool (e : Ending) : Prop := ∃ b, e = .returned (.bool b)
/-- a loop at the head of a round -/
def LpAt (c : Code) (Q : Exit → Act → World → Prop) (a : Act) (w : World) : Prop := ∀ (b : Frame) (k : List Item) (cs : List Frame),
  ∃ e a' w', Q e a' w' ∧ Arrives Try.prog (lone (b.at a (.code c :: .inLoop c :: k)) cs w) b k cs e a' w'
theorem lpAt_of {c : Code} {Q : Exit → Act → World → Prop} {a : Act} {w : World} (h : c.wp Try.prog (Exit.then (LpAt c Q) Q) a w) : LpAt c Q a w := by
  intro b k cs
  obtain ⟨e, a₁, w₁, hq, harr⟩ := h b (.inLoop c :: k) cs
  cases e with
  | normal =>
    obtain ⟨e₂, a₂, w₂, hq₂, harr₂⟩ := hq b k cs
    exact ⟨e₂, a₂, w₂, hq₂, .of_steps (Steps.trans harr (.one step_inLoop)) harr₂⟩
  | exit id => exact ⟨_, a₁, w₁, hq, .pass (x := .inLoop c) rfl (fun _ _ => .inl (by simp)) harr⟩
  | goto l => exact ⟨_, a₁, w₁, hq, .pass (x := .inLoop c) rfl (fun _ _ => .inl (by simp)) harr⟩
  | ret => exact ⟨_, a₁, w₁, hq, .pass (x := .inLoop c) rfl (fun _ _ => .inl (by simp)) harr⟩
  | panic ch => exact ⟨_, a₁, w₁, hq, .pass (x := .inLoop c) rfl (fun _ _ => .inl (by simp)) harr⟩
  | outgrown => exact ⟨_, a₁, w₁, hq, .pass (x := .inLoop c) rfl (fun _ _ => .inl (by simp)) harr⟩
theorem wp_of_lpAt {c : Code} {Q : Exit → Act → World → Prop} {a : Act} {w : World} (h : LpAt c Q a w) : (Code.loop c).wp Try.prog Q a w :=
  fun b k cs => let ⟨e, a', w', q, r⟩ := h b k cs; ⟨e, a', w', q, .of_steps (.one step_loop) r⟩
set_option maxRecDepth 100000 in
theorem fewPacket_any {w : World} {v0 v1 v2 v3 v4 v6 v7 v10 : Value} {a5 a8 a9 : Option Addr} {n5 n8 n9 c5 c8 c9 : Nat} :
    Calls Try.prog 4 #[.agg #[v0, v1, v2, v3, v4, .slice a5 n5 c5, v6, v7, .slice a8 n8 c8, .slice a9 n9 c9, v10]] w fun e w' => ABool e ∧ Below w.heap.size w w' := by
  have hb : Below w.heap.size w (w.alloc (.cells #[v0, v1, v2, v3, v4, .slice a5 n5 c5, v6, v7, .slice a8 n8 c8, .slice a9 n9 c9, v10] 27)) := (Below.refl _ _).alloc (Nat.le_refl _) _
  go_enter Try.func4, Try.ntmps4
  go_wp2
  all_goals (go_ret; exact ⟨⟨_, rfl⟩, hb⟩)
namespace Rn
/-- what is left of a function, by the runner -/
noncomputable def restEnd (rs : List ResultVar) (tm : T AV) (S : St) : Option Bool :=
  match marks tm with
  | [] => match endFn2 (aResults tm rs S) with
    | some (.b x, _) => some x
    | _ => none
  | _ => none
noncomputable def restSays (n nt : Nat) (c : Code) (rs : List ResultVar) (tm : T AV) (S : St) : Option Bool :=
  match runCode (run n) false nt c tm S with
  | .rt tm1 S1 => restEnd rs tm1 S1
  | _ => none
theorem rest_wp {n nt : Nat} {c : Code} {fn : Func} {tm : T AV} {S : St} {x : Bool} {m : M} {a : Act} {w w0 : World} {B : Nat} (h : restSays n nt c fn.results.toList tm S = some x) (hnt : nt ≤ 511)
    (ht : Tm m nt tm a) (hfree : ∀ k, S.nx ≤ k → m k = none) (hr : Rel (fun _ => True) m S.h w) (hm : ∀ k L, m k = some L → B ≤ L.blk) (hB : Below B w0 w) (hle : B ≤ w.heap.size) :
    c.wp Try.prog (bodyPost Try.prog fn fun e w' => e = .returned (.bool x) ∧ Below B w0 w') a w := by
  have hpp : PP = Try.prog := by unfold PP; rfl
  rw [← hpp]
  refine (wpIn_wide (n := 0)).1 ?_
  have hcode := runCode_snd (run_snd n) (rd := false) hnt c tm S
  unfold restSays at h
  split at h
  · rename_i tm1 S1 hrc
    rw [hrc] at hcode
    refine hcode.2 none (fun _ => True) (fun _ => True) m w a _ ⟨fun _ _ => trivial, fun _ _ => ⟨trivial, trivial⟩⟩ (fun k h1 _ => hfree k h1) hr ht (fun _ => rfl) fun m' a' w' ev ht' => ?_
    unfold restEnd at h
    split at h
    · rename_i hmk
      split at h
      · rename_i y S2 he
        injection h with h
        subst h
        obtain ⟨_, hs⟩ := endFn2_spec (nt := nt) he
        obtain ⟨_, _, u, c1, e1⟩ := hs (fun _ => True) (fun _ => True) m' w' a' ⟨fun _ _ => trivial, fun _ _ => ⟨trivial, trivial⟩⟩ ev.rel ht'
        have hd := ht'.defers
        rw [hmk] at hd
        simp only [CR] at c1
        subst c1
        refine ⟨hd, _, e1, rfl, hB.trans ⟨ev.os, ev.tape, ev.output, ev.size, fun k hk => ev.keep k (Nat.lt_of_lt_of_le hk hle) fun k' L _ h' => ?_⟩⟩
        have := hm k' L h'
        omega
      · cases h
    · cases h
  · cases h
end Rn
open Rn
noncomputable def tm10 : T AV := T.set (T.set T.nil 0 (some .unk)) 1 (some (.p 0 0))
noncomputable def S10 : St := ⟨H.set H.nil 0 (some (.cells (List.replicate 14 .unk) 14)), 1, 0, 0⟩
end Go.Proofs.Ytgfcakdpfedokaa
