/- FeedbackReads: proved for every input that the row speaks of; no condition beside the row's own. The walk and the plain law are in the texts that it imports. -/
import Derived.Test.YtjcejgolcdgipaaRows
import Derived.Test.YtjcejgolcdgipaaPFR1
import Derived.Test.YtjcejgolcdgipaaPFR25
import Derived.Test.YtjcejgolcdgipaaPFR2
import Derived.WalkKit
import Derived.ProofKit
import Derived.OpenShut
import Derived.ShutString
import Derived.ChangeOld
import Derived.Below
import Derived.Carry
import Derived.SizedLaws

namespace Go.Proofs.Ytjcejgolcdgipaa.feedbackReads
open Go.ChangeShapes Go.WideShapes Go.ChangeAt Go.RowKit
open Go.ChangeMaps (open_string shut_string)
open Go.Proofs.Ytjcejgolcdgipaa.K7 Go.Proofs.YtjcejgolcdgipaaW.PrintWords
theorem own : ownKnob Try.prog.godebug = none := by kernel_rfl
theorem laidOut : laidOutB Try.prog = true := by kernel_rfl
set_option maxHeartbeats 1000000 in
set_option maxRecDepth 100000 in
theorem lifted (os : Os) (started : os.Started) (H : Type) (enc : TypeId × Value → H) :
    ReturnsInHanded {} Try.checked os 4 .any (Rows.feedbackReadsSpec.pre6 enc Try.prog Try.f4 Rows.feedbackReadsRow.domain false) (Rows.feedbackReadsSpec.post enc Try.prog Try.f4 false true false false) := by
  refine returnsInHanded_of_change_sized (C := Try.checked) own started (by kernel_rfl) Try.func4
    (ChangeSpec.witness6 (enc := enc) (C := Try.checked) false ⟨#[], #[.agg #[.int .u8 0, .int .u8 0, .slice none 0 0, .int .u8 0]], []⟩ 8 (by kernel_rfl) (by kernel_rfl) (by kernel_rfl) (by kernel_rfl)) ?_
  intro W base args ds gs before hval0 hW _hcnd _hsz0 _
  have hval : ∀ (j : Nat) t v, Try.f4.params[j]? = some t → args[j]? = some v → Value.okWide Try.prog W .any base t v := hval0
  have hW' := hW
  obtain ⟨p, q, hA0, hV, rfl, _hfz, _hnd⟩ := hW
  have hA : DataW.TrodAll enc Try.prog W 0 (fun _ => true) true Try.f4.params.toList args.toList ds p := hA0
  rw [Try.params4] at hA hval
  obtain ⟨v0, vs0, d0, ds0, p0, q0, hargs, rfl, rfl, h0, r0⟩ := trodAll_cons hA
  obtain ⟨rfl, rfl, rfl⟩ := trodAll_nil r0
  obtain rfl : args = #[v0] := by cases args; simp_all
  obtain ⟨rfl, rfl⟩ := trodVars_none hV
  obtain ⟨cs0, rfl, hsz0⟩ := okWide_struct Try.underlying40 (hval 0 40 v0 rfl rfl)
  have lt0 : ∀ x ∈ p0, x.block < W.heap.size := by obtain ⟨m, hm⟩ := h0; exact DataW.trod_lt m _ _ _ hm
  obtain ⟨x0, hK0, wf0⟩ := Op.Op.arg_agg (d := k40) (Op.Op.iso (Op.Op.struct Try.underlying40 (by kernel_rfl) (Op.OpT.cons (d := (Kd.int .u8)) rfl (by kernel_rfl) (Op.Op.int Try.underlying5) (Op.OpT.cons (d := (Kd.int .u8)) rfl (by kernel_rfl) (Op.Op.int Try.underlying5) (Op.OpT.cons (d := (Kd.slice 5 (Kd.int .u8))) rfl (by kernel_rfl) (Op.Op.slice (d := (Kd.int .u8)) Try.underlying38 (by kernel_rfl) (Op.Op.int Try.underlying5) 5) (Op.OpT.one (d := (Kd.int .u8)) rfl (by kernel_rfl) (Op.Op.int Try.underlying5)))))) (fun x : S40 => (x.f0, x.f1, x.f2, x.f3)) (fun y => ⟨y.1, y.2.1, y.2.2.1, y.2.2.2⟩) (fun _ => rfl)) h0
  obtain ⟨A0_2, c0_2, hcs0, hc0_2, hC0_2⟩ := k40_open hK0
  obtain rfl : cs0 = _ := by rw [← Array.toArray_toList (xs := cs0), hcs0]
  have hf : easellaw07_FeedbackReads.f 0 x0.f0 x0.f1 x0.f2 x0.f3 = some true := by
    unfold easellaw07_FeedbackReads.f
    obtain ⟨v0, v1, v2, v3⟩ := wf0
    have p0 : 0 ≤ x0.f0 ∧ x0.f0 < 256 := wf_u8 _ v0
    have p1 : 0 ≤ x0.f1 ∧ x0.f1 < 256 := wf_u8 _ v1
    have p3 : 0 ≤ x0.f3 ∧ x0.f3 < 256 := wf_u8 _ v3
    exact if_pos ⟨p0, p1, p3, fun x hx => wf_u8 _ (v2.2 x hx)⟩
  obtain ⟨k, hk⟩ : ∃ k : Nat, k = 0 := ⟨0, rfl⟩
  rw [← hk] at hf
  refine (easellaw07_FeedbackReads.calls k x0.f0 x0.f1 _ _ x0.f2 x0.f3 true W hC0_2 hc0_2 hf).mono fun e W' hp => ?_
  obtain ⟨he, bel⟩ := hp
  subst he
  exact ⟨_, rfl, _, _, _, [], _, [], hW', trodAll_mk1 (shut_bool Try.underlying4 _), (trodAll_cons_mk (Below.trod laidOut (by kernel_rfl) (of_decide_eq_true (by kernel_rfl)) h0 bel lt0) trodAll_mk0), rfl, bel.frame _, fun h => by cases h⟩
theorem over : Rows.feedbackReadsRow.holds Try.pinned (OpenSpec.ofChange Rows.feedbackReadsSpec) :=
  OpenClaim.holds_of_wide 4 Try.f4 rfl rfl rfl rfl rfl rfl rfl ⟨rfl, rfl, rfl, rfl, rfl⟩ rfl rfl rfl rfl rfl (by kernel_rfl) Try.func4 (by kernel_rfl)
    (of_decide_eq_true (by kernel_rfl)) (by unfold Func.isWrapper; first | (rw [if_pos (by decide +kernel)]; kernel_rfl) | (rw [if_neg (by decide +kernel)]; exact ⟨rfl, rfl⟩))
    (fun os started H enc _ => lifted os started H enc)
theorem proved : Rows.FeedbackReadsSaid := over
#print axioms proved
end Go.Proofs.Ytjcejgolcdgipaa.feedbackReads
