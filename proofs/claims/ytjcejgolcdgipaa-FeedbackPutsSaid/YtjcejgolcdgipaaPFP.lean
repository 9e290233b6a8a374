/- FeedbackPuts: proved for every input that the row speaks of; no condition beside the row's own. The walk and the plain law are in the texts that it imports. -/
import Derived.Test.YtjcejgolcdgipaaRows
import Derived.Test.YtjcejgolcdgipaaPFP1
import Derived.Test.YtjcejgolcdgipaaPFP26
import Derived.Test.YtjcejgolcdgipaaPFP2
import Derived.WalkKit
import Derived.ProofKit
import Derived.OpenShut
import Derived.ShutString
import Derived.ChangeOld
import Derived.Below
import Derived.Carry
import Derived.SizedLaws

namespace Go.Proofs.Ytjcejgolcdgipaa.feedbackPuts
open Go.ChangeShapes Go.WideShapes Go.ChangeAt Go.RowKit
open Go.ChangeMaps (open_string shut_string)
open Go.Proofs.Ytjcejgolcdgipaa.K7 Go.Proofs.YtjcejgolcdgipaaW.PrintWords
theorem own : ownKnob Try.prog.godebug = none := by kernel_rfl
theorem laidOut : laidOutB Try.prog = true := by kernel_rfl
set_option maxHeartbeats 1000000 in
set_option maxRecDepth 100000 in
theorem lifted (os : Os) (started : os.Started) (H : Type) (enc : TypeId × Value → H) :
    ReturnsInHanded {} Try.checked os 5 .any (Rows.feedbackPutsSpec.pre6 enc Try.prog Try.f5 Rows.feedbackPutsRow.domain false) (Rows.feedbackPutsSpec.post enc Try.prog Try.f5 false true false false) := by
  refine returnsInHanded_of_change_sized (C := Try.checked) own started (by kernel_rfl) Try.func5
    (ChangeSpec.witness6 (enc := enc) (C := Try.checked) false ⟨#[], #[.agg #[.int .u8 0, .int .u32 0, .int .u32 0, .slice none 0 0, .slice none 0 0, .int .u8 0, .int .u32 0, .slice none 0 0], .agg #[.int .u8 0, .int .u32 0, .int .u32 0, .slice none 0 0, .slice none 0 0, .int .u8 0, .int .u32 0, .slice none 0 0]], []⟩ 8 (by kernel_rfl) (by kernel_rfl) (by kernel_rfl) (by kernel_rfl)) ?_
  intro W base args ds gs before hval0 hW _hcnd _hsz0 _
  have hval : ∀ (j : Nat) t v, Try.f5.params[j]? = some t → args[j]? = some v → Value.okWide Try.prog W .any base t v := hval0
  have hW' := hW
  obtain ⟨p, q, hA0, hV, rfl, _hfz, _hnd⟩ := hW
  have hA : DataW.TrodAll enc Try.prog W 0 (fun _ => true) true Try.f5.params.toList args.toList ds p := hA0
  rw [Try.params5] at hA hval
  obtain ⟨v0, vs0, d0, ds0, p0, q0, hargs, rfl, rfl, h0, r0⟩ := trodAll_cons hA
  obtain ⟨v1, vs1, d1, ds1, p1, q1, rfl, rfl, rfl, h1, r1⟩ := trodAll_cons r0
  obtain ⟨rfl, rfl, rfl⟩ := trodAll_nil r1
  obtain rfl : args = #[v0, v1] := by cases args; simp_all
  obtain ⟨rfl, rfl⟩ := trodVars_none hV
  obtain ⟨cs0, rfl, hsz0⟩ := okWide_struct Try.underlying52 (hval 0 52 v0 rfl rfl)
  have lt0 : ∀ x ∈ p0, x.block < W.heap.size := by obtain ⟨m, hm⟩ := h0; exact DataW.trod_lt m _ _ _ hm
  obtain ⟨x0, hK0, wf0⟩ := Op.Op.arg_agg (d := k52) (Op.Op.iso (Op.Op.struct Try.underlying52 (by kernel_rfl) (Op.OpT.cons (d := (Kd.int .u8)) rfl (by kernel_rfl) (Op.Op.int Try.underlying5) (Op.OpT.cons (d := (Kd.int .u32)) rfl (by kernel_rfl) (Op.Op.int Try.underlying28) (Op.OpT.cons (d := (Kd.int .u32)) rfl (by kernel_rfl) (Op.Op.int Try.underlying28) (Op.OpT.cons (d := (Kd.slice 82 k82)) rfl (by kernel_rfl) (Op.Op.slice (d := k82) Try.underlying22 (by kernel_rfl) (Op.Op.iso (Op.Op.struct Try.underlying82 (by kernel_rfl) (Op.OpT.cons (d := (Kd.int .u16)) rfl (by kernel_rfl) (Op.Op.int Try.underlying75) (Op.OpT.one (d := (Kd.int .u16)) rfl (by kernel_rfl) (Op.Op.int Try.underlying75)))) (fun x : S82 => (x.f0, x.f1)) (fun y => ⟨y.1, y.2⟩) (fun _ => rfl)) 82) (Op.OpT.cons (d := (Kd.slice 134 k134)) rfl (by kernel_rfl) (Op.Op.slice (d := k134) Try.underlying50 (by kernel_rfl) (Op.Op.iso (Op.Op.struct Try.underlying134 (by kernel_rfl) (Op.OpT.cons (d := (Kd.int .u32)) rfl (by kernel_rfl) (Op.Op.int Try.underlying28) (Op.OpT.one (d := (Kd.int .u8)) rfl (by kernel_rfl) (Op.Op.int Try.underlying5)))) (fun x : S134 => (x.f0, x.f1)) (fun y => ⟨y.1, y.2⟩) (fun _ => rfl)) 134) (Op.OpT.cons (d := (Kd.int .u8)) rfl (by kernel_rfl) (Op.Op.int Try.underlying5) (Op.OpT.cons (d := (Kd.int .u32)) rfl (by kernel_rfl) (Op.Op.int Try.underlying28) (Op.OpT.one (d := (Kd.slice 28 (Kd.int .u32))) rfl (by kernel_rfl) (Op.Op.slice (d := (Kd.int .u32)) Try.underlying44 (by kernel_rfl) (Op.Op.int Try.underlying28) 28)))))))))) (fun x : S52 => (x.f0, x.f1, x.f2, x.f3, x.f4, x.f5, x.f6, x.f7)) (fun y => ⟨y.1, y.2.1, y.2.2.1, y.2.2.2.1, y.2.2.2.2.1, y.2.2.2.2.2.1, y.2.2.2.2.2.2.1, y.2.2.2.2.2.2.2⟩) (fun _ => rfl)) h0
  obtain ⟨A0_3, c0_3, A0_4, c0_4, A0_7, c0_7, hcs0, hc0_3, hC0_3, hc0_4, hC0_4, hc0_7, hC0_7⟩ := k52_open hK0
  obtain rfl : cs0 = _ := by rw [← Array.toArray_toList (xs := cs0), hcs0]
  obtain ⟨cs1, rfl, hsz1⟩ := okWide_struct Try.underlying52 (hval 1 52 v1 rfl rfl)
  have lt1 : ∀ x ∈ p1, x.block < W.heap.size := by obtain ⟨m, hm⟩ := h1; exact DataW.trod_lt m _ _ _ hm
  obtain ⟨x1, hK1, wf1⟩ := Op.Op.arg_agg (d := k52) (Op.Op.iso (Op.Op.struct Try.underlying52 (by kernel_rfl) (Op.OpT.cons (d := (Kd.int .u8)) rfl (by kernel_rfl) (Op.Op.int Try.underlying5) (Op.OpT.cons (d := (Kd.int .u32)) rfl (by kernel_rfl) (Op.Op.int Try.underlying28) (Op.OpT.cons (d := (Kd.int .u32)) rfl (by kernel_rfl) (Op.Op.int Try.underlying28) (Op.OpT.cons (d := (Kd.slice 82 k82)) rfl (by kernel_rfl) (Op.Op.slice (d := k82) Try.underlying22 (by kernel_rfl) (Op.Op.iso (Op.Op.struct Try.underlying82 (by kernel_rfl) (Op.OpT.cons (d := (Kd.int .u16)) rfl (by kernel_rfl) (Op.Op.int Try.underlying75) (Op.OpT.one (d := (Kd.int .u16)) rfl (by kernel_rfl) (Op.Op.int Try.underlying75)))) (fun x : S82 => (x.f0, x.f1)) (fun y => ⟨y.1, y.2⟩) (fun _ => rfl)) 82) (Op.OpT.cons (d := (Kd.slice 134 k134)) rfl (by kernel_rfl) (Op.Op.slice (d := k134) Try.underlying50 (by kernel_rfl) (Op.Op.iso (Op.Op.struct Try.underlying134 (by kernel_rfl) (Op.OpT.cons (d := (Kd.int .u32)) rfl (by kernel_rfl) (Op.Op.int Try.underlying28) (Op.OpT.one (d := (Kd.int .u8)) rfl (by kernel_rfl) (Op.Op.int Try.underlying5)))) (fun x : S134 => (x.f0, x.f1)) (fun y => ⟨y.1, y.2⟩) (fun _ => rfl)) 134) (Op.OpT.cons (d := (Kd.int .u8)) rfl (by kernel_rfl) (Op.Op.int Try.underlying5) (Op.OpT.cons (d := (Kd.int .u32)) rfl (by kernel_rfl) (Op.Op.int Try.underlying28) (Op.OpT.one (d := (Kd.slice 28 (Kd.int .u32))) rfl (by kernel_rfl) (Op.Op.slice (d := (Kd.int .u32)) Try.underlying44 (by kernel_rfl) (Op.Op.int Try.underlying28) 28)))))))))) (fun x : S52 => (x.f0, x.f1, x.f2, x.f3, x.f4, x.f5, x.f6, x.f7)) (fun y => ⟨y.1, y.2.1, y.2.2.1, y.2.2.2.1, y.2.2.2.2.1, y.2.2.2.2.2.1, y.2.2.2.2.2.2.1, y.2.2.2.2.2.2.2⟩) (fun _ => rfl)) h1
  obtain ⟨A1_3, c1_3, A1_4, c1_4, A1_7, c1_7, hcs1, hc1_3, hC1_3, hc1_4, hC1_4, hc1_7, hC1_7⟩ := k52_open hK1
  obtain rfl : cs1 = _ := by rw [← Array.toArray_toList (xs := cs1), hcs1]
  have hf : easellaw07_FeedbackPuts.f 0 x0.f0 x0.f1 x0.f2 x0.f3 x0.f4 x0.f5 x0.f6 x0.f7 x1.f0 x1.f1 x1.f2 x1.f3 x1.f4 x1.f5 x1.f6 x1.f7 = some true := by
    unfold easellaw07_FeedbackPuts.f
    obtain ⟨v0, v1, v2, v3, v4, v5, v6, v7⟩ := wf0
    obtain ⟨u0, u1, u2, u3, u4, u5, u6, u7⟩ := wf1
    exact if_pos ⟨⟨wf_u8 _ v0, wf_u32 _ v1, wf_u32 _ v2, fun x hx => ⟨wf_u16 _ (v3.2 x hx).1, wf_u16 _ (v3.2 x hx).2⟩, fun x hx => ⟨wf_u32 _ (v4.2 x hx).1, wf_u8 _ (v4.2 x hx).2⟩, wf_u8 _ v5, wf_u32 _ v6, fun x hx => wf_u32 _ (v7.2 x hx)⟩,
      ⟨wf_u8 _ u0, wf_u32 _ u1, wf_u32 _ u2, fun x hx => ⟨wf_u16 _ (u3.2 x hx).1, wf_u16 _ (u3.2 x hx).2⟩, fun x hx => ⟨wf_u32 _ (u4.2 x hx).1, wf_u8 _ (u4.2 x hx).2⟩, wf_u8 _ u5, wf_u32 _ u6, fun x hx => wf_u32 _ (u7.2 x hx)⟩⟩
  obtain ⟨k, hk⟩ : ∃ k : Nat, k = 0 := ⟨0, rfl⟩
  rw [← hk] at hf
  refine (easellaw07_FeedbackPuts.calls k x0.f0 x0.f1 x0.f2 _ _ x0.f3 _ _ x0.f4 x0.f5 x0.f6 _ _ x0.f7 x1.f0 x1.f1 x1.f2 _ _ x1.f3 _ _ x1.f4 x1.f5 x1.f6 _ _ x1.f7 true W hC0_3 hc0_3 hC0_4 hc0_4 hC0_7 hc0_7 hC1_3 hc1_3 hC1_4 hc1_4 hC1_7 hc1_7 hf).mono fun e W' hp => ?_
  obtain ⟨he, bel⟩ := hp
  subst he
  exact ⟨_, rfl, _, _, _, [], _, [], hW', trodAll_mk1 (shut_bool Try.underlying4 _), (trodAll_cons_mk (Below.trod laidOut (by kernel_rfl) (of_decide_eq_true (by kernel_rfl)) h0 bel lt0) (trodAll_cons_mk (Below.trod laidOut (by kernel_rfl) (of_decide_eq_true (by kernel_rfl)) h1 bel lt1) trodAll_mk0)), rfl, bel.frame _, fun h => by cases h⟩
theorem over : Rows.feedbackPutsRow.holds Try.pinned (OpenSpec.ofChange Rows.feedbackPutsSpec) :=
  OpenClaim.holds_of_wide 5 Try.f5 rfl rfl rfl rfl rfl rfl rfl ⟨rfl, rfl, rfl, rfl, rfl⟩ rfl rfl rfl rfl rfl (by kernel_rfl) Try.func5 (by kernel_rfl)
    (of_decide_eq_true (by kernel_rfl)) (by unfold Func.isWrapper; first | (rw [if_pos (by decide +kernel)]; kernel_rfl) | (rw [if_neg (by decide +kernel)]; exact ⟨rfl, rfl⟩))
    (fun os started H enc _ => lifted os started H enc)
theorem proved : Rows.FeedbackPutsSaid := over
#print axioms proved
end Go.Proofs.Ytjcejgolcdgipaa.feedbackPuts
