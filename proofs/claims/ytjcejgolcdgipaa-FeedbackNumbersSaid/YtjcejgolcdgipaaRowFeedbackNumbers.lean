/- FeedbackNumbers: proved for every input that the row speaks of; no condition beside the row's own. The walk and the plain law are in the texts that it imports. -/
import Derived.Test.YtjcejgolcdgipaaRows
import Derived.Test.YtjcejgolcdgipaaOp
import Derived.Test.YtjcejgolcdgipaaK7J
import Derived.Test.YtjcejgolcdgipaaA
import Derived.WalkKit
import Derived.ProofKit
import Derived.OpenShut
import Derived.ShutString
import Derived.ChangeOld
import Derived.Below
import Derived.Carry
import Derived.SizedLaws
namespace Go.Proofs.Ytjcejgolcdgipaa.feedbackNumbers
open Go.ChangeShapes Go.WideShapes Go.ChangeAt Go.RowKit
open Go.ChangeMaps (open_string shut_string)
open Go.Proofs.Ytjcejgolcdgipaa.K7 Go.Proofs.YtjcejgolcdgipaaW.PrintWords
theorem own : ownKnob Try.prog.godebug = none := by kernel_rfl
theorem laidOut : laidOutB Try.prog = true := by kernel_rfl
set_option maxHeartbeats 1000000 in
set_option maxRecDepth 100000 in
theorem lifted (os : Os) (started : os.Started) (H : Type) (enc : TypeId × Value → H) :
    ReturnsInHanded {} Try.checked os 3 .any (Rows.feedbackNumbersSpec.pre6 enc Try.prog Try.f3 Rows.feedbackNumbersRow.domain false) (Rows.feedbackNumbersSpec.post enc Try.prog Try.f3 false true false false) := by
  refine returnsInHanded_of_change_sized (C := Try.checked) own started (by kernel_rfl) Try.func3
    (ChangeSpec.witness6 (enc := enc) (C := Try.checked) false ⟨#[], #[.slice none 0 0, .slice none 0 0, .int .u64 0], []⟩ 8 (by kernel_rfl) (by kernel_rfl) (by kernel_rfl) (by kernel_rfl)) ?_
  intro W base args ds gs before hval0 hW _hcnd _hsz0 _
  have hval : ∀ (j : Nat) t v, Try.f3.params[j]? = some t → args[j]? = some v → Value.okWide Try.prog W .any base t v := hval0
  have hW' := hW
  obtain ⟨p, q, hA0, hV, rfl, _hfz, _hnd⟩ := hW
  have hA : DataW.TrodAll enc Try.prog W 0 (fun _ => true) true Try.f3.params.toList args.toList ds p := hA0
  rw [Try.params3] at hA hval
  obtain ⟨v0, vs0, d0, ds0, p0, q0, hargs, rfl, rfl, h0, r0⟩ := trodAll_cons hA
  obtain ⟨v1, vs1, d1, ds1, p1, q1, rfl, rfl, rfl, h1, r1⟩ := trodAll_cons r0
  obtain ⟨v2, vs2, d2, ds2, p2, q2, rfl, rfl, rfl, h2, r2⟩ := trodAll_cons r1
  obtain ⟨rfl, rfl, rfl⟩ := trodAll_nil r2
  obtain rfl : args = #[v0, v1, v2] := by cases args; simp_all
  obtain ⟨rfl, rfl⟩ := trodVars_none hV
  obtain ⟨b0, len0, cap0, rfl⟩ := okWide_slice Try.underlying22 (hval 0 22 v0 rfl rfl)
  have lt0 : ∀ x ∈ p0, x.block < W.heap.size := by obtain ⟨m, hm⟩ := h0; exact DataW.trod_lt m _ _ _ hm
  obtain ⟨l0, hl0, hc0, hC0, wf0⟩ := Op.Op.arg_slice (Op.Op.slice (d := k82) Try.underlying22 (by kernel_rfl) (Op.Op.iso (Op.Op.struct Try.underlying82 (by kernel_rfl) (Op.OpT.cons (d := (Kd.int .u16)) rfl (by kernel_rfl) (Op.Op.int Try.underlying75) (Op.OpT.one (d := (Kd.int .u16)) rfl (by kernel_rfl) (Op.Op.int Try.underlying75)))) (fun x : S82 => (x.f0, x.f1)) (fun y => ⟨y.1, y.2⟩) (fun _ => rfl)) 82) h0
  subst hl0
  obtain ⟨b1, len1, cap1, rfl⟩ := okWide_slice Try.underlying23 (hval 1 23 v1 rfl rfl)
  have lt1 : ∀ x ∈ p1, x.block < W.heap.size := by obtain ⟨m, hm⟩ := h1; exact DataW.trod_lt m _ _ _ hm
  obtain ⟨l1, hl1, hc1, hC1, wf1⟩ := Op.Op.arg_slice (Op.Op.slice (d := (Kd.int .u16)) Try.underlying23 (by kernel_rfl) (Op.Op.int Try.underlying75) 75) h1
  subst hl1
  obtain ⟨a2, rfl, rfl, rfl, w2⟩ := open_int Try.underlying24 (hval 2 24 v2 rfl rfl) h2
  obtain ⟨r, rfl⟩ := Int.eq_ofNat_of_zero_le (wf_u64 a2 w2).1
  have hr := (wf_u64 _ w2).2
  have hop : Ok2 l0 := fun x hx => by
    have h := wf0.2 x hx
    have h1 := wf_u16 _ h.1
    have h2 := wf_u16 _ h.2
    exact ⟨⟨h1.1, by omega⟩, h2.1, by omega⟩
  have hn : OkN 65536 l1 := fun x hx => by
    have h := wf_u16 _ (wf1.2 x hx)
    exact ⟨h.1, by omega⟩
  have hr2 : r < 18446744073709551616 := by omega
  obtain ⟨k, hf⟩ := (Numbers_ev (r := r) hop hn hr2).rounds
  refine (easellaw07_FeedbackNumbers.calls k _ _ l0 _ _ l1 _ true W hC0 hc0 hC1 hc1 hf).mono fun e W' hp => ?_
  obtain ⟨he, bel⟩ := hp
  subst he
  exact ⟨_, rfl, _, _, _, [], _, [], hW', trodAll_mk1 (shut_bool Try.underlying4 _), (trodAll_cons_mk (Below.trod laidOut (by kernel_rfl) (of_decide_eq_true (by kernel_rfl)) h0 bel lt0) (trodAll_cons_mk (Below.trod laidOut (by kernel_rfl) (of_decide_eq_true (by kernel_rfl)) h1 bel lt1) (trodAll_cons_mk (shut_int Try.underlying24 w2) trodAll_mk0))), rfl, bel.frame _, fun h => by cases h⟩
theorem over : Rows.feedbackNumbersRow.holds Try.pinned (OpenSpec.ofChange Rows.feedbackNumbersSpec) :=
  OpenClaim.holds_of_wide 3 Try.f3 rfl rfl rfl rfl rfl rfl rfl ⟨rfl, rfl, rfl, rfl, rfl⟩ rfl rfl rfl rfl rfl (by kernel_rfl) Try.func3 (by kernel_rfl)
    (of_decide_eq_true (by kernel_rfl)) (by unfold Func.isWrapper; first | (rw [if_pos (by decide +kernel)]; kernel_rfl) | (rw [if_neg (by decide +kernel)]; exact ⟨rfl, rfl⟩))
    (fun os started H enc _ => lifted os started H enc)
theorem proved : Rows.FeedbackNumbersSaid := over
#print axioms proved
end Go.Proofs.Ytjcejgolcdgipaa.feedbackNumbers
