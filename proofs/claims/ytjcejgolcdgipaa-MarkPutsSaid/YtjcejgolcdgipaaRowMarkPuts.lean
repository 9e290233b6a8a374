/- MarkPuts: proved for every input that the row speaks of; no condition beside the row's own. The walk and the plain law are in the texts that it imports. -/
import Derived.Test.YtjcejgolcdgipaaRows
import Derived.Test.YtjcejgolcdgipaaOp
import Derived.Test.YtjcejgolcdgipaaK4P
import Derived.Test.YtjcejgolcdgipaaA
import Derived.WalkKit
import Derived.ProofKit
import Derived.OpenShut
import Derived.ShutString
import Derived.ChangeOld
import Derived.Below
import Derived.Carry
import Derived.SizedLaws
namespace Go.Proofs.Ytjcejgolcdgipaa.markPuts
open Go.ChangeShapes Go.WideShapes Go.ChangeAt Go.RowKit
open Go.ChangeMaps (open_string shut_string)
open Go.Proofs.Ytjcejgolcdgipaa.K4 Go.Proofs.YtjcejgolcdgipaaW.PrintWords
theorem own : ownKnob Try.prog.godebug = none := by kernel_rfl
theorem laidOut : laidOutB Try.prog = true := by kernel_rfl
set_option maxHeartbeats 1000000 in
set_option maxRecDepth 100000 in
theorem lifted (os : Os) (started : os.Started) (H : Type) (enc : TypeId × Value → H) :
    ReturnsInHanded {} Try.checked os 8 .any (Rows.markPutsSpec.pre6 enc Try.prog Try.f8 Rows.markPutsRow.domain false) (Rows.markPutsSpec.post enc Try.prog Try.f8 false true false false) := by
  refine returnsInHanded_of_change_sized (C := Try.checked) own started (by kernel_rfl) Try.func8
    (ChangeSpec.witness6 (enc := enc) (C := Try.checked) false ⟨#[], #[.agg #[.bool false, .bool false, .bool false, .bool false, .bool false, .bool false, .int .u8 0, .int .u8 0, .int .u8 0]], []⟩ 8 (by kernel_rfl) (by kernel_rfl) (by kernel_rfl) (by kernel_rfl)) ?_
  intro W base args ds gs before hval0 hW _hcnd _hsz0 _
  have hval : ∀ (j : Nat) t v, Try.f8.params[j]? = some t → args[j]? = some v → Value.okWide Try.prog W .any base t v := hval0
  have hW' := hW
  obtain ⟨p, q, hA0, hV, rfl, _hfz, _hnd⟩ := hW
  have hA : DataW.TrodAll enc Try.prog W 0 (fun _ => true) true Try.f8.params.toList args.toList ds p := hA0
  rw [Try.params8] at hA hval
  obtain ⟨v0, vs0, d0, ds0, p0, q0, hargs, rfl, rfl, h0, r0⟩ := trodAll_cons hA
  obtain ⟨rfl, rfl, rfl⟩ := trodAll_nil r0
  obtain rfl : args = #[v0] := by cases args; simp_all
  obtain ⟨rfl, rfl⟩ := trodVars_none hV
  obtain ⟨cs0, rfl, hsz0⟩ := okWide_struct Try.underlying84 (hval 0 84 v0 rfl rfl)
  have lt0 : ∀ x ∈ p0, x.block < W.heap.size := by obtain ⟨m, hm⟩ := h0; exact DataW.trod_lt m _ _ _ hm
  obtain ⟨x0, hK0, wf0⟩ := Op.Op.arg_agg (d := k84) (Op.Op.iso (Op.Op.struct Try.underlying84 (by kernel_rfl) (Op.OpT.cons (d := Kd.bool) rfl (by kernel_rfl) (Op.Op.bool Try.underlying4) (Op.OpT.cons (d := Kd.bool) rfl (by kernel_rfl) (Op.Op.bool Try.underlying4) (Op.OpT.cons (d := Kd.bool) rfl (by kernel_rfl) (Op.Op.bool Try.underlying4) (Op.OpT.cons (d := Kd.bool) rfl (by kernel_rfl) (Op.Op.bool Try.underlying4) (Op.OpT.cons (d := Kd.bool) rfl (by kernel_rfl) (Op.Op.bool Try.underlying4) (Op.OpT.cons (d := Kd.bool) rfl (by kernel_rfl) (Op.Op.bool Try.underlying4) (Op.OpT.cons (d := (Kd.int .u8)) rfl (by kernel_rfl) (Op.Op.int Try.underlying5) (Op.OpT.cons (d := (Kd.int .u8)) rfl (by kernel_rfl) (Op.Op.int Try.underlying5) (Op.OpT.one (d := (Kd.int .u8)) rfl (by kernel_rfl) (Op.Op.int Try.underlying5))))))))))) (fun x : S84 => (x.f0, x.f1, x.f2, x.f3, x.f4, x.f5, x.f6, x.f7, x.f8)) (fun y => ⟨y.1, y.2.1, y.2.2.1, y.2.2.2.1, y.2.2.2.2.1, y.2.2.2.2.2.1, y.2.2.2.2.2.2.1, y.2.2.2.2.2.2.2.1, y.2.2.2.2.2.2.2.2⟩) (fun _ => rfl)) h0
  have hcs0 := k84_open hK0
  obtain rfl : cs0 = _ := by rw [← Array.toArray_toList (xs := cs0), hcs0]
  obtain ⟨_, _, _, _, _, _, w6, w7, w8⟩ := wf0
  have p6 := wf_u8 _ w6
  have p7 := wf_u8 _ w7
  have p8 := wf_u8 _ w8
  obtain ⟨t, ht⟩ := Int.eq_ofNat_of_zero_le p6.1
  obtain ⟨li, hli⟩ := Int.eq_ofNat_of_zero_le p7.1
  obtain ⟨tl, htl⟩ := Int.eq_ofNat_of_zero_le p8.1
  obtain ⟨k, hf⟩ := (MarkPuts_ev x0.f0 x0.f1 x0.f2 x0.f3 x0.f4 x0.f5 t li tl (by omega) (by omega) (by omega)).rounds
  rw [← ht, ← hli, ← htl] at hf
  refine (easellaw04_MarkPuts.calls k x0.f0 x0.f1 x0.f2 x0.f3 x0.f4 x0.f5 x0.f6 x0.f7 x0.f8 true W  hf).mono fun e W' hp => ?_
  obtain ⟨he, bel⟩ := hp
  subst he
  exact ⟨_, rfl, _, _, _, [], _, [], hW', trodAll_mk1 (shut_bool Try.underlying4 _), (trodAll_cons_mk (Below.trod laidOut (by kernel_rfl) (of_decide_eq_true (by kernel_rfl)) h0 bel lt0) trodAll_mk0), rfl, bel.frame _, fun h => by cases h⟩
theorem over : Rows.markPutsRow.holds Try.pinned (OpenSpec.ofChange Rows.markPutsSpec) :=
  OpenClaim.holds_of_wide 8 Try.f8 rfl rfl rfl rfl rfl rfl rfl ⟨rfl, rfl, rfl, rfl, rfl⟩ rfl rfl rfl rfl rfl (by kernel_rfl) Try.func8 (by kernel_rfl)
    (of_decide_eq_true (by kernel_rfl)) (by unfold Func.isWrapper; first | (rw [if_pos (by decide +kernel)]; kernel_rfl) | (rw [if_neg (by decide +kernel)]; exact ⟨rfl, rfl⟩))
    (fun os started H enc _ => lifted os started H enc)
theorem proved : Rows.MarkPutsSaid := over
#print axioms proved
end Go.Proofs.Ytjcejgolcdgipaa.markPuts
