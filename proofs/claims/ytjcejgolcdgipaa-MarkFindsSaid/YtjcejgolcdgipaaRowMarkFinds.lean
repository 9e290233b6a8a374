/- MarkFinds: proved for every input that the row speaks of; no condition beside the row's own. The walk and the plain law are in the texts that it imports. -/
import Derived.Test.YtjcejgolcdgipaaRows
import Derived.Test.YtjcejgolcdgipaaOp
import Derived.Test.YtjcejgolcdgipaaK4L
import Derived.Test.YtjcejgolcdgipaaA
import Derived.WalkKit
import Derived.ProofKit
import Derived.OpenShut
import Derived.ShutString
import Derived.ChangeOld
import Derived.Below
import Derived.Carry
import Derived.SizedLaws
namespace Go.Proofs.Ytjcejgolcdgipaa.markFinds
open Go.ChangeShapes Go.WideShapes Go.ChangeAt Go.RowKit
open Go.ChangeMaps (open_string shut_string)
open Go.Proofs.Ytjcejgolcdgipaa.K4 Go.Proofs.YtjcejgolcdgipaaW.PrintWords
theorem own : ownKnob Try.prog.godebug = none := by kernel_rfl
theorem laidOut : laidOutB Try.prog = true := by kernel_rfl
set_option maxHeartbeats 1000000 in
set_option maxRecDepth 100000 in
theorem lifted (os : Os) (started : os.Started) (H : Type) (enc : TypeId × Value → H) :
    ReturnsInHanded {} Try.checked os 10 .any (Rows.markFindsSpec.pre6 enc Try.prog Try.f10 Rows.markFindsRow.domain false) (Rows.markFindsSpec.post enc Try.prog Try.f10 false true false false) := by
  refine returnsInHanded_of_change_sized (C := Try.checked) own started (by kernel_rfl) Try.func10
    (ChangeSpec.witness6 (enc := enc) (C := Try.checked) false ⟨#[], #[.agg #[.bool false, .int .u8 0, .int .u16 0, .int .u32 0, .int .u32 0, .slice none 0 0, .bool false, .int .u16 0, .slice none 0 0, .slice none 0 0, .int .u8 0], .int .u8 0, .agg #[.bool false, .bool false, .bool false, .bool false, .bool false, .bool false, .int .u8 0, .int .u8 0, .int .u8 0]], []⟩ 8 (by kernel_rfl) (by kernel_rfl) (by kernel_rfl) (by kernel_rfl)) ?_
  intro W base args ds gs before hval0 hW _hcnd _hsz0 _
  have hval : ∀ (j : Nat) t v, Try.f10.params[j]? = some t → args[j]? = some v → Value.okWide Try.prog W .any base t v := hval0
  have hW' := hW
  obtain ⟨p, q, hA0, hV, rfl, _hfz, _hnd⟩ := hW
  have hA : DataW.TrodAll enc Try.prog W 0 (fun _ => true) true Try.f10.params.toList args.toList ds p := hA0
  rw [Try.params10] at hA hval
  obtain ⟨v0, vs0, d0, ds0, p0, q0, hargs, rfl, rfl, h0, r0⟩ := trodAll_cons hA
  obtain ⟨v1, vs1, d1, ds1, p1, q1, rfl, rfl, rfl, h1, r1⟩ := trodAll_cons r0
  obtain ⟨v2, vs2, d2, ds2, p2, q2, rfl, rfl, rfl, h2, r2⟩ := trodAll_cons r1
  obtain ⟨rfl, rfl, rfl⟩ := trodAll_nil r2
  obtain rfl : args = #[v0, v1, v2] := by cases args; simp_all
  obtain ⟨rfl, rfl⟩ := trodVars_none hV
  obtain ⟨cs0, rfl, hsz0⟩ := okWide_struct Try.underlying98 (hval 0 98 v0 rfl rfl)
  have lt0 : ∀ x ∈ p0, x.block < W.heap.size := by obtain ⟨m, hm⟩ := h0; exact DataW.trod_lt m _ _ _ hm
  obtain ⟨x0, hK0, wf0⟩ := Op.Op.arg_agg (d := k98) (Op.Op.iso (Op.Op.struct Try.underlying98 (by kernel_rfl) (Op.OpT.cons (d := Kd.bool) rfl (by kernel_rfl) (Op.Op.bool Try.underlying4) (Op.OpT.cons (d := (Kd.int .u8)) rfl (by kernel_rfl) (Op.Op.int Try.underlying5) (Op.OpT.cons (d := (Kd.int .u16)) rfl (by kernel_rfl) (Op.Op.int Try.underlying75) (Op.OpT.cons (d := (Kd.int .u32)) rfl (by kernel_rfl) (Op.Op.int Try.underlying28) (Op.OpT.cons (d := (Kd.int .u32)) rfl (by kernel_rfl) (Op.Op.int Try.underlying28) (Op.OpT.cons (d := (Kd.slice 28 (Kd.int .u32))) rfl (by kernel_rfl) (Op.Op.slice (d := (Kd.int .u32)) Try.underlying44 (by kernel_rfl) (Op.Op.int Try.underlying28) 28) (Op.OpT.cons (d := Kd.bool) rfl (by kernel_rfl) (Op.Op.bool Try.underlying4) (Op.OpT.cons (d := (Kd.int .u16)) rfl (by kernel_rfl) (Op.Op.int Try.underlying75) (Op.OpT.cons (d := (Kd.slice 5 (Kd.int .u8))) rfl (by kernel_rfl) (Op.Op.slice (d := (Kd.int .u8)) Try.underlying38 (by kernel_rfl) (Op.Op.int Try.underlying5) 5) (Op.OpT.cons (d := (Kd.slice 5 (Kd.int .u8))) rfl (by kernel_rfl) (Op.Op.slice (d := (Kd.int .u8)) Try.underlying38 (by kernel_rfl) (Op.Op.int Try.underlying5) 5) (Op.OpT.one (d := (Kd.int .u8)) rfl (by kernel_rfl) (Op.Op.int Try.underlying5))))))))))))) (fun x : S98 => (x.f0, x.f1, x.f2, x.f3, x.f4, x.f5, x.f6, x.f7, x.f8, x.f9, x.f10)) (fun y => ⟨y.1, y.2.1, y.2.2.1, y.2.2.2.1, y.2.2.2.2.1, y.2.2.2.2.2.1, y.2.2.2.2.2.2.1, y.2.2.2.2.2.2.2.1, y.2.2.2.2.2.2.2.2.1, y.2.2.2.2.2.2.2.2.2.1, y.2.2.2.2.2.2.2.2.2.2⟩) (fun _ => rfl)) h0
  obtain ⟨A0_5, c0_5, A0_8, c0_8, A0_9, c0_9, hcs0, hc0_5, hC0_5, hc0_8, hC0_8, hc0_9, hC0_9⟩ := k98_open hK0
  obtain rfl : cs0 = _ := by rw [← Array.toArray_toList (xs := cs0), hcs0]
  obtain ⟨a1, rfl, rfl, rfl, w1⟩ := open_int Try.underlying5 (hval 1 5 v1 rfl rfl) h1
  obtain ⟨cs2, rfl, hsz2⟩ := okWide_struct Try.underlying84 (hval 2 84 v2 rfl rfl)
  have lt2 : ∀ x ∈ p2, x.block < W.heap.size := by obtain ⟨m, hm⟩ := h2; exact DataW.trod_lt m _ _ _ hm
  obtain ⟨x2, hK2, wf2⟩ := Op.Op.arg_agg (d := k84) (Op.Op.iso (Op.Op.struct Try.underlying84 (by kernel_rfl) (Op.OpT.cons (d := Kd.bool) rfl (by kernel_rfl) (Op.Op.bool Try.underlying4) (Op.OpT.cons (d := Kd.bool) rfl (by kernel_rfl) (Op.Op.bool Try.underlying4) (Op.OpT.cons (d := Kd.bool) rfl (by kernel_rfl) (Op.Op.bool Try.underlying4) (Op.OpT.cons (d := Kd.bool) rfl (by kernel_rfl) (Op.Op.bool Try.underlying4) (Op.OpT.cons (d := Kd.bool) rfl (by kernel_rfl) (Op.Op.bool Try.underlying4) (Op.OpT.cons (d := Kd.bool) rfl (by kernel_rfl) (Op.Op.bool Try.underlying4) (Op.OpT.cons (d := (Kd.int .u8)) rfl (by kernel_rfl) (Op.Op.int Try.underlying5) (Op.OpT.cons (d := (Kd.int .u8)) rfl (by kernel_rfl) (Op.Op.int Try.underlying5) (Op.OpT.one (d := (Kd.int .u8)) rfl (by kernel_rfl) (Op.Op.int Try.underlying5))))))))))) (fun x : S84 => (x.f0, x.f1, x.f2, x.f3, x.f4, x.f5, x.f6, x.f7, x.f8)) (fun y => ⟨y.1, y.2.1, y.2.2.1, y.2.2.2.1, y.2.2.2.2.1, y.2.2.2.2.2.1, y.2.2.2.2.2.2.1, y.2.2.2.2.2.2.2.1, y.2.2.2.2.2.2.2.2⟩) (fun _ => rfl)) h2
  have hcs2 := k84_open hK2
  obtain rfl : cs2 = _ := by rw [← Array.toArray_toList (xs := cs2), hcs2]
  obtain ⟨_, _, _, _, _, _, _, v7, v8, _⟩ := wf0
  obtain ⟨_, _, _, _, _, _, w6, w7, w8⟩ := wf2
  have p6 := wf_u8 _ w6
  have p7 := wf_u8 _ w7
  have p8 := wf_u8 _ w8
  have q7 := wf_u16 _ v7
  have p1 := wf_u8 _ w1
  have hf : easellaw04_MarkFinds.f 0 x0.f0 x0.f1 x0.f2 x0.f3 x0.f4 x0.f5 x0.f6 x0.f7 x0.f8 x0.f9 x0.f10 a1 x2.f0 x2.f1 x2.f2 x2.f3 x2.f4 x2.f5 x2.f6 x2.f7 x2.f8 = some true := by
    unfold easellaw04_MarkFinds.f
    exact if_pos ⟨fun x hx => wf_u8 x (v8.2 x hx), q7.1, q7.2, p1.1, p1.2, p6.1, p6.2, p7.1, p7.2, p8.1, p8.2⟩
  obtain ⟨k, hk⟩ : ∃ k : Nat, k = 0 := ⟨0, rfl⟩
  rw [← hk] at hf
  refine (easellaw04_MarkFinds.calls k x0.f0 x0.f1 x0.f2 x0.f3 x0.f4 _ _ x0.f5 x0.f6 x0.f7 _ _ x0.f8 _ _ x0.f9 x0.f10 _ x2.f0 x2.f1 x2.f2 x2.f3 x2.f4 x2.f5 x2.f6 x2.f7 x2.f8 true W hC0_5 hc0_5 hC0_8 hc0_8 hC0_9 hc0_9 hf).mono fun e W' hp => ?_
  obtain ⟨he, bel⟩ := hp
  subst he
  exact ⟨_, rfl, _, _, _, [], _, [], hW', trodAll_mk1 (shut_bool Try.underlying4 _), (trodAll_cons_mk (Below.trod laidOut (by kernel_rfl) (of_decide_eq_true (by kernel_rfl)) h0 bel lt0) (trodAll_cons_mk (shut_int Try.underlying5 w1) (trodAll_cons_mk (Below.trod laidOut (by kernel_rfl) (of_decide_eq_true (by kernel_rfl)) h2 bel lt2) trodAll_mk0))), rfl, bel.frame _, fun h => by cases h⟩
theorem over : Rows.markFindsRow.holds Try.pinned (OpenSpec.ofChange Rows.markFindsSpec) :=
  OpenClaim.holds_of_wide 10 Try.f10 rfl rfl rfl rfl rfl rfl rfl ⟨rfl, rfl, rfl, rfl, rfl⟩ rfl rfl rfl rfl rfl (by kernel_rfl) Try.func10 (by kernel_rfl)
    (of_decide_eq_true (by kernel_rfl)) (by unfold Func.isWrapper; first | (rw [if_pos (by decide +kernel)]; kernel_rfl) | (rw [if_neg (by decide +kernel)]; exact ⟨rfl, rfl⟩))
    (fun os started H enc _ => lifted os started H enc)
theorem proved : Rows.MarkFindsSaid := over
#print axioms proved
end Go.Proofs.Ytjcejgolcdgipaa.markFinds
