/- Vp8Puts: proved for every input that the row speaks of; no condition beside the row's own. The walk and the plain law are in the texts that it imports. -/
import Derived.Test.YthgjhdcifdfhoaaRows
import Derived.Test.YthgjhdcifdfhoaaPU1
import Derived.Test.YthgjhdcifdfhoaaPU15
import Derived.Test.YthgjhdcifdfhoaaPU2
import Derived.Test.YthgjhdcifdfhoaaPU10
import Derived.WalkKit
import Derived.ProofKit
import Derived.OpenShut
import Derived.ShutString
import Derived.ChangeOld
import Derived.Below
import Derived.Carry
import Derived.SizedLaws

namespace Go.Proofs.Ythgjhdcifdfhoaa.vp8Puts
open Go.ChangeShapes Go.WideShapes Go.ChangeAt Go.RowKit
open Go.ChangeMaps (open_string shut_string)
open Go.Proofs.Ythgjhdcifdfhoaa.K5 Go.Proofs.YthgjhdcifdfhoaaW.PrintWords
theorem own : ownKnob Try.prog.godebug = none := by kernel_rfl
theorem laidOut : laidOutB Try.prog = true := by kernel_rfl
set_option maxHeartbeats 1000000 in
set_option maxRecDepth 100000 in
theorem lifted (os : Os) (started : os.Started) (H : Type) (enc : TypeId × Value → H) :
    ReturnsInHanded {} Try.checked os 4 .any (Rows.vp8PutsSpec.pre6 enc Try.prog Try.f4 Rows.vp8PutsRow.domain false) (Rows.vp8PutsSpec.post enc Try.prog Try.f4 false true false false) := by
  refine returnsInHanded_of_change_sized (C := Try.checked) own started (by kernel_rfl) Try.func4
    (ChangeSpec.witness6 (enc := enc) (C := Try.checked) false ⟨#[], #[.agg #[.bool false, .bool false, .int .u8 0, .bool false, .bool false, .int .u16 0, .bool false, .int .u8 0, .bool false, .int .u8 0, .bool false, .bool false, .int .u8 0], .slice none 0 0, .int .u16 0, .int .u8 0, .int .u8 0, .bool false], []⟩ 8 (by kernel_rfl) (by kernel_rfl) (by kernel_rfl) (by kernel_rfl)) ?_
  intro W base args ds gs before hval0 hW _hcnd _hsz0 _
  have hval : ∀ (j : Nat) t v, Try.f4.params[j]? = some t → args[j]? = some v → Value.okWide Try.prog W .any base t v := hval0
  have hW' := hW
  obtain ⟨p, q, hA0, hV, rfl, _hfz, _hnd⟩ := hW
  have hA : DataW.TrodAll enc Try.prog W 0 (fun _ => true) true Try.f4.params.toList args.toList ds p := hA0
  rw [Try.params4] at hA hval
  obtain ⟨v0, vs0, d0, ds0, p0, q0, hargs, rfl, rfl, h0, r0⟩ := trodAll_cons hA
  obtain ⟨v1, vs1, d1, ds1, p1, q1, rfl, rfl, rfl, h1, r1⟩ := trodAll_cons r0
  obtain ⟨v2, vs2, d2, ds2, p2, q2, rfl, rfl, rfl, h2, r2⟩ := trodAll_cons r1
  obtain ⟨v3, vs3, d3, ds3, p3, q3, rfl, rfl, rfl, h3, r3⟩ := trodAll_cons r2
  obtain ⟨v4, vs4, d4, ds4, p4, q4, rfl, rfl, rfl, h4, r4⟩ := trodAll_cons r3
  obtain ⟨v5, vs5, d5, ds5, p5, q5, rfl, rfl, rfl, h5, r5⟩ := trodAll_cons r4
  obtain ⟨rfl, rfl, rfl⟩ := trodAll_nil r5
  obtain rfl : args = #[v0, v1, v2, v3, v4, v5] := by cases args; simp_all
  obtain ⟨rfl, rfl⟩ := trodVars_none hV
  obtain ⟨cs0, rfl, hsz0⟩ := okWide_struct Try.underlying31 (hval 0 31 v0 rfl rfl)
  have lt0 : ∀ x ∈ p0, x.block < W.heap.size := by obtain ⟨m, hm⟩ := h0; exact DataW.trod_lt m _ _ _ hm
  obtain ⟨x0, hK0, wf0⟩ := Op.Op.arg_agg (d := k31) (Op.Op.iso (Op.Op.struct Try.underlying31 (by kernel_rfl) (Op.OpT.cons (d := Kd.bool) rfl (by kernel_rfl) (Op.Op.bool Try.underlying4) (Op.OpT.cons (d := Kd.bool) rfl (by kernel_rfl) (Op.Op.bool Try.underlying4) (Op.OpT.cons (d := (Kd.int .u8)) rfl (by kernel_rfl) (Op.Op.int Try.underlying5) (Op.OpT.cons (d := Kd.bool) rfl (by kernel_rfl) (Op.Op.bool Try.underlying4) (Op.OpT.cons (d := Kd.bool) rfl (by kernel_rfl) (Op.Op.bool Try.underlying4) (Op.OpT.cons (d := (Kd.int .u16)) rfl (by kernel_rfl) (Op.Op.int Try.underlying25) (Op.OpT.cons (d := Kd.bool) rfl (by kernel_rfl) (Op.Op.bool Try.underlying4) (Op.OpT.cons (d := (Kd.int .u8)) rfl (by kernel_rfl) (Op.Op.int Try.underlying5) (Op.OpT.cons (d := Kd.bool) rfl (by kernel_rfl) (Op.Op.bool Try.underlying4) (Op.OpT.cons (d := (Kd.int .u8)) rfl (by kernel_rfl) (Op.Op.int Try.underlying5) (Op.OpT.cons (d := Kd.bool) rfl (by kernel_rfl) (Op.Op.bool Try.underlying4) (Op.OpT.cons (d := Kd.bool) rfl (by kernel_rfl) (Op.Op.bool Try.underlying4) (Op.OpT.one (d := (Kd.int .u8)) rfl (by kernel_rfl) (Op.Op.int Try.underlying5))))))))))))))) (fun x : S31 => (x.f0, x.f1, x.f2, x.f3, x.f4, x.f5, x.f6, x.f7, x.f8, x.f9, x.f10, x.f11, x.f12)) (fun y => ⟨y.1, y.2.1, y.2.2.1, y.2.2.2.1, y.2.2.2.2.1, y.2.2.2.2.2.1, y.2.2.2.2.2.2.1, y.2.2.2.2.2.2.2.1, y.2.2.2.2.2.2.2.2.1, y.2.2.2.2.2.2.2.2.2.1, y.2.2.2.2.2.2.2.2.2.2.1, y.2.2.2.2.2.2.2.2.2.2.2.1, y.2.2.2.2.2.2.2.2.2.2.2.2⟩) (fun _ => rfl)) h0
  have hcs0 := k31_open hK0
  obtain rfl : cs0 = _ := by rw [← Array.toArray_toList (xs := cs0), hcs0]
  obtain ⟨b1, len1, cap1, rfl⟩ := okWide_slice Try.underlying22 (hval 1 22 v1 rfl rfl)
  have lt1 : ∀ x ∈ p1, x.block < W.heap.size := by obtain ⟨m, hm⟩ := h1; exact DataW.trod_lt m _ _ _ hm
  obtain ⟨l1, hl1, hc1, hC1, wf1⟩ := Op.Op.arg_slice (Op.Op.slice (d := (Kd.int .u8)) Try.underlying22 (by kernel_rfl) (Op.Op.int Try.underlying5) 5) h1
  subst hl1
  obtain ⟨a2, rfl, rfl, rfl, w2⟩ := open_int Try.underlying25 (hval 2 25 v2 rfl rfl) h2
  obtain ⟨a3, rfl, rfl, rfl, w3⟩ := open_int Try.underlying5 (hval 3 5 v3 rfl rfl) h3
  obtain ⟨a4, rfl, rfl, rfl, w4⟩ := open_int Try.underlying5 (hval 4 5 v4 rfl rfl) h4
  obtain ⟨a5, rfl, rfl, rfl⟩ := open_bool Try.underlying4 (hval 5 4 v5 rfl rfl) h5
  have hf : easellaw05_Vp8Puts.f 0 x0.f0 x0.f1 x0.f2 x0.f3 x0.f4 x0.f5 x0.f6 x0.f7 x0.f8 x0.f9 x0.f10 x0.f11 x0.f12 l1 a2 a3 a4 a5 = some true := by
    unfold easellaw05_Vp8Puts.f
    obtain ⟨_, _, v2, _, _, v5, _, v7, _, v9, _, _, v12⟩ := wf0
    exact if_pos ⟨⟨wf_u8 _ v2, wf_u16 _ v5, wf_u8 _ v7, wf_u8 _ v9, wf_u8 _ v12⟩, fun x hx => wf_u8 _ (wf1.2 x hx), wf_u16 _ w2, wf_u8 _ w3, wf_u8 _ w4⟩
  obtain ⟨k, hk⟩ : ∃ k : Nat, k = 0 := ⟨0, rfl⟩
  rw [← hk] at hf
  refine (easellaw05_Vp8Puts.calls k x0.f0 x0.f1 x0.f2 x0.f3 x0.f4 x0.f5 x0.f6 x0.f7 x0.f8 x0.f9 x0.f10 x0.f11 x0.f12 _ _ l1 _ _ _ _ true W hC1 hc1 hf).mono fun e W' hp => ?_
  obtain ⟨he, bel⟩ := hp
  subst he
  exact ⟨_, rfl, _, _, _, [], _, [], hW', trodAll_mk1 (shut_bool Try.underlying4 _), (trodAll_cons_mk (Below.trod laidOut (by kernel_rfl) (of_decide_eq_true (by kernel_rfl)) h0 bel lt0) (trodAll_cons_mk (Below.trod laidOut (by kernel_rfl) (of_decide_eq_true (by kernel_rfl)) h1 bel lt1) (trodAll_cons_mk (shut_int Try.underlying25 w2) (trodAll_cons_mk (shut_int Try.underlying5 w3) (trodAll_cons_mk (shut_int Try.underlying5 w4) (trodAll_cons_mk (shut_bool Try.underlying4 _) trodAll_mk0)))))), rfl, bel.frame _, fun h => by cases h⟩
theorem over : Rows.vp8PutsRow.holds Try.pinned (OpenSpec.ofChange Rows.vp8PutsSpec) :=
  OpenClaim.holds_of_wide 4 Try.f4 rfl rfl rfl rfl rfl rfl rfl ⟨rfl, rfl, rfl, rfl, rfl⟩ rfl rfl rfl rfl rfl (by kernel_rfl) Try.func4 (by kernel_rfl)
    (of_decide_eq_true (by kernel_rfl)) (by unfold Func.isWrapper; first | (rw [if_pos (by decide +kernel)]; kernel_rfl) | (rw [if_neg (by decide +kernel)]; exact ⟨rfl, rfl⟩))
    (fun os started H enc _ => lifted os started H enc)
theorem proved : Rows.Vp8PutsSaid := over
#print axioms proved
end Go.Proofs.Ythgjhdcifdfhoaa.vp8Puts
