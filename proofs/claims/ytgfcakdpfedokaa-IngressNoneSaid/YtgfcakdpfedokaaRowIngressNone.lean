/- IngressNone: proved for every input that the row speaks of; no condition beside the row's own. The law's run over an abstract memory is in the texts that it imports. -/
import Derived.Test.YtgfcakdpfedokaaRows
import Derived.Test.YtgfcakdpfedokaaN12
import Derived.WalkKit
import Derived.ProofKit
import Derived.OpenShut
import Derived.ShutString
import Derived.ChangeOld
import Derived.Below
import Derived.Carry
import Derived.SizedLaws
namespace Go.Proofs.Ytgfcakdpfedokaa.ingressNone
open Go.ChangeShapes Go.WideShapes Go.ChangeAt Go.RowKit
open Go.ChangeMaps (open_string shut_string)
open Go.Proofs.Ytgfcakdpfedokaa.Rn
theorem own : ownKnob Try.prog.godebug = none := by kernel_rfl
theorem laidOut : laidOutB Try.prog = true := by kernel_rfl
theorem agg11 {cs : Array Value} (h : cs.size = 11) : ∃ x0 x1 x2 x3 x4 x5 x6 x7 x8 x9 x10, cs = #[x0, x1, x2, x3, x4, x5, x6, x7, x8, x9, x10] := by
  rcases cs with ⟨l⟩
  simp only [List.size_toArray] at h
  rcases l with _ | ⟨x0, l⟩
  · simp at h
  rcases l with _ | ⟨x1, l⟩
  · simp at h
  rcases l with _ | ⟨x2, l⟩
  · simp at h
  rcases l with _ | ⟨x3, l⟩
  · simp at h
  rcases l with _ | ⟨x4, l⟩
  · simp at h
  rcases l with _ | ⟨x5, l⟩
  · simp at h
  rcases l with _ | ⟨x6, l⟩
  · simp at h
  rcases l with _ | ⟨x7, l⟩
  · simp at h
  rcases l with _ | ⟨x8, l⟩
  · simp at h
  rcases l with _ | ⟨x9, l⟩
  · simp at h
  rcases l with _ | ⟨x10, l⟩
  · simp at h
  rcases l with _ | ⟨y, l⟩
  · exact ⟨x0, x1, x2, x3, x4, x5, x6, x7, x8, x9, x10, rfl⟩
  · simp at h
theorem leaves : Try.prog.cellTypes Try.prog.depth 27 = some [4, 5, 22, 23, 23, 24, 4, 22, 25, 25, 5] := by kernel_rfl
set_option maxHeartbeats 1000000 in
set_option maxRecDepth 100000 in
theorem lifted (os : Os) (started : os.Started) (H : Type) (enc : TypeId × Value → H) :
    ReturnsInHanded {} Try.checked os 3 .any (Rows.ingressNoneSpec.pre6 enc Try.prog Try.f3 Rows.ingressNoneRow.domain false) (Rows.ingressNoneSpec.post enc Try.prog Try.f3 false true false false) := by
  refine returnsInHanded_of_change_sized (C := Try.checked) own started (by kernel_rfl) Try.func3
    (ChangeSpec.witness6 (enc := enc) (C := Try.checked) false ⟨#[], #[.agg #[.bool false, .int .u8 0, .int .u16 0, .int .u32 0, .int .u32 0, .slice none 0 0, .bool false, .int .u16 0, .slice none 0 0, .slice none 0 0, .int .u8 0], .int .u64 0], []⟩ 8 (by kernel_rfl) (by kernel_rfl) (by kernel_rfl) (by kernel_rfl)) ?_
  intro W base args ds gs before hval0 hW _hcnd _hsz0 _
  have hval : ∀ (j : Nat) t v, Try.f3.params[j]? = some t → args[j]? = some v → Value.okWide Try.prog W .any base t v := hval0
  have hW' := hW
  obtain ⟨p, q, hA0, hV, rfl, _hfz, _hnd⟩ := hW
  have hA : DataW.TrodAll enc Try.prog W 0 (fun _ => true) true Try.f3.params.toList args.toList ds p := hA0
  rw [Try.params3] at hA hval
  obtain ⟨v0, vs0, d0, ds0, p0, q0, hargs, rfl, rfl, h0, r0⟩ := trodAll_cons hA
  obtain ⟨v1, vs1, d1, ds1, p1, q1, rfl, rfl, rfl, h1, r1⟩ := trodAll_cons r0
  obtain ⟨rfl, rfl, rfl⟩ := trodAll_nil r1
  obtain rfl : args = #[v0, v1] := by cases args; simp_all
  obtain ⟨rfl, rfl⟩ := trodVars_none hV
  have lt0 : ∀ x ∈ p0, x.block < W.heap.size := by obtain ⟨m, hm⟩ := h0; exact DataW.trod_lt m _ _ _ hm
  have hv0 := (hval 0 27 v0 rfl rfl)
  simp only [Value.okWide, Try.underlying27] at hv0
  obtain ⟨cs0, rfl, hsz0, ts0, hts0, _, hcell0⟩ := hv0
  rw [leaves] at hts0
  injection hts0 with hts0
  subst hts0
  obtain ⟨x0, x1, x2, x3, x4, x5, x6, x7, x8, x9, x10, rfl⟩ := agg11 (hsz0.trans (by kernel_rfl))
  obtain ⟨u1, hu1, hc1⟩ := hcell0 1 x1 rfl
  obtain rfl : u1 = 5 := by injection hu1 with hu1; exact hu1.symm
  obtain ⟨n1, rfl⟩ := okWide_int Try.underlying5 (show Value.okWide Try.prog W .any base 5 x1 by simp only [Value.okWide, Try.underlying5]; exact hc1)
  obtain ⟨u2, hu2, hc2⟩ := hcell0 2 x2 rfl
  obtain rfl : u2 = 22 := by injection hu2 with hu2; exact hu2.symm
  obtain ⟨n2, rfl⟩ := okWide_int Try.underlying22 (show Value.okWide Try.prog W .any base 22 x2 by simp only [Value.okWide, Try.underlying22]; exact hc2)
  obtain ⟨u3, hu3, hc3⟩ := hcell0 3 x3 rfl
  obtain rfl : u3 = 23 := by injection hu3 with hu3; exact hu3.symm
  obtain ⟨n3, rfl⟩ := okWide_int Try.underlying23 (show Value.okWide Try.prog W .any base 23 x3 by simp only [Value.okWide, Try.underlying23]; exact hc3)
  obtain ⟨u4, hu4, hc4⟩ := hcell0 4 x4 rfl
  obtain rfl : u4 = 23 := by injection hu4 with hu4; exact hu4.symm
  obtain ⟨n4, rfl⟩ := okWide_int Try.underlying23 (show Value.okWide Try.prog W .any base 23 x4 by simp only [Value.okWide, Try.underlying23]; exact hc4)
  obtain ⟨u5, hu5, hc5⟩ := hcell0 5 x5 rfl
  obtain rfl : u5 = 24 := by injection hu5 with hu5; exact hu5.symm
  obtain ⟨a5, l5, c5, rfl⟩ := okWide_slice Try.underlying24 (show Value.okWide Try.prog W .any base 24 x5 by simp only [Value.okWide, Try.underlying24]; exact hc5)
  obtain ⟨u7, hu7, hc7⟩ := hcell0 7 x7 rfl
  obtain rfl : u7 = 22 := by injection hu7 with hu7; exact hu7.symm
  obtain ⟨n7, rfl⟩ := okWide_int Try.underlying22 (show Value.okWide Try.prog W .any base 22 x7 by simp only [Value.okWide, Try.underlying22]; exact hc7)
  obtain ⟨u8, hu8, hc8⟩ := hcell0 8 x8 rfl
  obtain rfl : u8 = 25 := by injection hu8 with hu8; exact hu8.symm
  obtain ⟨a8, l8, c8, rfl⟩ := okWide_slice Try.underlying25 (show Value.okWide Try.prog W .any base 25 x8 by simp only [Value.okWide, Try.underlying25]; exact hc8)
  obtain ⟨u9, hu9, hc9⟩ := hcell0 9 x9 rfl
  obtain rfl : u9 = 25 := by injection hu9 with hu9; exact hu9.symm
  obtain ⟨a9, l9, c9, rfl⟩ := okWide_slice Try.underlying25 (show Value.okWide Try.prog W .any base 25 x9 by simp only [Value.okWide, Try.underlying25]; exact hc9)
  obtain ⟨u10, hu10, hc10⟩ := hcell0 10 x10 rfl
  obtain rfl : u10 = 5 := by injection hu10 with hu10; exact hu10.symm
  obtain ⟨n10, rfl⟩ := okWide_int Try.underlying5 (show Value.okWide Try.prog W .any base 5 x10 by simp only [Value.okWide, Try.underlying5]; exact hc10)
  obtain ⟨a1, rfl, rfl, rfl, w1⟩ := open_int Try.underlying28 (hval 1 28 v1 rfl rfl) h1
  refine (none12_any (w := W)).mono fun e W' hp => ?_
  obtain ⟨he, bel⟩ := hp
  subst he
  exact ⟨_, rfl, _, _, _, [], _, [], hW', trodAll_mk1 (shut_bool Try.underlying4 _), (trodAll_cons_mk (Below.trod laidOut (by kernel_rfl) (of_decide_eq_true (by kernel_rfl)) h0 bel lt0) (trodAll_cons_mk (shut_int Try.underlying28 w1) trodAll_mk0)), rfl, bel.frame _, fun h => by cases h⟩
theorem over : Rows.ingressNoneRow.holds Try.pinned (OpenSpec.ofChange Rows.ingressNoneSpec) :=
  OpenClaim.holds_of_wide 3 Try.f3 rfl rfl rfl rfl rfl rfl rfl ⟨rfl, rfl, rfl, rfl, rfl⟩ rfl rfl rfl rfl rfl (by kernel_rfl) Try.func3 (by kernel_rfl)
    (of_decide_eq_true (by kernel_rfl)) (by unfold Func.isWrapper; first | (rw [if_pos (by decide +kernel)]; kernel_rfl) | (rw [if_neg (by decide +kernel)]; exact ⟨rfl, rfl⟩))
    (fun os started H enc _ => lifted os started H enc)
theorem proved : Rows.IngressNoneSaid := over
#print axioms proved
end Go.Proofs.Ytgfcakdpfedokaa.ingressNone
