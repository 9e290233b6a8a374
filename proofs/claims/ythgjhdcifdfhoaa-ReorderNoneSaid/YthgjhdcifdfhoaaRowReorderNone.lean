/- ReorderNone: proved for every input that the row speaks of; no condition beside the row's own. The law's run over an abstract memory is in the texts that it imports. -/
import Derived.Test.YthgjhdcifdfhoaaRows
import Derived.Test.YthgjhdcifdfhoaaN10B
import Derived.WalkKit
import Derived.ProofKit
import Derived.OpenShut
import Derived.ShutString
import Derived.ChangeOld
import Derived.Below
import Derived.Carry
import Derived.SizedLaws
namespace Go.Proofs.Ythgjhdcifdfhoaa.reorderNone
open Go.ChangeShapes Go.WideShapes Go.ChangeAt Go.RowKit
open Go.ChangeMaps (open_string shut_string)
open Go.Proofs.Ythgjhdcifdfhoaa.Rn
theorem own : ownKnob Try.prog.godebug = none := by kernel_rfl
theorem laidOut : laidOutB Try.prog = true := by kernel_rfl
theorem agg14 {cs : Array Value} (h : cs.size = 14) : ∃ x0 x1 x2 x3 x4 x5 x6 x7 x8 x9 x10 x11 x12 x13, cs = #[x0, x1, x2, x3, x4, x5, x6, x7, x8, x9, x10, x11, x12, x13] := by
  rcases cs with ⟨l⟩
  simp only [List.size_toArray] at h
  rcases l with _ | ⟨x0, l⟩
  · simp at h
  rcases l with _ | ⟨x1, l⟩
  · simp at h
  rcases l with _ | ⟨x2, l⟩
  · simp at h
  rcases l with _ | ⟨x3, l⟩
  · simp at h
  rcases l with _ | ⟨x4, l⟩
  · simp at h
  rcases l with _ | ⟨x5, l⟩
  · simp at h
  rcases l with _ | ⟨x6, l⟩
  · simp at h
  rcases l with _ | ⟨x7, l⟩
  · simp at h
  rcases l with _ | ⟨x8, l⟩
  · simp at h
  rcases l with _ | ⟨x9, l⟩
  · simp at h
  rcases l with _ | ⟨x10, l⟩
  · simp at h
  rcases l with _ | ⟨x11, l⟩
  · simp at h
  rcases l with _ | ⟨x12, l⟩
  · simp at h
  rcases l with _ | ⟨x13, l⟩
  · simp at h
  rcases l with _ | ⟨y, l⟩
  · exact ⟨x0, x1, x2, x3, x4, x5, x6, x7, x8, x9, x10, x11, x12, x13, rfl⟩
  · simp at h
theorem leaves : Try.prog.cellTypes Try.prog.depth 80 = some [3, 55, 55, 4, 5, 25, 75, 75, 76, 4, 25, 22, 22, 5] := by kernel_rfl
set_option maxHeartbeats 1000000 in
set_option maxRecDepth 100000 in
theorem lifted (os : Os) (started : os.Started) (H : Type) (enc : TypeId × Value → H) :
    ReturnsInHanded {} Try.checked os 9 .any (Rows.reorderNoneSpec.pre6 enc Try.prog Try.f9 Rows.reorderNoneRow.domain false) (Rows.reorderNoneSpec.post enc Try.prog Try.f9 false true false false) := by
  refine returnsInHanded_of_change_sized (C := Try.checked) own started (by kernel_rfl) Try.func9
    (ChangeSpec.witness6 (enc := enc) (C := Try.checked) false ⟨#[], #[.agg #[.int .i64 0, .int .u64 0, .int .u64 0, .bool false, .int .u8 0, .int .u16 0, .int .u32 0, .int .u32 0, .slice none 0 0, .bool false, .int .u16 0, .slice none 0 0, .slice none 0 0, .int .u8 0]], []⟩ 8 (by kernel_rfl) (by kernel_rfl) (by kernel_rfl) (by kernel_rfl)) ?_
  intro W base args ds gs before hval0 hW _hcnd _hsz0 _
  have hval : ∀ (j : Nat) t v, Try.f9.params[j]? = some t → args[j]? = some v → Value.okWide Try.prog W .any base t v := hval0
  have hW' := hW
  obtain ⟨p, q, hA0, hV, rfl, _hfz, _hnd⟩ := hW
  have hA : DataW.TrodAll enc Try.prog W 0 (fun _ => true) true Try.f9.params.toList args.toList ds p := hA0
  rw [Try.params9] at hA hval
  obtain ⟨v0, vs0, d0, ds0, p0, q0, hargs, rfl, rfl, h0, r0⟩ := trodAll_cons hA
  obtain ⟨rfl, rfl, rfl⟩ := trodAll_nil r0
  obtain rfl : args = #[v0] := by cases args; simp_all
  obtain ⟨rfl, rfl⟩ := trodVars_none hV
  have lt0 : ∀ x ∈ p0, x.block < W.heap.size := by obtain ⟨m, hm⟩ := h0; exact DataW.trod_lt m _ _ _ hm
  have hv0 := (hval 0 80 v0 rfl rfl)
  simp only [Value.okWide, Try.underlying80] at hv0
  obtain ⟨cs0, rfl, hsz0, ts0, hts0, _, hcell0⟩ := hv0
  rw [leaves] at hts0
  injection hts0 with hts0
  subst hts0
  obtain ⟨x0, x1, x2, x3, x4, x5, x6, x7, x8, x9, x10, x11, x12, x13, rfl⟩ := agg14 (hsz0.trans (by kernel_rfl))
  obtain ⟨u0, hu0, hc0⟩ := hcell0 0 x0 rfl
  obtain rfl : u0 = 3 := by injection hu0 with hu0; exact hu0.symm
  obtain ⟨n0, rfl⟩ := okWide_int Try.underlying3 (show Value.okWide Try.prog W .any base 3 x0 by simp only [Value.okWide, Try.underlying3]; exact hc0)
  obtain ⟨u1, hu1, hc1⟩ := hcell0 1 x1 rfl
  obtain rfl : u1 = 55 := by injection hu1 with hu1; exact hu1.symm
  obtain ⟨n1, rfl⟩ := okWide_int Try.underlying55 (show Value.okWide Try.prog W .any base 55 x1 by simp only [Value.okWide, Try.underlying55]; exact hc1)
  obtain ⟨u2, hu2, hc2⟩ := hcell0 2 x2 rfl
  obtain rfl : u2 = 55 := by injection hu2 with hu2; exact hu2.symm
  obtain ⟨n2, rfl⟩ := okWide_int Try.underlying55 (show Value.okWide Try.prog W .any base 55 x2 by simp only [Value.okWide, Try.underlying55]; exact hc2)
  obtain ⟨u4, hu4, hc4⟩ := hcell0 4 x4 rfl
  obtain rfl : u4 = 5 := by injection hu4 with hu4; exact hu4.symm
  obtain ⟨n4, rfl⟩ := okWide_int Try.underlying5 (show Value.okWide Try.prog W .any base 5 x4 by simp only [Value.okWide, Try.underlying5]; exact hc4)
  obtain ⟨u5, hu5, hc5⟩ := hcell0 5 x5 rfl
  obtain rfl : u5 = 25 := by injection hu5 with hu5; exact hu5.symm
  obtain ⟨n5, rfl⟩ := okWide_int Try.underlying25 (show Value.okWide Try.prog W .any base 25 x5 by simp only [Value.okWide, Try.underlying25]; exact hc5)
  obtain ⟨u6, hu6, hc6⟩ := hcell0 6 x6 rfl
  obtain rfl : u6 = 75 := by injection hu6 with hu6; exact hu6.symm
  obtain ⟨n6, rfl⟩ := okWide_int Try.underlying75 (show Value.okWide Try.prog W .any base 75 x6 by simp only [Value.okWide, Try.underlying75]; exact hc6)
  obtain ⟨u7, hu7, hc7⟩ := hcell0 7 x7 rfl
  obtain rfl : u7 = 75 := by injection hu7 with hu7; exact hu7.symm
  obtain ⟨n7, rfl⟩ := okWide_int Try.underlying75 (show Value.okWide Try.prog W .any base 75 x7 by simp only [Value.okWide, Try.underlying75]; exact hc7)
  obtain ⟨u8, hu8, hc8⟩ := hcell0 8 x8 rfl
  obtain rfl : u8 = 76 := by injection hu8 with hu8; exact hu8.symm
  obtain ⟨a8, l8, c8, rfl⟩ := okWide_slice Try.underlying76 (show Value.okWide Try.prog W .any base 76 x8 by simp only [Value.okWide, Try.underlying76]; exact hc8)
  obtain ⟨u10, hu10, hc10⟩ := hcell0 10 x10 rfl
  obtain rfl : u10 = 25 := by injection hu10 with hu10; exact hu10.symm
  obtain ⟨n10, rfl⟩ := okWide_int Try.underlying25 (show Value.okWide Try.prog W .any base 25 x10 by simp only [Value.okWide, Try.underlying25]; exact hc10)
  obtain ⟨u11, hu11, hc11⟩ := hcell0 11 x11 rfl
  obtain rfl : u11 = 22 := by injection hu11 with hu11; exact hu11.symm
  obtain ⟨a11, l11, c11, rfl⟩ := okWide_slice Try.underlying22 (show Value.okWide Try.prog W .any base 22 x11 by simp only [Value.okWide, Try.underlying22]; exact hc11)
  obtain ⟨u12, hu12, hc12⟩ := hcell0 12 x12 rfl
  obtain rfl : u12 = 22 := by injection hu12 with hu12; exact hu12.symm
  obtain ⟨a12, l12, c12, rfl⟩ := okWide_slice Try.underlying22 (show Value.okWide Try.prog W .any base 22 x12 by simp only [Value.okWide, Try.underlying22]; exact hc12)
  obtain ⟨u13, hu13, hc13⟩ := hcell0 13 x13 rfl
  obtain rfl : u13 = 5 := by injection hu13 with hu13; exact hu13.symm
  obtain ⟨n13, rfl⟩ := okWide_int Try.underlying5 (show Value.okWide Try.prog W .any base 5 x13 by simp only [Value.okWide, Try.underlying5]; exact hc13)
  refine (none10_any (w := W)).mono fun e W' hp => ?_
  obtain ⟨he, bel⟩ := hp
  subst he
  exact ⟨_, rfl, _, _, _, [], _, [], hW', trodAll_mk1 (shut_bool Try.underlying4 _), (trodAll_cons_mk (Below.trod laidOut (by kernel_rfl) (of_decide_eq_true (by kernel_rfl)) h0 bel lt0) trodAll_mk0), rfl, bel.frame _, fun h => by cases h⟩
theorem over : Rows.reorderNoneRow.holds Try.pinned (OpenSpec.ofChange Rows.reorderNoneSpec) :=
  OpenClaim.holds_of_wide 9 Try.f9 rfl rfl rfl rfl rfl rfl rfl ⟨rfl, rfl, rfl, rfl, rfl⟩ rfl rfl rfl rfl rfl (by kernel_rfl) Try.func9 (by kernel_rfl)
    (of_decide_eq_true (by kernel_rfl)) (by unfold Func.isWrapper; first | (rw [if_pos (by decide +kernel)]; kernel_rfl) | (rw [if_neg (by decide +kernel)]; exact ⟨rfl, rfl⟩))
    (fun os started H enc _ => lifted os started H enc)
theorem proved : Rows.ReorderNoneSaid := over
#print axioms proved
end Go.Proofs.Ythgjhdcifdfhoaa.reorderNone
