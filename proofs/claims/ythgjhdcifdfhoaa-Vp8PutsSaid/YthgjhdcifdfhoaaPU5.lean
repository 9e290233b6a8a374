/- Texts of this session, one behind the other, what the row does not use left out: walks and laws over plain data. -/
import Derived.Test.YthgjhdcifdfhoaaPU4
import Derived.Test.YthgjhdcifdfhoaaWEqStruct

namespace Go.Proofs.Ythgjhdcifdfhoaa.V5
open Go.RowKit Go.Proofs.Ythgjhdcifdfhoaa Go.Proofs.YthgjhdcifdfhoaaW.PrintWords
set_option linter.unusedVariables false
set_option linter.unusedSimpArgs false

theorem eqVDesc (d : Nat) (w : World) (a0 b0 a1 b1 : Bool) (a2 b2 : Int) (a3 b3 a4 b4 : Bool) (a5 b5 : Int) (a6 b6 : Bool) (a7 b7 : Int) (a8 b8 : Bool) (a9 b9 : Int) (a10 b10 a11 b11 : Bool) (a12 b12 : Int) :
    (Op.equalIn (d + 2) 31 (.agg #[.bool a0, .bool a1, .int .u8 a2, .bool a3, .bool a4, .int .u16 a5, .bool a6, .int .u8 a7, .bool a8, .int .u8 a9, .bool a10, .bool a11, .int .u8 a12]) (.agg #[.bool b0, .bool b1, .int .u8 b2, .bool b3, .bool b4, .int .u16 b5, .bool b6, .int .u8 b7, .bool b8, .int .u8 b9, .bool b10, .bool b11, .int .u8 b12])).run Try.prog w = .ok (a0 == b0 && (a1 == b1 && (a2 == b2 && (a3 == b3 && (a4 == b4 && (a5 == b5 && (a6 == b6 && (a7 == b7 && (a8 == b8 && (a9 == b9 && (a10 == b10 && (a11 == b11 && (a12 == b12))))))))))))) w := by
  refine eqA_of Try.underlying31 (by kernel_rfl) ?_
  iterate 12 refine eqf_cons (by rfl) (by go_simp; rfl) (by go_simp; rfl) (by go_simp) ?_
  exact eqf_last (by rfl) (by go_simp; rfl) (by go_simp; rfl) (by go_simp)
attribute [local go_sem high] eqVDesc
theorem vd_beq (a b : VD) : (a.n == b.n && (a.st == b.st && ((a.part : Int) == (b.part : Int) && (a.hp == b.hp && (a.lg == b.lg && ((a.pic : Int) == (b.pic : Int) && (a.ht == b.ht && ((a.tl : Int) == (b.tl : Int) && (a.hi == b.hi && ((a.ti : Int) == (b.ti : Int) && (a.sy == b.sy && (a.hk == b.hk && ((a.ky : Int) == (b.ky : Int)))))))))))))) = true ↔ a = b := by
  obtain ⟨n, st, part, hp, lg, pic, ht, tl, hi, ti, sy, hk, ky⟩ := a
  obtain ⟨n', st', part', hp', lg', pic', ht', tl', hi', ti', sy', hk', ky'⟩ := b
  simp only [Bool.and_eq_true, beq_iff_eq, VD.mk.injEq, Int.natCast_inj]
theorem dgs_ite {c : Prop} [Decidable c] {a b : List Nat} (ha : Dgs a) (hb : Dgs b) : Dgs (if c then a else b) := by split <;> assumption
theorem dgs_bt (x : Bool) {l : List Nat} (h : Dgs l) : Dgs (bt x :: l) := dgs_cons (bt_lt x) h
theorem dgs_app {a b : List Nat} (ha : Dgs a) (hb : Dgs b) : Dgs (a ++ b) := fun x hx => (List.mem_append.1 hx).elim (ha x) (hb x)
theorem digV_dgs (d : VD) : Dgs (digV d) :=
  dgs_app (dgs_app (dgs_bt _ (dgs_cons (by decide) (dgs_bt _ (dgs_bt _ (dgs_cons (by decide) Dgs.nil))))) (ofn_dgs _ _))
    (dgs_ite (dgs_app (dgs_app (dgs_app (dgs_app (dgs_bt _ (dgs_bt _ (dgs_bt _ (dgs_bt _ Dgs.nil)))) (ofn_dgs _ _)) (dgs_ite (dgs_app (dgs_bt _ Dgs.nil) (ofn_dgs _ _)) Dgs.nil)) (dgs_ite (ofn_dgs _ _) Dgs.nil)) (dgs_ite (dgs_app (dgs_app (ofn_dgs _ _) (dgs_bt _ Dgs.nil)) (ofn_dgs _ _)) Dgs.nil)) Dgs.nil)
theorem put_bts (d : VD) : Bts (putV d) := pack_bytes (digV_dgs d)
theorem put_short (d : VD) : (putV d).length ≤ 6 := by rw [putV_eq, put_len]; repeat (first | split | omega)
theorem pD_put (d : VD) : pD (putV d) = d.trunc := by unfold pD; rw [putV_eq, ref_put]
theorem pE_put (d : VD) : pE (putV d) = 0 := by unfold pE; rw [putV_eq, ref_put]
set_option maxHeartbeats 2000000 in
set_option maxRecDepth 100000 in
theorem vRight_any (w : World) (d : VD) (hok : d.Ok) :
    Calls Try.prog 24 #[.agg (dv d)] w fun e w' => e = .returned (.bool (rightV d)) ∧ Kp (fun _ => True) w w' := by
  have HD := hd (pD_put d)
  have HE := hd (pE_put d)
  have HR : Hd (rightV d = true ↔ d.trunc = d) := hd (right_iff d hok)
  obtain ⟨n, st, part, hp, lg, pic, ht, tl, hi, ti, sy, hk, ky⟩ := d
  unfold dv
  go_enter Try.func24, Try.ntmps24
  go_wp2_with fail
  refine (vput_any _ ⟨n, st, part, hp, lg, pic, ht, tl, hi, ti, sy, hk, ky⟩ hok).mono ?_
  rintro e w1 ⟨v1, rfl, hO, hK1⟩
  have hB1 := (Blk.new w 31 (dv ⟨n, st, part, hp, lg, pic, ht, tl, hi, ti, sy, hk, ky⟩)).kp hK1 trivial
  have hK : Kp (fun _ => True) w w1 := ((Kp.refl _ _).alloc _).trans hK1
  clear hK1
  go_wp2_with fail
  refine (vParse_any (Sl.of_own hO) (put_bts _) (by have := put_short ⟨n, st, part, hp, lg, pic, ht, tl, hi, ti, sy, hk, ky⟩; omega)).mono ?_
  rintro e w2 ⟨v2, rfl, hO2, hK2⟩
  have hB2 := hB1.kp hK2 trivial
  have hK3 := hK.trans hK2
  clear hB1 hK hK2
  have cB := hB2.cell
  unfold dv at cB
  have cB2 : ∀ o i, (w2.alloc o).cell? ⟨w.heap.size, i, none⟩ = _ := fun o i => (World.cell?_alloc_lt w2 o _ hB2.lt).trans (cB i)
  rw [HD.out, HE.out]
  have HR' := HR.out
  generalize VD.trunc _ = d2 at HR' ⊢
  have HR2 := hd HR'
  clear HR' HR HD HE
  obtain ⟨n', st', part', hp', lg', pic', ht', tl', hi', ti', sy', hk', ky'⟩ := d2
  unfold dv
  go_wp2
  go_ret
  refine ⟨ret_bool ?_, hK3.alloc _⟩
  rw [Bool.eq_iff_iff]
  exact (vd_beq ⟨n', st', part', hp', lg', pic', ht', tl', hi', ti', sy', hk', ky'⟩ ⟨n, st, part, hp, lg, pic, ht, tl, hi, ti, sy, hk, ky⟩).trans HR2.out.symm
end Go.Proofs.Ythgjhdcifdfhoaa.V5
