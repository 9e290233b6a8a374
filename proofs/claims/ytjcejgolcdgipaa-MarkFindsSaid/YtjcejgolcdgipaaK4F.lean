/- Several texts of this session, one behind the other. -/
import Derived.Test.YtjcejgolcdgipaaK4E

/- Chapter 04: mark.Of over the contracts of package ext and of Parse. -/
namespace Go.Proofs.Ytjcejgolcdgipaa.K4
open Go.RowKit Go.Proofs.YtjcejgolcdgipaaW.PrintWords Go.Proofs.YtjcejgolcdgipaaW.PrintLast Go.Proofs.YtjcejgolcdgipaaW.PrintMore
set_option linter.unusedVariables false
set_option linter.unusedSimpArgs false

theorem kp_of_below0 {w w' : World} (h : Below w.heap.size w w') : Kp (fun _ => True) w w' := Kp.of_below h (fun _ _ hl => hl)
theorem below_kp0 {w w1 w2 : World} {F : Nat → Prop} (h : Below w.heap.size w w1) (hk : Kp F w1 w2) (hF : ∀ k, k < w.heap.size → F k) : Below w.heap.size w w2 :=
  ((Kp.of_below (F := (· < w.heap.size)) h (fun _ h _ => h)).next hk (fun k hk _ => hF k hk)).to_below (Nat.le_refl _) (fun _ h => h)
def mark_Of.f (a0_0 : Bool) (a0_1 : Int) (a0_2 : Int) (a0_3 : Int) (a0_4 : Int) (l0_5 : List Int) (a0_6 : Bool) (a0_7 : Int) (l0_8 : List Int) (l0_9 : List Int) (a0_10 : Int) (a1 : Int) : Option (Bool × Bool × Bool × Bool × Bool × Bool × Int × Int × Int × Bool) :=
  if a0_6 = true then ((ext_Parse.f a0_7 l0_8).bind fun x => (if x.2 = 0 then ((ext_Find.f a1 x.1).bind fun y => (if y.2 = true then ((mark_Parse.f y.1).bind fun z => (some (z.1, z.2.1, z.2.2.1, z.2.2.2.1, z.2.2.2.2.1, z.2.2.2.2.2.1, z.2.2.2.2.2.2.1, z.2.2.2.2.2.2.2.1, z.2.2.2.2.2.2.2.2.1, (z.2.2.2.2.2.2.2.2.2 == 0)))) else (some (false, false, false, false, false, false, 0, 0, 0, false)))) else (some (false, false, false, false, false, false, 0, 0, 0, false)))) else (some (false, false, false, false, false, false, 0, 0, 0, false))
set_option maxHeartbeats 2000000 in
set_option maxRecDepth 100000 in
theorem mark_Of.calls (a0_0 : Bool) (a0_1 : Int) (a0_2 : Int) (a0_3 : Int) (a0_4 : Int) (A0_5 : Option Addr) (c0_5 : Nat) (l0_5 : List Int) (a0_6 : Bool) (a0_7 : Int) (A0_8 : Option Addr) (c0_8 : Nat) (l0_8 : List Int) (A0_9 : Option Addr) (c0_9 : Nat) (l0_9 : List Int) (a0_10 : Int) (a1 : Int) (r1 : Bool) (r2 : Bool) (r3 : Bool) (r4 : Bool) (r5 : Bool) (r6 : Bool) (r7 : Int) (r8 : Int) (r9 : Int) (r10 : Bool) (w : World) (hr0_8 : Kd.C (Kd.int .u8) w A0_8 l0_8.length l0_8) (hc0_8 : l0_8.length ≤ c0_8) (h : mark_Of.f a0_0 a0_1 a0_2 a0_3 a0_4 l0_5 a0_6 a0_7 l0_8 l0_9 a0_10 a1 = some (r1, r2, r3, r4, r5, r6, r7, r8, r9, r10)) :
    Calls Try.prog 57 #[.agg #[.bool a0_0, .int .u8 a0_1, .int .u16 a0_2, .int .u32 a0_3, .int .u32 a0_4, .slice A0_5 l0_5.length c0_5, .bool a0_6, .int .u16 a0_7, .slice A0_8 l0_8.length c0_8, .slice A0_9 l0_9.length c0_9, .int .u8 a0_10], .int .u8 a1] w fun e w' => e = .returned (.tuple #[.agg #[.bool r1, .bool r2, .bool r3, .bool r4, .bool r5, .bool r6, .int .u8 r7, .int .u8 r8, .int .u8 r9], .bool r10]) ∧ Below w.heap.size w w' := by
  obtain ⟨w0, hw0⟩ : ∃ w0, w0 = (w.alloc (.cells #[.bool a0_0, .int .u8 a0_1, .int .u16 a0_2, .int .u32 a0_3, .int .u32 a0_4, .slice A0_5 l0_5.length c0_5, .bool a0_6, .int .u16 a0_7, .slice A0_8 l0_8.length c0_8, .slice A0_9 l0_9.length c0_9, .int .u8 a0_10] 98)).alloc (.cells #[.bool false, .bool false, .bool false, .bool false, .bool false, .bool false, .int .u8 0, .int .u8 0, .int .u8 0] 84) := ⟨_, rfl⟩
  have hB0 : Below w.heap.size w w0 := hw0 ▸ ((Below.refl _ _).alloc (Nat.le_refl _) _).alloc (by simp) _
  have hZ0 : Blk w0 (w.heap.size + 1) 84 #[.bool false, .bool false, .bool false, .bool false, .bool false, .bool false, .int .u8 0, .int .u8 0, .int .u8 0] := by
    rw [hw0]
    have := Blk.new (w.alloc (.cells #[.bool a0_0, .int .u8 a0_1, .int .u16 a0_2, .int .u32 a0_3, .int .u32 a0_4, .slice A0_5 l0_5.length c0_5, .bool a0_6, .int .u16 a0_7, .slice A0_8 l0_8.length c0_8, .slice A0_9 l0_9.length c0_9, .int .u8 a0_10] 98)) 84 #[.bool false, .bool false, .bool false, .bool false, .bool false, .bool false, .int .u8 0, .int .u8 0, .int .u8 0]
    simp only [World.size_alloc] at this
    exact this
  have hQ0 : Blk w0 w.heap.size 98 #[.bool a0_0, .int .u8 a0_1, .int .u16 a0_2, .int .u32 a0_3, .int .u32 a0_4, .slice A0_5 l0_5.length c0_5, .bool a0_6, .int .u16 a0_7, .slice A0_8 l0_8.length c0_8, .slice A0_9 l0_9.length c0_9, .int .u8 a0_10] := hw0 ▸ (Blk.new w _ _).alloc _
  have HC := hd (Kd.C_below hr0_8 hB0)
  have HW0 := hd hw0
  have HH := hd h
  have HB0 := hd hB0
  clear hr0_8 hw0 h hB0
  unfold mark_Of.f at HH
  cases a0_6
  · have h1 := HH.out
    rw [if_neg (by decide)] at h1
    simp only [Option.some.injEq, Prod.mk.injEq] at h1
    obtain ⟨rfl, rfl, rfl, rfl, rfl, rfl, rfl, rfl, rfl, rfl⟩ := h1
    clear HH
    have cQ := hQ0.cell
    have cZ := hZ0.cell
    have fZ := hZ0.frozen
    go_enter Try.func57, Try.ntmps57
    go_upto_region 1 with (fail)
    rw [← HW0.out]
    go_wp2
    exact bodyPost_ret (results_ct rfl _ _ (w.heap.size + 1) 84 _ (0, 0) _ rfl (st9_blk hZ0 _ _ _ _ _ _ _ _ _) Try.underlying84 rfl (by kernel_rfl)) rfl ⟨rfl, below_kp0 HB0.out (st9_kp _ _ _ _ _ _ _ _ _ _ _) (fun k hk => by omega)⟩
  · have h1 := HH.out
    rw [if_pos rfl] at h1
    obtain ⟨⟨x1, x2⟩, hx, h2⟩ := Option.bind_eq_some_iff.1 h1
    have HX := hd hx
    have H2 := hd h2
    clear HH h1 hx h2
    have cQ := hQ0.cell
    go_enter Try.func57, Try.ntmps57
    go_upto_region 1 with (fail)
    rw [← HW0.out]
    clear HW0
    go_wp2_with fail
    refine (ext_Parse.calls a0_7 _ _ l0_8 x1 x2 _ HC.out hc0_8 HX.out).mono ?_
    rintro e w1 ⟨vx, rfl, hS, hB1⟩
    obtain ⟨Ax, cx, rfl, lx, hCx⟩ := Kd.R_reads (Kd.S_R hS)
    have HB1 := hd (HB0.out.trans (hB1.mono HB0.out.size))
    have hZ := hZ0.kp (kp_of_below0 hB1) trivial
    clear hS hB1 cQ hZ0 hQ0
    by_cases hx2 : x2 = 0
    · have h3 := H2.out
      rw [if_pos hx2] at h3
      subst hx2
      obtain ⟨⟨y1, y2⟩, hy, h4⟩ := Option.bind_eq_some_iff.1 h3
      have HY := hd hy
      have H4 := hd h4
      clear H2 h3 hy h4
      go_wp2_with fail
      refine (ext_Find.calls a1 _ _ x1 y1 y2 _ hCx lx HY.out).mono ?_
      rintro e w2 ⟨vy, rfl, hR, hB2⟩
      obtain ⟨Ay, cy, rfl, ly, hCy⟩ := Kd.R_reads hR
      replace HB1 := hd (HB1.out.trans (hB2.mono HB1.out.size))
      replace hZ := hZ.kp (kp_of_below0 hB2) trivial
      clear hR hB2 hCx
      cases y2
      · have h3 := H4.out
        rw [if_neg (by decide)] at h3
        simp only [Option.some.injEq, Prod.mk.injEq] at h3
        obtain ⟨rfl, rfl, rfl, rfl, rfl, rfl, rfl, rfl, rfl, rfl⟩ := h3
        clear H4
        have cZ := hZ.cell
        have fZ := hZ.frozen
        go_wp2
        exact bodyPost_ret (results_ct rfl _ _ (w.heap.size + 1) 84 _ (0, 0) _ rfl (st9_blk hZ _ _ _ _ _ _ _ _ _) Try.underlying84 rfl (by kernel_rfl)) rfl ⟨rfl, below_kp0 HB1.out (st9_kp _ _ _ _ _ _ _ _ _ _ _) (fun k hk => by omega)⟩
      · have h3 := H4.out
        rw [if_pos rfl] at h3
        obtain ⟨⟨z1, z2, z3, z4, z5, z6, z7, z8, z9, z10⟩, hz, h5⟩ := Option.bind_eq_some_iff.1 h3
        simp only [Option.some.injEq, Prod.mk.injEq] at h5
        obtain ⟨rfl, rfl, rfl, rfl, rfl, rfl, rfl, rfl, rfl, hz10⟩ := h5
        have HZ := hd hz
        have HZ10 := hd hz10
        clear H4 h3 hz hz10
        go_wp2_with fail
        refine (mark_Parse.calls _ _ y1 z1 z2 z3 z4 z5 z6 z7 z8 z9 z10 _ hCy ly HZ.out).mono ?_
        rintro e w3 ⟨rfl, hB3⟩
        replace HB1 := hd (HB1.out.trans (hB3.mono HB1.out.size))
        replace hZ := hZ.kp (kp_of_below0 hB3) trivial
        clear hB3 hCy
        go_upto_region 10 with (fail)
        obtain ⟨w4, hw4⟩ : ∃ w4, w4 = w3.alloc (.cells #[.bool z1, .bool z2, .bool z3, .bool z4, .bool z5, .bool z6, .int .u8 z7, .int .u8 z8, .int .u8 z9] 84) := ⟨_, rfl⟩
        have hM : Blk w4 w3.heap.size 84 #[.bool z1, .bool z2, .bool z3, .bool z4, .bool z5, .bool z6, .int .u8 z7, .int .u8 z8, .int .u8 z9] := hw4 ▸ Blk.new w3 _ _
        replace hZ : Blk w4 _ _ _ := hw4 ▸ hZ.alloc _
        replace HB1 : Hd (Below w.heap.size w w4) := hd (hw4 ▸ HB1.out.alloc HB1.out.size _)
        rw [← hw4]
        clear hw4
        have cM := hM.cell
        have cZ := hZ.cell
        have fZ := hZ.frozen
        go_wp2
        rw [HZ10.out]
        exact bodyPost_ret (results_ct rfl _ _ (w.heap.size + 1) 84 _ (0, 0) _ rfl (st9_blk hZ _ _ _ _ _ _ _ _ _) Try.underlying84 rfl (by kernel_rfl)) rfl ⟨rfl, below_kp0 HB1.out (st9_kp _ _ _ _ _ _ _ _ _ _ _) (fun k hk => by omega)⟩
    · have h3 := H2.out
      rw [if_neg hx2] at h3
      simp only [Option.some.injEq, Prod.mk.injEq] at h3
      obtain ⟨rfl, rfl, rfl, rfl, rfl, rfl, rfl, rfl, rfl, rfl⟩ := h3
      clear H2
      have g0 : ((x2 : Int) != 0) = true := by rw [bne_iff_ne]; exact hx2
      have cZ := hZ.cell
      have fZ := hZ.frozen
      go_wp2
      exact bodyPost_ret (results_ct rfl _ _ (w.heap.size + 1) 84 _ (0, 0) _ rfl (st9_blk hZ _ _ _ _ _ _ _ _ _) Try.underlying84 rfl (by kernel_rfl)) rfl ⟨rfl, below_kp0 HB1.out (st9_kp _ _ _ _ _ _ _ _ _ _ _) (fun k hk => by omega)⟩
end Go.Proofs.Ytjcejgolcdgipaa.K4

/- Chapter 04: mark.With over the printed contracts. -/
namespace Go.Proofs.Ytjcejgolcdgipaa.K4
open Go.RowKit Go.Proofs.YtjcejgolcdgipaaW.PrintWords Go.Proofs.YtjcejgolcdgipaaW.PrintLast Go.Proofs.YtjcejgolcdgipaaW.PrintMore
set_option linter.unusedVariables false
set_option linter.unusedSimpArgs false

theorem kp_of_below {w w' : World} (h : Below w.heap.size w w') : Kp (fun _ => True) w w' := Kp.of_below h (fun _ _ hl => hl)
/-- One element written out: a row of one. -/
theorem C_one (w : World) (id : Int) {l : List Int} {A : Option Addr} {c : Nat} (hc : l.length ≤ c) (hC : Kd.C (Kd.int .u8) w A l.length l) (t : TypeId) :
    Kd.C k160 (w.alloc (.cells #[.int .u8 id, .slice A l.length c] t)) (some ⟨w.heap.size, 0, none⟩) [(⟨id, l⟩ : S160)].length [(⟨id, l⟩ : S160)] := by
  refine ⟨rfl, by simp, fun _ => ⟨_, rfl, fun j p hj => ?_⟩⟩
  have hj0 : j = 0 := by
    have := (List.getElem?_eq_some_iff.1 hj).1
    simp at this
    exact this
  subst hj0
  have hp : p = ⟨id, l⟩ := by simpa using hj.symm
  subst hp
  have hb : Below w.heap.size w (w.alloc (.cells #[.int .u8 id, .slice A l.length c] t)) := (Below.refl _ _).alloc (Nat.le_refl _) _
  refine ⟨[.int .u8 id, .slice A l.length c], rfl, k160_mk _ ⟨id, l⟩ hc (Kd.C_below hC hb), fun i u hu => ?_⟩
  rw [Addr.add_lit, cell_of_row _ _ _ _ _ _ (heap_alloc_new w _)]
  have hz : 0 * k160.sz = 0 := Nat.zero_mul _
  rw [hz]
  simpa using hu

theorem C_alloc {α : Type} {d : Kd α} {w : World} {A : Option Addr} {n : Nat} {xs : List α} (o : Obj) (h : d.C w A n xs) : d.C (w.alloc o) A n xs := Kd.C_below h ((Below.refl _ _).alloc (Nat.le_refl _) _)
/-- Eleven stores into one block. -/
def st11 (w : World) (g : Nat) (a0 a1 a2 a3 a4 a5 a6 a7 a8 a9 a10 : Value) : World :=
  ((((((((((w.setCell ⟨g, 0, none⟩ a0).setCell ⟨g, 1, none⟩ a1).setCell ⟨g, 2, none⟩ a2).setCell ⟨g, 3, none⟩ a3).setCell ⟨g, 4, none⟩ a4).setCell ⟨g, 5, none⟩ a5).setCell ⟨g, 6, none⟩ a6).setCell ⟨g, 7, none⟩ a7).setCell ⟨g, 8, none⟩ a8).setCell ⟨g, 9, none⟩ a9).setCell ⟨g, 10, none⟩ a10
theorem st11_kp (w : World) (g : Nat) (a0 a1 a2 a3 a4 a5 a6 a7 a8 a9 a10 : Value) : Kp (· ≠ g) w (st11 w g a0 a1 a2 a3 a4 a5 a6 a7 a8 a9 a10) := by
  unfold st11
  exact ((((((((((((Kp.refl (· ≠ g) w).set_).set_).set_).set_).set_).set_).set_).set_).set_).set_).set_)
theorem st11_blk {w : World} {g : Nat} {t : TypeId} {b0 b1 b2 b3 b4 b5 b6 b7 b8 b9 b10 : Value} (h : Blk w g t #[b0, b1, b2, b3, b4, b5, b6, b7, b8, b9, b10]) (a0 a1 a2 a3 a4 a5 a6 a7 a8 a9 a10 : Value) : Blk (st11 w g a0 a1 a2 a3 a4 a5 a6 a7 a8 a9 a10) g t #[a0, a1, a2, a3, a4, a5, a6, a7, a8, a9, a10] := by
  have h9 := ((((((((((h.set 0 a0).set 1 a1).set 2 a2).set 3 a3).set 4 a4).set 5 a5).set 6 a6).set 7 a7).set 8 a8).set 9 a9).set 10 a10
  simp only [List.setIfInBounds_toArray, List.set_cons_zero, List.set_cons_succ] at h9
  exact h9
theorem R_kp {α : Type} {d : Kd α} {e : Nat} {w w1 : World} {base base' : Nat} {ok ok' : Nat → Prop} {v : Value} {xs : List α} {F : Nat → Prop} (h : d.R e w base ok v xs) (hb : base' ≤ base) (hk : Kp F w w1) (hF : ∀ k, ok k → base ≤ k → F k) (hok : ∀ k, ok k → ok' k) : d.R e w1 base' ok' v xs :=
  Kd.R_lower (Kd.R_mono (Kd.R_move (Kd.R_bound h) (fun k hk' => hk.block k (hF k hk'.1 hk'.2.1) hk'.2.2.1)) (fun k hk => hok k hk.1)) hb
theorem R_lt {α : Type} {d : Kd α} {e : Nat} {w : World} {base : Nat} {ok : Nat → Prop} {v : Value} {xs : List α} (h : d.R e w base ok v xs) : d.R e w base (fun k => ok k ∧ k < w.heap.size) v xs := Kd.R_mono (Kd.R_bound h) (fun _ hk => ⟨hk.1, hk.2.2.1⟩)
theorem C_of_R {α : Type} {d : Kd α} {e : Nat} {w : World} {base : Nat} {ok : Nat → Prop} {A : Option Addr} {n c : Nat} {xs : List α} (h : d.R e w base ok (.slice A n c) xs) : d.C w A xs.length xs := by
  obtain ⟨A', c', he, _, hC⟩ := Kd.R_reads h
  injection he with h1 _ _
  rw [h1]
  exact hC
theorem below_kp {w w1 w2 : World} {F : Nat → Prop} (h : Below w.heap.size w w1) (hk : Kp F w1 w2) (hF : ∀ k, k < w.heap.size → F k) : Below w.heap.size w w2 :=
  ((Kp.of_below (F := (· < w.heap.size)) h (fun _ h _ => h)).next hk (fun k hk _ => hF k hk)).to_below (Nat.le_refl _) (fun _ h => h)
def mark_With.f (a0_0 : Bool) (a0_1 : Int) (a0_2 : Int) (a0_3 : Int) (a0_4 : Int) (l0_5 : List Int) (a0_6 : Bool) (a0_7 : Int) (l0_8 : List Int) (l0_9 : List Int) (a0_10 : Int) (a1 : Int) (a2_0 : Bool) (a2_1 : Bool) (a2_2 : Bool) (a2_3 : Bool) (a2_4 : Bool) (a2_5 : Bool) (a2_6 : Int) (a2_7 : Int) (a2_8 : Int) : Option (Bool × Int × Int × Int × Int × List Int × Bool × Int × List Int × List Int × Int × Int) :=
  (M0.mark_owned.f a0_0 a0_1 a0_2 a0_3 a0_4 l0_5 a0_6 a0_7 l0_8 l0_9 a0_10).bind fun q =>
  (mark_Put.f a2_0 a2_1 a2_2 a2_3 a2_4 a2_5 a2_6 a2_7 a2_8).bind fun b =>
  if b.2 = 0 then (ext_Form.f [⟨a1, b.1⟩]).bind fun p =>
    if p.2 = true then (ext_Put.f p.1 [⟨a1, b.1⟩]).bind fun x => some (q.1, q.2.1, q.2.2.1, q.2.2.2.1, q.2.2.2.2.1, q.2.2.2.2.2.1, true, p.1, x.1, q.2.2.2.2.2.2.2.2.2.1, q.2.2.2.2.2.2.2.2.2.2, x.2)
    else some (q.1, q.2.1, q.2.2.1, q.2.2.2.1, q.2.2.2.2.1, q.2.2.2.2.2.1, q.2.2.2.2.2.2.1, q.2.2.2.2.2.2.2.1, q.2.2.2.2.2.2.2.2.1, q.2.2.2.2.2.2.2.2.2.1, q.2.2.2.2.2.2.2.2.2.2, 40)
  else some (q.1, q.2.1, q.2.2.1, q.2.2.2.1, q.2.2.2.2.1, q.2.2.2.2.2.1, q.2.2.2.2.2.2.1, q.2.2.2.2.2.2.2.1, q.2.2.2.2.2.2.2.2.1, q.2.2.2.2.2.2.2.2.2.1, q.2.2.2.2.2.2.2.2.2.2, b.2)
set_option maxHeartbeats 2000000 in
set_option maxRecDepth 100000 in
theorem mark_With.calls (a0_0 : Bool) (a0_1 : Int) (a0_2 : Int) (a0_3 : Int) (a0_4 : Int) (A0_5 : Option Addr) (c0_5 : Nat) (l0_5 : List Int) (a0_6 : Bool) (a0_7 : Int) (A0_8 : Option Addr) (c0_8 : Nat) (l0_8 : List Int) (A0_9 : Option Addr) (c0_9 : Nat) (l0_9 : List Int) (a0_10 : Int) (a1 : Int) (a2_0 : Bool) (a2_1 : Bool) (a2_2 : Bool) (a2_3 : Bool) (a2_4 : Bool) (a2_5 : Bool) (a2_6 : Int) (a2_7 : Int) (a2_8 : Int) (r1 : Bool) (r2 : Int) (r3 : Int) (r4 : Int) (r5 : Int) (r6 : List Int) (r7 : Bool) (r8 : Int) (r9 : List Int) (r10 : List Int) (r11 : Int) (r12 : Int) (w : World) (hr0_5 : Kd.C (Kd.int .u32) w A0_5 l0_5.length l0_5) (hc0_5 : l0_5.length ≤ c0_5) (hr0_8 : Kd.C (Kd.int .u8) w A0_8 l0_8.length l0_8) (hc0_8 : l0_8.length ≤ c0_8) (hr0_9 : Kd.C (Kd.int .u8) w A0_9 l0_9.length l0_9) (hc0_9 : l0_9.length ≤ c0_9) (h : mark_With.f a0_0 a0_1 a0_2 a0_3 a0_4 l0_5 a0_6 a0_7 l0_8 l0_9 a0_10 a1 a2_0 a2_1 a2_2 a2_3 a2_4 a2_5 a2_6 a2_7 a2_8 = some (r1, r2, r3, r4, r5, r6, r7, r8, r9, r10, r11, r12)) :
    Calls Try.prog 59 #[.agg #[.bool a0_0, .int .u8 a0_1, .int .u16 a0_2, .int .u32 a0_3, .int .u32 a0_4, .slice A0_5 l0_5.length c0_5, .bool a0_6, .int .u16 a0_7, .slice A0_8 l0_8.length c0_8, .slice A0_9 l0_9.length c0_9, .int .u8 a0_10], .int .u8 a1, .agg #[.bool a2_0, .bool a2_1, .bool a2_2, .bool a2_3, .bool a2_4, .bool a2_5, .int .u8 a2_6, .int .u8 a2_7, .int .u8 a2_8]] w fun e w' => ∃ v5_ v8_ v9_ : Value, e = .returned (.tuple #[.agg #[.bool r1, .int .u8 r2, .int .u16 r3, .int .u32 r4, .int .u32 r5, v5_, .bool r7, .int .u16 r8, v8_, v9_, .int .u8 r11], .int .i64 r12]) ∧ Kd.R (Kd.int .u32) 28 w' w.heap.size (fun _ => True) v5_ r6 ∧ Kd.R (Kd.int .u8) 5 w' w.heap.size (fun k_ => some k_ ≠ (v9_ : Value).ownBlock) v8_ r9 ∧ Kd.R (Kd.int .u8) 5 w' w.heap.size (fun k_ => some k_ ≠ (v8_ : Value).ownBlock) v9_ r10 ∧ Below w.heap.size w w' := by
  have HR5 := hd hr0_5
  have HR8 := hd hr0_8
  have HR9 := hd hr0_9
  have H := hd h
  clear h hr0_5 hr0_8 hr0_9
  unfold mark_With.f at H
  obtain ⟨q, hq, h1⟩ := Option.bind_eq_some_iff.1 H.out
  obtain ⟨b, hb, h2⟩ := Option.bind_eq_some_iff.1 h1
  clear H h1
  obtain ⟨q1, q2, q3, q4, q5, q6, q7, q8, q9, q10, q11⟩ := q
  obtain ⟨b1, b2⟩ := b
  have HQ := hd hq
  have HB := hd hb
  have H2 := hd h2
  clear hq hb h2
  go_enter Try.func59, Try.ntmps59
  go_wp2_with fail
  obtain ⟨w0, hw0⟩ : ∃ w0, w0 = (((w.alloc (.cells #[.bool a0_0, .int .u8 a0_1, .int .u16 a0_2, .int .u32 a0_3, .int .u32 a0_4, .slice A0_5 l0_5.length c0_5, .bool a0_6, .int .u16 a0_7, .slice A0_8 l0_8.length c0_8, .slice A0_9 l0_9.length c0_9, .int .u8 a0_10] 98)).alloc (.cells #[.bool a2_0, .bool a2_1, .bool a2_2, .bool a2_3, .bool a2_4, .bool a2_5, .int .u8 a2_6, .int .u8 a2_7, .int .u8 a2_8] 84)).alloc (.cells #[.bool false, .int .u8 0, .int .u16 0, .int .u32 0, .int .u32 0, .slice none 0 0, .bool false, .int .u16 0, .slice none 0 0, .slice none 0 0, .int .u8 0] 98)) := ⟨_, rfl⟩
  have hB0 : Below w.heap.size w w0 := hw0 ▸ (((Below.refl _ _).alloc (Nat.le_refl _) _).alloc (by simp) _).alloc (by simp; omega) _
  have hM0 : Blk w0 (w.heap.size + 1) 84 #[.bool a2_0, .bool a2_1, .bool a2_2, .bool a2_3, .bool a2_4, .bool a2_5, .int .u8 a2_6, .int .u8 a2_7, .int .u8 a2_8] := by
    rw [hw0]
    have := (Blk.new (w.alloc (.cells #[.bool a0_0, .int .u8 a0_1, .int .u16 a0_2, .int .u32 a0_3, .int .u32 a0_4, .slice A0_5 l0_5.length c0_5, .bool a0_6, .int .u16 a0_7, .slice A0_8 l0_8.length c0_8, .slice A0_9 l0_9.length c0_9, .int .u8 a0_10] 98)) 84 #[.bool a2_0, .bool a2_1, .bool a2_2, .bool a2_3, .bool a2_4, .bool a2_5, .int .u8 a2_6, .int .u8 a2_7, .int .u8 a2_8])
    simp only [World.size_alloc] at this
    exact this.alloc _
  have hZ0 : Blk w0 (w.heap.size + 1 + 1) 98 #[.bool false, .int .u8 0, .int .u16 0, .int .u32 0, .int .u32 0, .slice none 0 0, .bool false, .int .u16 0, .slice none 0 0, .slice none 0 0, .int .u8 0] := by
    rw [hw0]
    have := (Blk.new ((w.alloc (.cells #[.bool a0_0, .int .u8 a0_1, .int .u16 a0_2, .int .u32 a0_3, .int .u32 a0_4, .slice A0_5 l0_5.length c0_5, .bool a0_6, .int .u16 a0_7, .slice A0_8 l0_8.length c0_8, .slice A0_9 l0_9.length c0_9, .int .u8 a0_10] 98)).alloc (.cells #[.bool a2_0, .bool a2_1, .bool a2_2, .bool a2_3, .bool a2_4, .bool a2_5, .int .u8 a2_6, .int .u8 a2_7, .int .u8 a2_8] 84)) 98 #[.bool false, .int .u8 0, .int .u16 0, .int .u32 0, .int .u32 0, .slice none 0 0, .bool false, .int .u16 0, .slice none 0 0, .slice none 0 0, .int .u8 0])
    simp only [World.size_alloc] at this
    exact this
  have hs0 : w0.heap.size = w.heap.size + 1 + 1 + 1 := by rw [hw0]; simp
  rw [← hw0]
  clear hw0
  refine (M0.mark_owned.calls a0_0 a0_1 a0_2 a0_3 a0_4 _ _ l0_5 a0_6 a0_7 _ _ l0_8 _ _ l0_9 a0_10 q1 q2 q3 q4 q5 q6 q7 q8 q9 q10 q11 _ (Kd.C_below HR5.out hB0) hc0_5 (Kd.C_below HR8.out hB0) hc0_8 (Kd.C_below HR9.out hB0) hc0_9 HQ.out).mono ?_
  rintro e w1 ⟨v5, v8, v9, rfl, hR5, hR8, hR9, hB1⟩
  have hK1 := kp_of_below hB1
  have hB01 : Below w.heap.size w w1 := hB0.trans (hB1.mono (by omega))
  obtain ⟨A5, c5, rfl⟩ := Kd.R_slice hR5
  obtain ⟨A8, c8, rfl⟩ := Kd.R_slice hR8
  obtain ⟨A9, c9, rfl⟩ := Kd.R_slice hR9
  have hM1 := hM0.kp hK1 trivial
  have hZ1 := hZ0.kp hK1 trivial
  have cM1 : ∀ o i, (w1.alloc o).cell? ⟨w.heap.size + 1, i, none⟩ = _ := fun o i => (hM1.alloc o).cell i
  have hR5' := hd (R_lt hR5)
  have hR8' := hd (R_lt hR8)
  have hR9' := hd (R_lt hR9)
  clear hR5 hR8 hR9 hM0 hZ0
  go_wp2_with fail
  have hB1' : Below w1.heap.size w1 (w1.alloc (.cells #[.bool q1, .int .u8 q2, .int .u16 q3, .int .u32 q4, .int .u32 q5, .slice A5 q6.length c5, .bool q7, .int .u16 q8, .slice A8 q9.length c8, .slice A9 q10.length c9, .int .u8 q11] 98)) := (Below.refl _ _).alloc (Nat.le_refl _) _
  have hR5 := Kd.R_below hR5'.out hB1'
  have hR8 := Kd.R_below hR8'.out hB1'
  have hR9 := Kd.R_below hR9'.out hB1'
  have hZ2 := hZ1.alloc (.cells #[.bool q1, .int .u8 q2, .int .u16 q3, .int .u32 q4, .int .u32 q5, .slice A5 q6.length c5, .bool q7, .int .u16 q8, .slice A8 q9.length c8, .slice A9 q10.length c9, .int .u8 q11] 98)
  have hQ2 := Blk.new w1 98 #[.bool q1, .int .u8 q2, .int .u16 q3, .int .u32 q4, .int .u32 q5, .slice A5 q6.length c5, .bool q7, .int .u16 q8, .slice A8 q9.length c8, .slice A9 q10.length c9, .int .u8 q11]
  have hB2 := hB01.trans (hB1'.mono hB01.size)
  have hzq : w.heap.size + 1 + 1 < w1.heap.size := hZ1.lt
  clear hR5' hR8' hR9' cM1 hB1' hB01
  refine (mark_Put.calls a2_0 a2_1 a2_2 a2_3 a2_4 a2_5 a2_6 a2_7 a2_8 b1 b2 _ HB.out).mono ?_
  rintro e w2 ⟨vb, rfl, hRb, hBb⟩
  obtain ⟨Ab, cb, rfl, hlb, hCb⟩ := Kd.R_reads hRb
  have hKb := kp_of_below hBb
  replace hR5 := Kd.R_below hR5 hBb
  replace hR8 := Kd.R_below hR8 hBb
  replace hR9 := Kd.R_below hR9 hBb
  replace hZ2 := hZ2.kp hKb trivial
  replace hQ2 := hQ2.kp hKb trivial
  replace hB2 := hB2.trans (hBb.mono hB2.size)
  have HRb := hd hRb
  clear hRb hBb hKb
  by_cases hb2 : b2 = 0
  · have H3 := H2.out
    rw [if_pos hb2] at H3
    obtain ⟨p, hp, h4⟩ := Option.bind_eq_some_iff.1 H3
    obtain ⟨p1, p2⟩ := p
    subst hb2
    clear H3 H2
    have HP := hd hp
    have H4 := hd h4
    clear hp h4
    have HS := hd (And.intro hR5 (And.intro hR8 hR9))
    clear hR5 hR8 hR9
    go_wp2_with fail
    obtain ⟨w3, hw3⟩ : ∃ w3, w3 = (w2.alloc (.cells #[.int .u8 a1, .slice Ab b1.length cb] 160)).alloc (.cells #[.int .u8 a1, .slice Ab b1.length cb] 160) := ⟨_, rfl⟩
    have hC3 : Kd.C k160 w3 (some ⟨w2.heap.size + 1, 0, none⟩) [(⟨a1, b1⟩ : S160)].length [(⟨a1, b1⟩ : S160)] := by
      have := C_one (w2.alloc (.cells #[.int .u8 a1, .slice Ab b1.length cb] 160)) a1 hlb (C_alloc _ hCb) 160
      simp only [World.size_alloc] at this
      rw [hw3]
      exact this
    have hB3 : Below w2.heap.size w2 w3 := hw3 ▸ ((Below.refl _ _).alloc (Nat.le_refl _) _).alloc (by simp) _
    have hE3 : Blk w3 w2.heap.size 160 #[.int .u8 a1, .slice Ab b1.length cb] := hw3 ▸ (Blk.new w2 160 _).alloc _
    have hK3 := kp_of_below hB3
    have hqe : w1.heap.size < w2.heap.size := hQ2.lt
    replace hZ2 := hZ2.kp hK3 trivial
    replace hQ2 := hQ2.kp hK3 trivial
    rw [← hw3]
    clear hw3
    refine (ext_Form.calls _ _ [⟨a1, b1⟩] p1 p2 _ hC3 (Nat.le_refl _) HP.out).mono ?_
    rintro e w4 ⟨rfl, hB4⟩
    have hK4 := kp_of_below hB4
    replace hZ2 := hZ2.kp hK4 trivial
    replace hQ2 := hQ2.kp hK4 trivial
    replace hE3 := hE3.kp hK4 trivial
    have hB24 : Below w2.heap.size w2 w4 := hB3.trans (hB4.mono hB3.size)
    replace hB2 := hB2.trans (hB24.mono hB2.size)
    have hRb4 := Kd.R_below HRb.out hB24
    replace HS := hd (And.intro (Kd.R_below HS.out.1 hB24) (And.intro (Kd.R_below HS.out.2.1 hB24) (Kd.R_below HS.out.2.2 hB24)))
    clear hB3 hB4 hK3 hK4 hC3 hCb
    cases p2
    · have H5 := H4.out
      simp only [Bool.false_eq_true, if_false, Option.some.injEq, Prod.mk.injEq] at H5
      obtain ⟨rfl, rfl, rfl, rfl, rfl, rfl, rfl, rfl, rfl, rfl, rfl, rfl⟩ := H5
      clear H4
      have fZ := hZ2.frozen
      have cZ := hZ2.cell
      have cQ := hQ2.cell
      go_wp2
      exact bodyPost_ret (results_ct rfl _ _ (w.heap.size + 1 + 1) 98 _ (0, 0) _ rfl (st11_blk hZ2 _ _ _ _ _ _ _ _ _ _ _) Try.underlying98 rfl (by kernel_rfl)) rfl
        ⟨_, _, _, rfl, R_kp HS.out.1 (by omega) (st11_kp _ _ _ _ _ _ _ _ _ _ _ _ _) (fun k _ hk => by omega) (fun _ h => h.1), R_kp HS.out.2.1 (by omega) (st11_kp _ _ _ _ _ _ _ _ _ _ _ _ _) (fun k _ hk => by omega) (fun _ h => h.1), R_kp HS.out.2.2 (by omega) (st11_kp _ _ _ _ _ _ _ _ _ _ _ _ _) (fun k _ hk => by omega) (fun _ h => h.1), below_kp hB2 (st11_kp _ _ _ _ _ _ _ _ _ _ _ _ _) (fun k hk => by omega)⟩
    · obtain ⟨x, hx, h6⟩ := Option.bind_eq_some_iff.1 (by simpa using H4.out)
      obtain ⟨x1, x2⟩ := x
      have HX := hd hx
      have H5 := hd h6
      clear H4 hx h6
      have fQ0 := hQ2.frozen
      have cQ0 := hQ2.cell
      have hQ5 := (hQ2.set 6 (.bool true)).set 7 (.int .u16 p1)
      simp only [List.setIfInBounds_toArray, List.set_cons_zero, List.set_cons_succ] at hQ5
      have HKs := hd hQ5
      clear hQ5
      go_upto_region 10 with (fail)
      obtain ⟨w5, hw5⟩ : ∃ w5, w5 = (w4.setCell ⟨w1.heap.size, 6, none⟩ (.bool true)).setCell ⟨w1.heap.size, 7, none⟩ (.int .u16 p1) := ⟨_, rfl⟩
      have hKs : Kp (· ≠ w1.heap.size) w4 w5 := hw5 ▸ (Kp.refl _ _).set_.set_
      have hE5 := hE3.kp hKs (Nat.ne_of_gt hqe)
      have hQ5 : Blk w5 w1.heap.size 98 #[.bool q1, .int .u8 q2, .int .u16 q3, .int .u32 q4, .int .u32 q5, .slice A5 q6.length c5, .bool true, .int .u16 p1, .slice A8 q9.length c8, .slice A9 q10.length c9, .int .u8 q11] := hw5 ▸ HKs.out
      clear fQ0 cQ0
      have cE := hE5.cell
      have cQ := hQ5.cell
      have fQ := hQ5.frozen
      rw [← hw5]
      clear hw5
      replace hZ2 := hZ2.kp hKs (by omega)
      have hs5 : w1.heap.size < w4.heap.size := hQ2.lt
      have hC5 : Kd.C (Kd.int .u8) w5 Ab b1.length b1 := C_of_R (R_kp (ok' := fun _ => True) hRb4 (Nat.le_refl _) hKs (fun k _ hk => by simp at hk; omega) (fun _ _ => trivial))
      have hb1 : w1.heap.size ≠ w.heap.size + 1 + 1 := by omega
      replace HS := hd (And.intro (R_kp HS.out.1 (Nat.le_refl _) hKs (fun k h _ => Nat.ne_of_lt h.2) (fun _ h => h)) (And.intro (R_kp HS.out.2.1 (Nat.le_refl _) hKs (fun k h _ => Nat.ne_of_lt h.2) (fun _ h => h)) (R_kp HS.out.2.2 (Nat.le_refl _) hKs (fun k h _ => Nat.ne_of_lt h.2) (fun _ h => h))))
      go_wp2_with fail
      refine (ext_Put.calls p1 _ _ [⟨a1, b1⟩] x1 x2 _ (C_one w5 a1 hlb hC5 160) (Nat.le_refl _) HX.out).mono ?_
      rintro e w6 ⟨vx, rfl, hRx, hB6⟩
      obtain ⟨Ax, cx, rfl⟩ := Kd.R_slice hRx
      have hKa := (Kp.refl (fun _ => True) w5).alloc (.cells #[.int .u8 a1, .slice Ab b1.length cb] 160)
      have hK6 := hKa.trans (kp_of_below hB6)
      have hQ6 := hQ5.kp hK6 trivial
      have hZ6 := hZ2.kp hK6 trivial
      have hRx' := R_lt hRx
      have hs6 : w5.heap.size < w6.heap.size := by have := hB6.size; simp at this; omega
      have hs45 : w4.heap.size ≤ w5.heap.size := hKs.size
      have HK6 := hd hK6
      clear cE cQ fQ hKa hK6 hRx hB6
      have cQ := hQ6.cell
      have fQ := hQ6.frozen
      go_upto_region 11 with (fail)
      obtain ⟨w7, hw7⟩ : ∃ w7, w7 = w6.setCell ⟨w1.heap.size, 8, none⟩ (.slice Ax x1.length cx) := ⟨_, rfl⟩
      have hK7 : Kp (· ≠ w1.heap.size) w6 w7 := hw7 ▸ (Kp.refl _ _).set_
      have hQ7 : Blk w7 w1.heap.size 98 #[.bool q1, .int .u8 q2, .int .u16 q3, .int .u32 q4, .int .u32 q5, .slice A5 q6.length c5, .bool true, .int .u16 p1, .slice Ax x1.length cx, .slice A9 q10.length c9, .int .u8 q11] := by
        have := hQ6.set 8 (.slice Ax x1.length cx)
        simp only [List.setIfInBounds_toArray, List.set_cons_zero, List.set_cons_succ] at this
        rw [hw7]
        exact this
      have hZ7 := hZ6.kp hK7 hb1.symm
      rw [← hw7]
      clear hw7 cQ fQ
      have fZ := hZ7.frozen
      have cZ := hZ7.cell
      have cQ := hQ7.cell
      have H6 := H5.out
      simp only [Option.some.injEq, Prod.mk.injEq] at H6
      obtain ⟨rfl, rfl, rfl, rfl, rfl, rfl, rfl, rfl, rfl, rfl, rfl, rfl⟩ := H6
      clear H5
      have hKF : Kp (· ≠ w1.heap.size) w5 w7 := (HK6.out.mono (fun _ _ _ => trivial)).trans hK7
      go_wp2
      have hx8 : Kd.R (Kd.int .u8) 5 w7 w0.heap.size (fun k_ => some k_ ≠ (Value.slice A9 q10.length c9).ownBlock ∧ w1.heap.size < k_) (.slice Ax x1.length cx) x1 := by
        obtain ⟨inner, ho⟩ := Kd.R_own HS.out.2.2
        refine Kd.R_mono (Kd.R_bound (R_kp (ok' := fun k => k < w6.heap.size) hRx' (base' := w5.heap.size) (by simp) hK7 (fun k _ hk => by simp at hk; omega) (fun k hk => hk.2))) (fun k hk => ⟨fun e => ?_, by have := hk.2.1; omega⟩) |> fun h => Kd.R_lower h (by omega)
        have := own_lt ho k e.symm
        have := hk.2.1
        omega
      have hx9 : Kd.R (Kd.int .u8) 5 w7 w0.heap.size (fun k_ => some k_ ≠ (Value.slice Ax x1.length cx).ownBlock ∧ k_ < w1.heap.size) (.slice A9 q10.length c9) q10 := by
        obtain ⟨inner, ho⟩ := Kd.R_own hRx'
        refine R_kp HS.out.2.2 (Nat.le_refl _) hKF (fun k h _ => Nat.ne_of_lt h.2) (fun k h => ⟨fun e => ?_, h.2⟩)
        have := own_base ho k e.symm
        have := h.2
        simp at *
        omega
      have hx5 := R_kp (ok' := fun k => k < w1.heap.size) HS.out.1 (Nat.le_refl _) hKF (fun k h _ => Nat.ne_of_lt h.2) (fun _ h => h.2)
      have hB7 : Below w.heap.size w w7 := below_kp (below_kp hB2 hKs (fun k hk => by omega)) hKF (fun k hk => by omega)
      exact bodyPost_ret (results_ct rfl _ _ (w.heap.size + 1 + 1) 98 _ (0, 0) _ rfl (st11_blk hZ7 _ _ _ _ _ _ _ _ _ _ _) Try.underlying98 rfl (by kernel_rfl)) rfl
        ⟨_, _, _, rfl, R_kp hx5 (by omega) (st11_kp _ _ _ _ _ _ _ _ _ _ _ _ _) (fun k _ hk => by omega) (fun _ _ => trivial), R_kp hx8 (by omega) (st11_kp _ _ _ _ _ _ _ _ _ _ _ _ _) (fun k _ hk => by omega) (fun _ h => h.1), R_kp hx9 (by omega) (st11_kp _ _ _ _ _ _ _ _ _ _ _ _ _) (fun k _ hk => by omega) (fun _ h => h.1), below_kp hB7 (st11_kp _ _ _ _ _ _ _ _ _ _ _ _ _) (fun k hk => by omega)⟩
  · have H3 := H2.out
    rw [if_neg hb2] at H3
    simp only [Option.some.injEq, Prod.mk.injEq] at H3
    obtain ⟨rfl, rfl, rfl, rfl, rfl, rfl, rfl, rfl, rfl, rfl, rfl, rfl⟩ := H3
    clear H2
    have HS := hd (And.intro hR5 (And.intro hR8 hR9))
    clear hR5 hR8 hR9
    have g0 : ((b2 : Int) != 0) = true := by rw [bne_iff_ne]; exact hb2
    have fZ := hZ2.frozen
    have cZ := hZ2.cell
    have cQ := hQ2.cell
    go_wp2
    exact bodyPost_ret (results_ct rfl _ _ (w.heap.size + 1 + 1) 98 _ (0, 0) _ rfl (st11_blk hZ2 _ _ _ _ _ _ _ _ _ _ _) Try.underlying98 rfl (by kernel_rfl)) rfl
      ⟨_, _, _, rfl, R_kp HS.out.1 (by omega) (st11_kp _ _ _ _ _ _ _ _ _ _ _ _ _) (fun k _ hk => by omega) (fun _ h => h.1), R_kp HS.out.2.1 (by omega) (st11_kp _ _ _ _ _ _ _ _ _ _ _ _ _) (fun k _ hk => by omega) (fun _ h => h.1), R_kp HS.out.2.2 (by omega) (st11_kp _ _ _ _ _ _ _ _ _ _ _ _ _) (fun k _ hk => by omega) (fun _ h => h.1), below_kp hB2 (st11_kp _ _ _ _ _ _ _ _ _ _ _ _ _) (fun k hk => by omega)⟩
end Go.Proofs.Ytjcejgolcdgipaa.K4

/- Chapter 04: the examples of the chapter (works). -/
namespace Go.Proofs.Ytjcejgolcdgipaa.K4
open Go.RowKit Go.Proofs.YtjcejgolcdgipaaW.PrintWords Go.Proofs.YtjcejgolcdgipaaW.PrintLast Go.Proofs.YtjcejgolcdgipaaW.PrintMore
set_option linter.unusedVariables false
set_option linter.unusedSimpArgs false

theorem C_none {α : Type} (d : Kd α) (w : World) (A : Option Addr) : d.C w A ([] : List α).length [] := ⟨rfl, by simp, fun h => absurd h (by simp)⟩
theorem C_lit1 (w : World) (b : Int) (t : TypeId) : Kd.C (Kd.int .u8) (w.alloc (.cells #[.int .u8 b] t)) (some ⟨w.heap.size, 0, none⟩) [b].length [b] := by
  refine ⟨rfl, by simp, fun _ => ⟨_, rfl, fun j p hj => ⟨[.int .u8 p], rfl, rfl, fun i u hu => ?_⟩⟩⟩
  have hj0 : j = 0 := by
    have := (List.getElem?_eq_some_iff.1 hj).1
    simp at this
    exact this
  subst hj0
  have hp : p = b := by simpa using hj.symm
  subst hp
  rw [Addr.add_lit, cell_of_row _ _ _ _ _ _ (heap_alloc_new w _), Nat.zero_mul, Nat.zero_add]
  simpa using hu
theorem C_lit2 (w : World) (b c : Int) (t : TypeId) : Kd.C (Kd.int .u8) (w.alloc (.cells #[.int .u8 b, .int .u8 c] t)) (some ⟨w.heap.size, 0, none⟩) [b, c].length [b, c] := by
  refine ⟨rfl, by simp, fun _ => ⟨_, rfl, fun j p hj => ⟨[.int .u8 p], rfl, rfl, fun i u hu => ?_⟩⟩⟩
  have hi : i = 0 := by
    have := (List.getElem?_eq_some_iff.1 hu).1
    simp at this
    exact this
  subst hi
  have hu' : Value.int .u8 p = u := by simpa using hu
  rw [Addr.add_lit, cell_of_row _ _ _ _ _ _ (heap_alloc_new w _), ← hu']
  have hj2 := (List.getElem?_eq_some_iff.1 hj).1
  rcases (by simp at hj2; omega : j = 0 ∨ j = 1) with rfl | rfl
  · have hp : p = b := by simpa using hj.symm
    subst hp
    rfl
  · have hp : p = c := by simpa using hj.symm
    subst hp
    rfl
theorem ex_a : mark_Put.f true false false true false false 0 0 0 = some ([144], 0) := by kernel_rfl
theorem ex_b : mark_Put.f false true true false true true 2 1 7 = some ([106, 1, 7], 0) := by kernel_rfl
theorem ex_c : mark_Parse.f [129] = some (false, false, false, false, false, false, 0, 0, 0, 40) := by kernel_rfl
theorem ex_d : mark_Parse.f [0, 0] = some (false, false, false, false, false, false, 0, 0, 0, 40) := by kernel_rfl
theorem ex_e : mark_With.f false 0 0 0 0 [] false 0 [] [] 0 1 false true false false false false 0 0 0 = some (false, 0, 0, 0, 0, [], true, 48862, [16, 64, 0, 0], [], 0, 0) := by kernel_rfl
theorem ex_f : mark_Of.f false 0 0 0 0 [] true 48862 [16, 64, 0, 0] [] 0 1 = some (false, true, false, false, false, false, 0, 0, 0, true) := by kernel_rfl
set_option maxHeartbeats 2000000 in
set_option maxRecDepth 100000 in
theorem works04_any (w : World) : Calls Try.prog 52 #[] w fun e w' => e = .returned (.bool true) ∧ Below w.heap.size w w' := by
  go_enter Try.func52, Try.ntmps52
  go_wp2_with fail
  refine (mark_Put.calls _ _ _ _ _ _ _ _ _ _ _ _ ex_a).mono ?_
  rintro e w1 ⟨va, rfl, hRa, hB1⟩
  obtain ⟨Aa, ca, rfl, _, hCa⟩ := Kd.R_reads hRa
  clear hRa
  go_wp2_with fail
  refine (mark_Put.calls _ _ _ _ _ _ _ _ _ _ _ _ ex_b).mono ?_
  rintro e w2 ⟨vb, rfl, hRb, hB2⟩
  obtain ⟨Ab, cb, rfl, _, hCb⟩ := Kd.R_reads hRb
  replace hCa := Kd.C_below hCa hB2
  replace hB1 := hB1.trans (hB2.mono hB1.size)
  clear hRb hB2
  go_wp2_with fail
  refine (mark_Parse.calls _ _ [129] _ _ _ _ _ _ _ _ _ _ _ (C_lit1 _ _ _) (Nat.le_refl _) ex_c).mono ?_
  rintro e w3 ⟨rfl, hB3⟩
  have hB23 : Below w2.heap.size w2 w3 := ((Below.refl _ _).alloc (Nat.le_refl _) _).trans (hB3.mono (by simp))
  replace hCa := Kd.C_below hCa hB23
  replace hCb := Kd.C_below hCb hB23
  replace hB1 := hB1.trans (hB23.mono hB1.size)
  clear hB3 hB23
  go_wp2_with fail
  have hL := C_lit2 (w3.alloc (.cells #[.bool false, .bool false, .bool false, .bool false, .bool false, .bool false, .int .u8 0, .int .u8 0, .int .u8 0] 84)) 0 0 5
  simp only [World.size_alloc] at hL
  refine (mark_Parse.calls _ _ [0, 0] _ _ _ _ _ _ _ _ _ _ _ hL (Nat.le_refl _) ex_d).mono ?_
  rintro e w4 ⟨rfl, hB4⟩
  have hB34 : Below w3.heap.size w3 w4 := (((Below.refl _ _).alloc (Nat.le_refl _) _).alloc (by simp) _).trans (hB4.mono (by simp; omega))
  replace hCa := Kd.C_below hCa hB34
  replace hCb := Kd.C_below hCb hB34
  replace hB1 := hB1.trans (hB34.mono hB1.size)
  clear hB4 hB34 hL
  go_wp2_with fail
  refine (mark_With.calls _ _ _ _ _ _ _ [] _ _ _ _ [] _ _ [] _ _ _ _ _ _ _ _ _ _ _ _ _ _ _ _ _ _ _ _ _ _ _ _ (C_none _ _ _) (Nat.le_refl _) (C_none _ _ _) (Nat.le_refl _) (C_none _ _ _) (Nat.le_refl _) ex_e).mono ?_
  rintro e w5 ⟨v5, v8, v9, rfl, hR5, hR8, hR9, hB5⟩
  have hB45 : Below w4.heap.size w4 w5 := ((Below.refl _ _).alloc (Nat.le_refl _) _).trans (hB5.mono (by simp))
  replace hCa := Kd.C_below hCa hB45
  replace hCb := Kd.C_below hCb hB45
  replace hB1 := hB1.trans (hB45.mono hB1.size)
  obtain ⟨A5, c5, rfl, l5, hC5⟩ := Kd.R_reads hR5
  obtain ⟨A8, c8, rfl, l8, hC8⟩ := Kd.R_reads hR8
  obtain ⟨A9, c9, rfl, l9, hC9⟩ := Kd.R_reads hR9
  clear hB5 hB45 hR5 hR8 hR9
  go_wp2_with fail
  refine (mark_Of.calls _ _ _ _ _ _ _ [] _ _ _ _ [16, 64, 0, 0] _ _ [] _ _ _ _ _ _ _ _ _ _ _ _ _ (C_alloc _ hC8) l8 ex_f).mono ?_
  rintro e w6 ⟨rfl, hB6⟩
  have hB56 : Below w5.heap.size w5 w6 := ((Below.refl _ _).alloc (Nat.le_refl _) _).trans (hB6.mono (by simp))
  replace hCa := Kd.C_below hCa hB56
  replace hCb := Kd.C_below hCb hB56
  replace hB1 := hB1.trans (hB56.mono hB1.size)
  clear hB6 hB56
  obtain ⟨w7, hw7⟩ : ∃ w7, w7 = w6.alloc (.cells #[.bool false, .bool true, .bool false, .bool false, .bool false, .bool false, .int .u8 0, .int .u8 0, .int .u8 0] 84) := ⟨_, rfl⟩
  have hM7 : Blk w7 w6.heap.size 84 #[.bool false, .bool true, .bool false, .bool false, .bool false, .bool false, .int .u8 0, .int .u8 0, .int .u8 0] := hw7 ▸ Blk.new w6 _ _
  replace hCa : Kd.C (Kd.int .u8) w7 Aa _ _ := hw7 ▸ C_alloc _ hCa
  replace hCb : Kd.C (Kd.int .u8) w7 Ab _ _ := hw7 ▸ C_alloc _ hCb
  replace hB1 : Below w.heap.size w w7 := hw7 ▸ hB1.alloc hB1.size _
  have ea : strOfNums [144] = ByteArray.mk #[144] := by kernel_rfl
  have eb : strOfNums [106, 1, 7] = ByteArray.mk #[106, 1, 7] := by kernel_rfl
  have sa : (convert 38 9 (.slice Aa 1 ca)).run Try.prog w7 = .ok (.string (strOfNums [144])) w7 := Kd.C_string (P := Try.prog) (c := ca) Try.underlying38 Try.underlying5 Try.underlying9 hCa
  have sb : (convert 38 9 (.slice Ab 3 cb)).run Try.prog w7 = .ok (.string (strOfNums [106, 1, 7])) w7 := Kd.C_string (P := Try.prog) (c := cb) Try.underlying38 Try.underlying5 Try.underlying9 hCb
  rw [ea] at sa
  rw [eb] at sb
  clear ea eb hCa hCb hC5 hC8 hC9
  go_upto_region 7 with (fail)
  rw [← hw7]
  clear hw7
  have cM := hM7.cell
  go_wp2
  go_ret
  exact ⟨rfl, hB1⟩
theorem works04_any' : True := trivial
def l4_works.f : Option Bool := some true
theorem l4_works.calls (r : Bool) (w : World) (h : l4_works.f = some r) :
    Calls Try.prog 52 #[] w fun e w' => e = .returned (.bool r) ∧ Below w.heap.size w w' := by
  injection h with h
  subst h
  exact works04_any w
end Go.Proofs.Ytjcejgolcdgipaa.K4
