/- slices.Insert of one element into a row of elements of 13 cells, ahead of its end: with room, and without. -/
import Derived.Test.YtgfcakdpfedokaaRun6
import Derived.Shelf.Spec.SlicesInsert
import Derived.Shelf.Spec.SlicesInsertGrow
import Derived.Laws.CopyRow
namespace Go.Proofs.Ytgfcakdpfedokaa
open Go.Shelf Go.RowKit Go.Lib
set_option linter.unusedVariables false
set_option linter.unusedSimpArgs false
theorem run_copyN {P : Program} {tD tX ty e : TypeId} {sz : Nat} (hu : P.underlying tD = some (.slice e)) (hs : (P.info? e).map (·.size) = some sz) (w : World) (b o dLen dCap : Nat) (cur : Array Value) (eT : TypeId)
    (hw : w.heap[b]? = some (.cells cur eT (0, 0))) (a : Addr) (sLen sCap : Nat) (news : List Value) (hn : news.length = Nat.min sLen dLen * sz)
    (hsrc : ∀ j v, news[j]? = some v → w.cell? (a.add j) = some v) (hfit : o + news.length ≤ cur.size) (h1 : ∀ v ∈ news, v.oneCell' = true) :
    (Builtin.copy_ #[tD, tX] ty #[.slice (some ⟨b, o, none⟩) dLen dCap, .slice (some a) sLen sCap]).run P w =
      .ok (goInt (Nat.min sLen dLen)) (w.setRow b (cur.toList.take o ++ news ++ cur.toList.drop (o + news.length)).toArray) := by
  have hl := run_loadCells_list (P := P) w a news hsrc
  have hst := run_storeCells_at P b o eT news 0 cur w hw (by simpa using hfit) h1
  cases hq : P.info? e with
  | none => simp [hq] at hs
  | some i =>
    have hi : i.size = sz := by simpa [hq] using hs
    rw [hn] at hl
    simp only [Nat.add_zero] at hst
    simp [Builtin.copy_, run_underlying hu, Builtin.lenOf, Builtin.firstCells, sizeOf, typeInfo, hq, hi, hl, hst]
theorem cell_of_block {w : World} {b : Nat} {cur : Array Value} {eT : TypeId} (hw : w.heap[b]? = some (.cells cur eT (0, 0))) {j : Nat} {v : Value} (h : cur[j]? = some v) : w.cell? ⟨b, j, none⟩ = some v := by
  simp [World.cell?, hw, h]

theorem Try.info_wait : (Try.prog.info? 108).map (fun i => (i.size, i.bytes)) = some (13, 120) := by kernel_rfl
theorem Try.size_wait : (Try.prog.info? 108).map (·.size) = some 13 := by kernel_rfl
theorem over_wait {w : World} {b vb o q n c m vc : Nat} {cur vcur : Array Value} {eT eV : TypeId} (hb : w.heap[b]? = some (.cells cur eT (0, 0))) (hvb : w.heap[vb]? = some (.cells vcur eV (0, 0))) (hne : vb ≠ b) (hc : cur.size ≠ 0) :
    (callFunc 47 #[.slice (some ⟨vb, q, none⟩) m vc, .slice (some ⟨b, o, none⟩) n c]).run Try.prog w = .ok (.value (.bool false)) w := by
  rw [run_callFunc_extern Try.func47 (by kernel_rfl) (by kernel_rfl) (by kernel_rfl) (e := Extern.SlicesOverlaps.overlaps #[102, 102] #[4]) (by kernel_rfl),
    Lib.run_overlaps_apart w 102 4 108 Try.underlying102 13 (fun w => by have := Try.size_wait; cases hq : Try.prog.info? 108 with
      | none => rw [hq] at this; cases this
      | some i => rw [hq] at this; simp at this; simp [sizeOf, typeInfo, hq, this]) ⟨vb, q, none⟩ ⟨b, o, none⟩ m vc n c hne eV eT vcur.size cur.size (by simp [World.shape?, hvb]) (by simp [World.shape?, hb]) hc (by simp [World.frozen?, hvb]) (by simp [World.frozen?, hvb])]
  rfl

set_option maxHeartbeats 4000000 in
set_option maxRecDepth 100000 in
/-- there is room -/
theorem ins_shift (b p n c i vb q vc : Nat) (cur vcur : Array Value) (eT eV : TypeId) (A ys : List Value) (w : World)
    (hb : w.heap[b]? = some (.cells cur eT (0, 0))) (hvb : w.heap[vb]? = some (.cells vcur eV (0, 0))) (hne : vb ≠ b) (hi : i < n) (hroom : n + 1 ≤ c) (hn63 : n + 1 ≤ 1073741824)
    (hfit : p + (n + 1) * 13 ≤ cur.size) (hA : A.length = (n - i) * 13) (hAs : ∀ j v, A[j]? = some v → cur[p + i * 13 + j]? = some v) (hyl : ys.length = 13) (hys : ∀ j v, ys[j]? = some v → vcur[q + j]? = some v)
    (h1A : ∀ v ∈ A, v.oneCell' = true) (h1y : ∀ v ∈ ys, v.oneCell' = true) (R1 R2 : Array Value) (hR1 : R1 = (cur.toList.take (p + (i + 1) * 13) ++ A ++ cur.toList.drop (p + (i + 1) * 13 + A.length)).toArray)
    (hR2 : R2 = (R1.toList.take (p + i * 13) ++ ys ++ R1.toList.drop (p + i * 13 + ys.length)).toArray) :
    Calls Try.prog 35 #[.slice (some ⟨b, p, none⟩) n c, .int .i64 i, .slice (some ⟨vb, q, none⟩) 1 vc] w fun e w' =>
      e = .returned (.slice (some ⟨b, p, none⟩) (n + 1) c) ∧ w' = (w.drew.setRow b R1).setRow b R2 := by
  have hz2 : ¬ ((i : Int) = (n : Int)) := by omega
  have hz3 : ¬ ((c : Int) < (n : Int) + 1) := by omega
  have hov : ∀ o n' c', (callFunc 47 #[.slice (some ⟨vb, q, none⟩) 1 vc, .slice (some ⟨b, o, none⟩) n' c']).run Try.prog w = .ok (.value (.bool false)) w := fun o n' c' => over_wait hb hvb hne (by omega)
  have hw1 : IntKind.i64.wrap ((i : Int) + 1) = (i : Int) + 1 := by rw [IntKind.wrap_i64]; omega
  have hw2 : IntKind.i64.wrap ((n : Int) + 1) = (n : Int) + 1 := by rw [IntKind.wrap_i64]; omega
  have hb1 : (0 : Int) ≤ (i : Int) + 1 := by omega
  have htn : ((i : Int) + 1).toNat = i + 1 := by omega
  have hb2 : ¬ (c = i + 1) := by omega
  have hb3 : (i : Int) ≤ (n : Int) + 1 := by omega
  have hb4 : ¬ (c = i) := by omega
  have hin : i ≤ n := by omega
  have hbd : w.drew.heap[b]? = some (.cells cur eT (0, 0)) := hb
  have mixed : Try.prog.follows .mixedOrders = true := by kernel_rfl
  have hm1 : Nat.min (n + 1 - i) (n - i) = n - i := by simp only [Nat.min_def]; split <;> omega
  have hcp1 : ∀ ty dc sc, (Builtin.copy_ #[102, 102] ty #[.slice (some ⟨b, p + (i + 1) * 13, none⟩) (n - i) dc, .slice (some ⟨b, p + i * 13, none⟩) (n + 1 - i) sc]).run Try.prog w.drew =   .ok (goInt ((n - i : Nat) : Int)) (w.drew.setRow b R1) := fun ty dc sc => by
    have := run_copyN (P := Try.prog) (tX := 102) (ty := ty) Try.underlying102 Try.size_wait w.drew b (p + (i + 1) * 13) (n - i) dc cur eT hbd ⟨b, p + i * 13, none⟩ (n + 1 - i) sc A (by rw [hm1]; exact hA)
      (fun j v hj => by rw [Addr.add_lit]; exact cell_of_block hbd (hAs j v hj)) (by rw [hA]; omega) h1A
    rw [hm1, ← hR1] at this
    exact this
  have hR1s : R1.size = cur.size := by rw [hR1]; simp; omega
  have hR1h : (w.drew.setRow b R1).heap[b]? = some (.cells R1 eT (0, 0)) := setRow_heap _ _ _ _ _ _ hbd
  have hcp2 : ∀ (W : World), W.heap = (w.drew.setRow b R1).heap → ∀ ty dc, (Builtin.copy_ #[102, 102] ty #[.slice (some ⟨b, p + i * 13, none⟩) (n + 1 - i) dc, .slice (some ⟨vb, q, none⟩) 1 vc]).run Try.prog W = .ok (goInt 1) (W.setRow b R2) := fun W hWh ty dc => by
    have hm2 : Nat.min 1 (n + 1 - i) = 1 := by simp only [Nat.min_def]; split <;> omega
    have := run_copyN (P := Try.prog) (tX := 102) (ty := ty) Try.underlying102 Try.size_wait W b (p + i * 13) (n + 1 - i) dc R1 eT (by rw [hWh]; exact hR1h) ⟨vb, q, none⟩ 1 vc ys (by rw [hm2, hyl])
      (fun j v hj => by rw [Addr.add_lit]; exact cell_of_block (by rw [hWh, setRow_other _ _ _ _ hne]; exact hvb) (hys j v hj)) (by rw [hyl]; omega) h1y
    rw [hm2, ← hR2] at this
    exact this
  clear hR1 hR2
  go_enter Try.func35, Try.ntmps35
  go_wp2_with (simp only [hov])
  go_region_law_o (refine step_copy_runI rfl _ _ 102 102 rfl _ _ (by simp [Act.eval, Act.put]) (by simp [Act.eval, Act.put]) (hcp1 _ _ _) ?_)
  go_wp2_with (at_builtin; refine wpList_copy_runI _ rfl _ _ 102 102 rfl _ _ rfl rfl (hcp2 _ rfl _ _) ?_)
  go_ret
  exact ⟨rfl, rfl⟩

theorem ins_rows {B ys A T R1 R2 : List Value} (hR : R1 = B ++ T) (hl : B.length + ys.length + A.length ≤ R1.length) (h2 : R2 = R1.take B.length ++ ys ++ R1.drop (B.length + ys.length)) :
    R2.take (B.length + ys.length) ++ A ++ R2.drop (B.length + ys.length + A.length) = B ++ (ys ++ (A ++ R1.drop (B.length + ys.length + A.length))) := by
  have e1 : R1.take B.length = B := by rw [hR]; exact List.take_left
  have e2 : R2 = (B ++ ys) ++ R1.drop (B.length + ys.length) := by rw [h2, e1]
  have e3 : R2.take (B.length + ys.length) = B ++ ys := by rw [e2]; exact List.take_left' (by simp)
  have e4 : R2.drop (B.length + ys.length + A.length) = R1.drop (B.length + ys.length + A.length) := by
    rw [← List.drop_drop, e2, List.drop_left' (by simp), List.drop_drop]
  rw [e3, e4]
  simp
theorem Try.zero_wait : ((Try.prog.info? 108).bind (·.zero)).map (·.cells.size) = some 13 := by kernel_rfl

set_option maxHeartbeats 4000000 in
set_option maxRecDepth 100000 in
/-- there is no room -/
theorem ins_grow (b p n i vb q vc : Nat) (cur vcur : Array Value) (eT eV : TypeId) (B A ys : List Value) (w : World)
    (hb : w.heap[b]? = some (.cells cur eT (0, 0))) (hvb : w.heap[vb]? = some (.cells vcur eV (0, 0))) (hi : i < n)
    (hsmall : (2 * (n + 1) + 200) * 120 ≤ 2 ^ 48) (hn : n + 1 ≤ 1073741824)
    (hB : B.length = i * 13) (hBs : ∀ j v, B[j]? = some v → cur[p + j]? = some v)
    (hA : A.length = (n - i) * 13) (hAs : ∀ j v, A[j]? = some v → cur[p + i * 13 + j]? = some v) (hyl : ys.length = 13) (hys : ∀ j v, ys[j]? = some v → vcur[q + j]? = some v)
    (h1B : ∀ v ∈ B, v.oneCell' = true) (h1A : ∀ v ∈ A, v.oneCell' = true) (h1y : ∀ v ∈ ys, v.oneCell' = true) :
    Calls Try.prog 35 #[.slice (some ⟨b, p, none⟩) n n, .int .i64 i, .slice (some ⟨vb, q, none⟩) 1 vc] w fun e w' =>
      ∃ (ext : Nat) (post : List Value) (R1 R2 R3 : Array Value), e = .returned (.slice (some ⟨w.heap.size, 0, none⟩) (n + 1) (n + 1 + ext)) ∧ ext * 13 ≤ post.length ∧ R3 = (B ++ (ys ++ (A ++ post))).toArray ∧
        w' = (((w.drew.alloc (.cells R1 108)).setRow w.heap.size R2).drew).setRow w.heap.size R3 := by
  have mixed : Try.prog.follows .mixedOrders = true := by kernel_rfl
  obtain ⟨i0, hi0, hzs, hzb⟩ : ∃ i0, Try.prog.info? 108 = some i0 ∧ i0.size = 13 ∧ i0.bytes = 120 := by
    have := Try.info_wait
    cases hq : Try.prog.info? 108 with
    | none => rw [hq] at this; cases this
    | some i0 => rw [hq] at this; simp at this; exact ⟨i0, rfl, this⟩
  obtain ⟨z, hz0, hzc⟩ : ∃ z, i0.zero = some z ∧ z.cells.size = 13 := by
    have := Try.zero_wait
    rw [hi0] at this
    simp only [Option.bind_some] at this
    cases hq : i0.zero with
    | none => rw [hq] at this; cases this
    | some z => rw [hq] at this; simp at this; exact ⟨z, rfl, this⟩
  have hz2 : ¬ ((i : Int) = (n : Int)) := by omega
  have hz3 : (n : Int) < (n : Int) + 1 := by omega
  have hbw : b < w.heap.size := (Array.getElem?_eq_some_iff.1 hb).1
  have hvw : vb < w.heap.size := (Array.getElem?_eq_some_iff.1 hvb).1
  have hbN : b ≠ w.heap.size := by omega
  have hvN : vb ≠ w.heap.size := by omega
  have hkk : (n : Int) + 1 - (i : Int) = ((n + 1 - i : Nat) : Int) := by omega
  have hik : i + (n + 1 - i) = n + 1 := by omega
  have hbd : w.drew.heap[b]? = some (.cells cur eT (0, 0)) := hb
  have hold : (Builtin.firstCells i0.size i (.slice (some ⟨b, p, none⟩) i n)).run Try.prog w.drew = .ok B.toArray w.drew := by
    rw [hzs]
    exact run_firstCells_some w.drew 13 i ⟨b, p, none⟩ i n B hB (fun j v hj => by rw [Addr.add_lit]; exact cell_of_block hbd (hBs j v hj))
  have hrz : ∀ ty, (Builtin.append_ #[102, 3] ty #[.slice (some ⟨b, p, none⟩) i n, .int .i64 ((n : Int) + 1 - (i : Int))]).run Try.prog w =
      .ok (.slice (some ⟨w.heap.size, 0, none⟩) (n + 1) (grownCap w (n + 1) n 108)) (w.drew.alloc (.cells (B.toArray ++ Builtin.zeroCells z.cells (n + 1 - i) ++ Builtin.zeroCells z.cells (grownCap w (n + 1) n 108 - (n + 1))) 108)) := fun ty => by
    have h := Lib.run_append_grow_zeros w 102 3 ty 108 i0 _ .i64 .i64 Try.underlying102 Try.underlying3 hi0 hz0 (some ⟨b, p, none⟩) i n B hold (n + 1 - i) (by omega) (by omega) (by omega) (by omega) (by rw [hzb]; omega) (by rw [hzb, hik]; exact growslice_fits (Nat.lt_succ_self n) (by omega))
    rw [hik] at h
    rw [hkk]
    exact h
  obtain ⟨G, hG⟩ : ∃ G, G = grownCap w (n + 1) n 108 := ⟨_, rfl⟩
  rw [← hG] at hrz
  have hGn : n + 1 ≤ G := by rw [hG]; exact grownCap_ge w _ _ _
  have hG63 : G ≤ 9223372036854775807 := by
    have := grownCap_le_maxLen w (n + 1) n 108 (by unfold maxLen; omega)
    rw [← hG] at this
    unfold maxLen at this
    omega
  obtain ⟨ROW, hROW⟩ : ∃ ROW : Array Value, ROW = B.toArray ++ Builtin.zeroCells z.cells (n + 1 - i) ++ Builtin.zeroCells z.cells (G - (n + 1)) := ⟨_, rfl⟩
  rw [← hROW] at hrz
  have hRs : ROW.size = i * 13 + (n + 1 - i) * 13 + (G - (n + 1)) * 13 := by
    rw [hROW]
    simp [Builtin.zeroCells, hzc, hB]
    omega
  have hRl : (n + 1) * 13 + (G - (n + 1)) * 13 = ROW.size := by rw [hRs]; omega
  obtain ⟨T, hT⟩ : ∃ T, ROW.toList = B ++ T := ⟨(Builtin.zeroCells z.cells (n + 1 - i) ++ Builtin.zeroCells z.cells (G - (n + 1))).toList, by rw [hROW]; simp⟩
  obtain ⟨R2, hR2⟩ : ∃ R2 : Array Value, R2 = (ROW.toList.take (i * 13) ++ ys ++ ROW.toList.drop (i * 13 + ys.length)).toArray := ⟨_, rfl⟩
  obtain ⟨R3, hR3⟩ : ∃ R3 : Array Value, R3 = (R2.toList.take ((i + 1) * 13) ++ A ++ R2.toList.drop ((i + 1) * 13 + A.length)).toArray := ⟨_, rfl⟩
  have hfin : R3 = (B ++ (ys ++ (A ++ ROW.toList.drop ((n + 1) * 13)))).toArray := by
    have h := ins_rows (B := B) (ys := ys) (A := A) (R1 := ROW.toList) (R2 := R2.toList) hT (by rw [hB, hyl, hA, Array.length_toList]; omega) (by rw [hR2, hB])
    rw [hB, hyl, hA, show i * 13 + 13 = (i + 1) * 13 by omega, show (i + 1) * 13 + (n - i) * 13 = (n + 1) * 13 by omega] at h
    rw [hR3, hA, show (i + 1) * 13 + (n - i) * 13 = (n + 1) * 13 by omega, h]
  have hR2s : R2.size = ROW.size := by rw [hR2]; simp; omega
  obtain ⟨W1, hW1⟩ : ∃ W1, W1 = w.drew.alloc (.cells ROW 108) := ⟨_, rfl⟩
  rw [← hW1] at hrz
  have hWn : W1.heap[w.heap.size]? = some (.cells ROW 108 (0, 0)) := by rw [hW1]; show (w.heap.push _)[w.heap.size]? = _; simp
  have hWo : ∀ k, k < w.heap.size → W1.heap[k]? = w.heap[k]? := fun k hk => by rw [hW1]; exact Below.heap_alloc _ _ _ hk
  have hcpA : ∀ (W : World), W.heap = W1.heap → ∀ ty dc, (Builtin.copy_ #[102, 102] ty #[.slice (some ⟨w.heap.size, i * 13, none⟩) (n + 1 - i) dc, .slice (some ⟨vb, q, none⟩) 1 vc]).run Try.prog W = .ok (goInt 1) (W.setRow w.heap.size R2) := fun W hWh ty dc => by
    have hm2 : Nat.min 1 (n + 1 - i) = 1 := by simp only [Nat.min_def]; split <;> omega
    have := run_copyN (P := Try.prog) (tX := 102) (ty := ty) Try.underlying102 Try.size_wait W w.heap.size (i * 13) (n + 1 - i) dc ROW 108 (by rw [hWh]; exact hWn) ⟨vb, q, none⟩ 1 vc ys (by rw [hm2, hyl])
      (fun j v hj => by rw [Addr.add_lit]; exact cell_of_block (by rw [hWh, hWo _ hvw]; exact hvb) (hys j v hj)) (by rw [hyl]; omega) h1y
    rw [hm2, ← hR2] at this
    exact this
  have hm1 : Nat.min (n - i) (n - i) = n - i := Nat.min_self _
  have hcpB : ∀ (W : World), W.heap = (W1.setRow w.heap.size R2).heap → ∀ ty dc sc, (Builtin.copy_ #[102, 102] ty #[.slice (some ⟨w.heap.size, (i + 1) * 13, none⟩) (n - i) dc, .slice (some ⟨b, p + i * 13, none⟩) (n - i) sc]).run Try.prog W = .ok (goInt ((n - i : Nat) : Int)) (W.setRow w.heap.size R3) := fun W hWh ty dc sc => by
    have := run_copyN (P := Try.prog) (tX := 102) (ty := ty) Try.underlying102 Try.size_wait W w.heap.size ((i + 1) * 13) (n - i) dc R2 108 (by rw [hWh]; exact setRow_heap _ _ _ _ _ _ hWn) ⟨b, p + i * 13, none⟩ (n - i) sc A (by rw [hm1]; exact hA)
      (fun j v hj => by rw [Addr.add_lit]; exact cell_of_block (by rw [hWh, setRow_other _ _ _ _ hbN, hWo _ hbw]; exact hb) (hAs j v hj)) (by rw [hA]; omega) h1A
    rw [hm1, ← hR3] at this
    exact this
  have hGi : ¬ (G = i) := by omega
  have hGim : ¬ (G = i + 1) := by omega
  have hci : ¬ (n = i) := by omega
  have hw1 : IntKind.i64.wrap ((i : Int) + 1) = (i : Int) + 1 := by rw [IntKind.wrap_i64]; omega
  have hw2 : IntKind.i64.wrap ((n : Int) + 1) = (n : Int) + 1 := by rw [IntKind.wrap_i64]; omega
  have hb1 : (0 : Int) ≤ (i : Int) + 1 := by omega
  have htn : ((i : Int) + 1).toNat = i + 1 := by omega
  have hin : i ≤ n := by omega
  have hb3 : (i : Int) ≤ (n : Int) := by omega
  have hE1 : ((w.alloc (.cells ROW 108)).drew).heap = W1.heap := by rw [hW1]; rfl
  have hF1 : (((w.alloc (.cells ROW 108)).drew.setRow w.heap.size R2).drew).heap = (W1.setRow w.heap.size R2).heap := by rw [hW1]; rfl
  refine Calls.mono (?_ : Calls Try.prog 35 _ w fun e w' => e = .returned (.slice (some ⟨w.heap.size, 0, none⟩) (n + 1) G) ∧ w' = ((W1.setRow w.heap.size R2).drew).setRow w.heap.size R3) fun e w' h => ⟨G - (n + 1), ROW.toList.drop ((n + 1) * 13), ROW, R2, R3, ?_, ?_, hfin, ?_⟩
  · clear hkk hik hold hROW hG hRl hRs hT hR2 hR3 hfin hWn hWo
    subst hW1
    go_enter Try.func35, Try.ntmps35
    go_wp2_with (first
      | (at_builtin; refine Lib.wpList_append_run _ rfl _ _ _ _ rfl _ _ rfl rfl _ _ (hrz _) ?_)
      | (at_builtin; refine wpList_copy_runI _ rfl _ _ 102 102 rfl _ _ rfl rfl (hcpA _ hE1 _ _) ?_)
      | (at_builtin; refine wpList_copy_runI _ rfl _ _ 102 102 rfl _ _ rfl rfl (hcpA _ rfl _ _) ?_)
      | (at_builtin; refine wpList_copy_runI _ rfl _ _ 102 102 rfl _ _ rfl rfl (hcpB _ rfl _ _ _) ?_))
    go_region_law_o (refine step_copy_runI rfl _ _ 102 102 rfl (.slice (some ⟨w.heap.size, (i + 1) * 13, none⟩) (n - i) (G - (i + 1))) (.slice (some ⟨b, p + i * 13, none⟩) (n - i) (n - i)) (by simp [Act.eval, Act.put]) (by simp [Act.eval, Act.put]) (hcpB _ hF1 3 (G - (i + 1)) (n - i)) ?_)
    go_wp2
    go_ret
    exact ⟨rfl, rfl⟩
  · rw [h.1, show n + 1 + (G - (n + 1)) = G by omega]
  · rw [List.length_drop, Array.length_toList]; omega
  · rw [h.2, hW1]
end Go.Proofs.Ytgfcakdpfedokaa
