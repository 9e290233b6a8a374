/- Texts of this session, one behind the other, what the row does not use left out: walks and laws over plain data. -/
import Derived.Test.YtjcejgolcdgipaaPFP2
import Derived.Test.YtjcejgolcdgipaaWWords
import Derived.Deep.RegionHeld3
import Derived.Laws.EntriesVeiled
import Derived.Laws.Tables

namespace Go.Proofs.Ytjcejgolcdgipaa
open Go.RowKit Go.Proofs.YtjcejgolcdgipaaW.PrintWords

theorem kp_far {w w1 w2 : World} {F : Nat → Prop} (h : Kp (fun _ => True) w w1) (hk : Kp F w1 w2) (hF : ∀ k, k < w.heap.size → F k) : Kp (fun _ => True) w w2 :=
  ((h.mono (G := (· < w.heap.size)) (fun _ _ _ => trivial)).next hk (fun k hk _ => hF k hk)).mono (fun _ _ hl => hl)
def sortCells : Array Value :=
  #[.int .u8 0, .int .u8 0, .nilFunc, .nilFunc, .nilFunc,
    .int .u8 205, .int .u8 1, .func (Fn.func 99) #[] #[], .func (Fn.func 100) #[] #[], .func (Fn.func 101) #[] #[],
    .int .u8 206, .int .u8 1, .func (Fn.func 102) #[] #[], .func (Fn.func 103) #[] #[], .func (Fn.func 104) #[] #[],
    .int .u8 206, .int .u8 4, .func (Fn.func 105) #[] #[], .func (Fn.func 106) #[] #[], .func (Fn.func 107) #[] #[],
    .int .u8 206, .int .u8 15, .func (Fn.func 108) #[] #[], .func (Fn.func 109) #[] #[], .func (Fn.func 104) #[] #[]]
def sortAt : Nat → Array Value
  | 0 => #[.int .u8 0, .int .u8 0, .nilFunc, .nilFunc, .nilFunc]
  | 1 => #[.int .u8 205, .int .u8 1, .func (Fn.func 99) #[] #[], .func (Fn.func 100) #[] #[], .func (Fn.func 101) #[] #[]]
  | 2 => #[.int .u8 206, .int .u8 1, .func (Fn.func 102) #[] #[], .func (Fn.func 103) #[] #[], .func (Fn.func 104) #[] #[]]
  | 3 => #[.int .u8 206, .int .u8 4, .func (Fn.func 105) #[] #[], .func (Fn.func 106) #[] #[], .func (Fn.func 107) #[] #[]]
  | _ => #[.int .u8 206, .int .u8 15, .func (Fn.func 108) #[] #[], .func (Fn.func 109) #[] #[], .func (Fn.func 104) #[] #[]]
theorem sort_ix0 (q : IntKind) (W : World) : (Instr.index 126 (.agg sortCells) (.int q 0)).run Try.prog W = .ok (.agg #[.int .u8 0, .int .u8 0, .nilFunc, .nilFunc, .nilFunc]) W := by kernel_rfl
theorem sort_ix1 (q : IntKind) (W : World) : (Instr.index 126 (.agg sortCells) (.int q 1)).run Try.prog W = .ok (.agg #[.int .u8 205, .int .u8 1, .func (Fn.func 99) #[] #[], .func (Fn.func 100) #[] #[], .func (Fn.func 101) #[] #[]]) W := by kernel_rfl
theorem sort_ix2 (q : IntKind) (W : World) : (Instr.index 126 (.agg sortCells) (.int q 2)).run Try.prog W = .ok (.agg #[.int .u8 206, .int .u8 1, .func (Fn.func 102) #[] #[], .func (Fn.func 103) #[] #[], .func (Fn.func 104) #[] #[]]) W := by kernel_rfl
theorem sort_ix3 (q : IntKind) (W : World) : (Instr.index 126 (.agg sortCells) (.int q 3)).run Try.prog W = .ok (.agg #[.int .u8 206, .int .u8 4, .func (Fn.func 105) #[] #[], .func (Fn.func 106) #[] #[], .func (Fn.func 107) #[] #[]]) W := by kernel_rfl
theorem sort_ix4 (q : IntKind) (W : World) : (Instr.index 126 (.agg sortCells) (.int q 4)).run Try.prog W = .ok (.agg #[.int .u8 206, .int .u8 15, .func (Fn.func 108) #[] #[], .func (Fn.func 109) #[] #[], .func (Fn.func 104) #[] #[]]) W := by kernel_rfl
theorem blk_setRow {w : World} {g : Nat} {t : TypeId} {old : Array Value} (h : Blk w g t old) (cells : Array Value) : Blk (w.setRow g cells) g t cells := setRow_heap w g old cells t (0, 0) h
theorem kp_setRow (w : World) (g : Nat) (cells : Array Value) : Kp (· ≠ g) w (w.setRow g cells) := by
  refine ⟨rfl, rfl, rfl, ?_, fun k hk _ => ?_⟩
  · simp [World.setRow]
  · simp [World.setRow, Array.getElem?_modify, Ne.symm hk]
theorem results_c {P : Program} {fn : Func} {p : Tmp} {ty : TypeId} (h : fn.results = #[.cell p ty]) (tmps : Array Value) (w : World) (g : Nat) (t : TypeId) (cs : Array Value) (fr : Nat × Nat) (d : TypeDesc)
    (hp : tmps.getD p undef = .pointer (some ⟨g, 0, none⟩)) (hg : w.heap[g]? = some (.cells cs t fr))
    (hu : P.underlying ty = some d) (hd : (match d with | .struct _ | .array _ _ => true | _ => false) = true) (hi : (P.info? ty).map (·.size) = some cs.size) :
    (results fn tmps).run P w = .ok (.agg cs) w := by
  have hp' : tmps[p]?.getD undef = .pointer (some ⟨g, 0, none⟩) := by simpa using hp
  simp [results, h, hp', asAddr, run_loadVar_row w g t ty cs fr d hg hu hd hi]
theorem sorts_any (w : World) : Calls Try.prog 67 #[] w fun e w' => e = .returned (.agg sortCells) ∧ Kp (fun _ => True) w w' := by
  go_enter Try.func67, Try.ntmps67
  go_wp2_with (refine wpList_store_row rfl 126 (.tmp 0) (.tmp 5) rfl w.heap.size sortCells rfl rfl 126 _ (heap_alloc_new _ _) (by kernel_rfl) rfl (by kernel_rfl) ?_)
  exact bodyPost_ret (results_c rfl _ _ w.heap.size 126 _ (0, 0) _ rfl (blk_setRow (Blk.new w _ _) sortCells) Try.underlying126 rfl (by kernel_rfl)) rfl ⟨rfl, kp_far ((Kp.refl _ _).alloc _) (kp_setRow _ _ _) (fun k hk => by omega)⟩

/-- The sort of a packet. -/
def sortOf (kd ct : Nat) : Nat := if kd = 205 ∧ ct = 1 then 1 else if kd = 206 ∧ ct = 1 then 2 else if kd = 206 ∧ ct = 4 then 3 else if kd = 206 ∧ ct = 15 then 4 else 0
theorem sortOf_le (kd ct : Nat) : sortOf kd ct ≤ 4 := by
  unfold sortOf
  split
  · omega
  · split
    · omega
    · split
      · omega
      · split <;> omega
theorem sortOf_1 {kd ct : Nat} (h : sortOf kd ct = 1) : kd = 205 ∧ ct = 1 := by
  unfold sortOf at h
  split at h
  · omega
  · split at h
    · omega
    · split at h
      · omega
      · split at h <;> omega
theorem sortOf_2 {kd ct : Nat} (h : sortOf kd ct = 2) : kd = 206 ∧ ct = 1 := by
  unfold sortOf at h
  split at h
  · omega
  · split at h
    · omega
    · split at h
      · omega
      · split at h <;> omega
theorem sortOf_3 {kd ct : Nat} (h : sortOf kd ct = 3) : kd = 206 ∧ ct = 4 := by
  unfold sortOf at h
  split at h
  · omega
  · split at h
    · omega
    · split at h
      · omega
      · split at h <;> omega
theorem sortOf_4 {kd ct : Nat} (h : sortOf kd ct = 4) : kd = 206 ∧ ct = 15 := by
  unfold sortOf at h
  split at h
  · omega
  · split at h
    · omega
    · split at h
      · omega
      · split at h <;> omega
set_option maxHeartbeats 2000000 in
set_option maxRecDepth 100000 in
theorem of_any (w : World) (ct kd pd : Nat) (b : Value) (hb : ∃ A n c, b = .slice A n c) :
    Calls Try.prog 66 #[.agg #[.int .u8 (ct : Int), .int .u8 (kd : Int), b, .int .u8 (pd : Int)]] w fun e w' => e = .returned (.int .u8 (sortOf kd ct : Int)) ∧ Kp (fun _ => True) w w' := by
  obtain ⟨A, n, c, rfl⟩ := hb
  go_enter Try.func66, Try.ntmps66
  go_wp2_with fail
  refine (sorts_any _).mono ?_
  rintro e w1 ⟨rfl, hK1⟩
  have hM := (Blk.new w 40 #[.int .u8 (ct : Int), .int .u8 (kd : Int), .slice A n c, .int .u8 (pd : Int)]).kp hK1 trivial
  have hK : Kp (fun _ => True) w w1 := ((Kp.refl _ _).alloc _).trans hK1
  go_wp2
  go_loopw [6] (fun (iv : Value) wr => ∃ k : Nat, k ≤ 5 ∧ iv = .int .i64 k ∧ (sortOf kd ct = 0 ∨ k ≤ sortOf kd ct) ∧ Blk wr w.heap.size 40 #[.int .u8 (ct : Int), .int .u8 (kd : Int), .slice A n c, .int .u8 (pd : Int)] ∧ Kp (fun _ => True) w wr) (fun iv _ => 5 - (intOf iv).toNat)
  case atStart => exact ⟨0, by omega, rfl, .inr (Nat.zero_le _), hM, hK⟩
  case round =>
    obtain ⟨k, hk, rfl, hso, hMr, hKr⟩ := hrel
    have hSZ := hKr.size
    have cM := fun o i => (hMr.alloc o).cell i
    have hl4 := sortOf_le kd ct
    by_cases h5 : k < 5
    · rcases (by omega : k = 0 ∨ k = 1 ∨ k = 2 ∨ k = 3 ∨ k = 4) with rfl | rfl | rfl | rfl | rfl
      · clear hK hM
        have hix := sort_ix0 .i64
        have HN : Hd (sortOf kd ct = 0 ∨ 1 ≤ sortOf kd ct) := hd (by omega)
        clear hso hl4
        go_wp2
        go_roundw
        case rel => exact ⟨1, by omega, by go_num, HN.out, hMr.alloc _, hKr.alloc _⟩
        case measure => simp [intOf]
      · clear hK hM
        have hix := sort_ix1 .i64
        by_cases h1 : kd = 205
        · by_cases h2 : ct = 1
          · have HR : Hd (sortOf kd ct = 1) := hd (by subst h1 h2; rfl)
            have e1 : ((205 : Int) == (kd : Int)) = true := by rw [beq_iff_eq]; omega
            have e2 : ((1 : Int) == (ct : Int)) = true := by rw [beq_iff_eq]; omega
            clear h1 h2 hso hl4
            go_wp2
            go_ret
            exact ⟨by rw [HR.out]; rfl, hKr.alloc _⟩
          · have HN : Hd (sortOf kd ct = 0 ∨ 2 ≤ sortOf kd ct) := hd (by have : sortOf kd ct ≠ 1 := fun h => h2 (sortOf_1 h).2; omega)
            have e1 : ((205 : Int) == (kd : Int)) = true := by rw [beq_iff_eq]; omega
            have e2 : ((1 : Int) == (ct : Int)) = false := by rw [beq_eq_false_iff_ne]; omega
            clear h1 h2 hso hl4
            go_wp2
            go_roundw
            case rel => exact ⟨2, by omega, by go_num, HN.out, hMr.alloc _, hKr.alloc _⟩
            case measure => simp [intOf]
        · have HN : Hd (sortOf kd ct = 0 ∨ 2 ≤ sortOf kd ct) := hd (by have : sortOf kd ct ≠ 1 := fun h => h1 (sortOf_1 h).1; omega)
          have e1 : ((205 : Int) == (kd : Int)) = false := by rw [beq_eq_false_iff_ne]; omega
          clear h1 hso hl4
          go_wp2
          go_roundw
          case rel => exact ⟨2, by omega, by go_num, HN.out, hMr.alloc _, hKr.alloc _⟩
          case measure => simp [intOf]
      · clear hK hM
        have hix := sort_ix2 .i64
        by_cases h1 : kd = 206
        · by_cases h2 : ct = 1
          · have HR : Hd (sortOf kd ct = 2) := hd (by subst h1 h2; rfl)
            have e1 : ((206 : Int) == (kd : Int)) = true := by rw [beq_iff_eq]; omega
            have e2 : ((1 : Int) == (ct : Int)) = true := by rw [beq_iff_eq]; omega
            clear h1 h2 hso hl4
            go_wp2
            go_ret
            exact ⟨by rw [HR.out]; rfl, hKr.alloc _⟩
          · have HN : Hd (sortOf kd ct = 0 ∨ 3 ≤ sortOf kd ct) := hd (by have : sortOf kd ct ≠ 2 := fun h => h2 (sortOf_2 h).2; omega)
            have e1 : ((206 : Int) == (kd : Int)) = true := by rw [beq_iff_eq]; omega
            have e2 : ((1 : Int) == (ct : Int)) = false := by rw [beq_eq_false_iff_ne]; omega
            clear h1 h2 hso hl4
            go_wp2
            go_roundw
            case rel => exact ⟨3, by omega, by go_num, HN.out, hMr.alloc _, hKr.alloc _⟩
            case measure => simp [intOf]
        · have HN : Hd (sortOf kd ct = 0 ∨ 3 ≤ sortOf kd ct) := hd (by have : sortOf kd ct ≠ 2 := fun h => h1 (sortOf_2 h).1; omega)
          have e1 : ((206 : Int) == (kd : Int)) = false := by rw [beq_eq_false_iff_ne]; omega
          clear h1 hso hl4
          go_wp2
          go_roundw
          case rel => exact ⟨3, by omega, by go_num, HN.out, hMr.alloc _, hKr.alloc _⟩
          case measure => simp [intOf]
      · clear hK hM
        have hix := sort_ix3 .i64
        by_cases h1 : kd = 206
        · by_cases h2 : ct = 4
          · have HR : Hd (sortOf kd ct = 3) := hd (by subst h1 h2; rfl)
            have e1 : ((206 : Int) == (kd : Int)) = true := by rw [beq_iff_eq]; omega
            have e2 : ((4 : Int) == (ct : Int)) = true := by rw [beq_iff_eq]; omega
            clear h1 h2 hso hl4
            go_wp2
            go_ret
            exact ⟨by rw [HR.out]; rfl, hKr.alloc _⟩
          · have HN : Hd (sortOf kd ct = 0 ∨ 4 ≤ sortOf kd ct) := hd (by have : sortOf kd ct ≠ 3 := fun h => h2 (sortOf_3 h).2; omega)
            have e1 : ((206 : Int) == (kd : Int)) = true := by rw [beq_iff_eq]; omega
            have e2 : ((4 : Int) == (ct : Int)) = false := by rw [beq_eq_false_iff_ne]; omega
            clear h1 h2 hso hl4
            go_wp2
            go_roundw
            case rel => exact ⟨4, by omega, by go_num, HN.out, hMr.alloc _, hKr.alloc _⟩
            case measure => simp [intOf]
        · have HN : Hd (sortOf kd ct = 0 ∨ 4 ≤ sortOf kd ct) := hd (by have : sortOf kd ct ≠ 3 := fun h => h1 (sortOf_3 h).1; omega)
          have e1 : ((206 : Int) == (kd : Int)) = false := by rw [beq_eq_false_iff_ne]; omega
          clear h1 hso hl4
          go_wp2
          go_roundw
          case rel => exact ⟨4, by omega, by go_num, HN.out, hMr.alloc _, hKr.alloc _⟩
          case measure => simp [intOf]
      · clear hK hM
        have hix := sort_ix4 .i64
        by_cases h1 : kd = 206
        · by_cases h2 : ct = 15
          · have HR : Hd (sortOf kd ct = 4) := hd (by subst h1 h2; rfl)
            have e1 : ((206 : Int) == (kd : Int)) = true := by rw [beq_iff_eq]; omega
            have e2 : ((15 : Int) == (ct : Int)) = true := by rw [beq_iff_eq]; omega
            clear h1 h2 hso hl4
            go_wp2
            go_ret
            exact ⟨by rw [HR.out]; rfl, hKr.alloc _⟩
          · have HN : Hd (sortOf kd ct = 0 ∨ 5 ≤ sortOf kd ct) := hd (by have : sortOf kd ct ≠ 4 := fun h => h2 (sortOf_4 h).2; omega)
            have e1 : ((206 : Int) == (kd : Int)) = true := by rw [beq_iff_eq]; omega
            have e2 : ((15 : Int) == (ct : Int)) = false := by rw [beq_eq_false_iff_ne]; omega
            clear h1 h2 hso hl4
            go_wp2
            go_roundw
            case rel => exact ⟨5, by omega, by go_num, HN.out, hMr.alloc _, hKr.alloc _⟩
            case measure => simp [intOf]
        · have HN : Hd (sortOf kd ct = 0 ∨ 5 ≤ sortOf kd ct) := hd (by have : sortOf kd ct ≠ 4 := fun h => h1 (sortOf_4 h).1; omega)
          have e1 : ((206 : Int) == (kd : Int)) = false := by rw [beq_eq_false_iff_ne]; omega
          clear h1 hso hl4
          go_wp2
          go_roundw
          case rel => exact ⟨5, by omega, by go_num, HN.out, hMr.alloc _, hKr.alloc _⟩
          case measure => simp [intOf]
    · obtain rfl : k = 5 := by omega
      have HR : Hd (sortOf kd ct = 0) := hd (by omega)
      clear hso hl4
      go_wp2
      go_ret
      exact ⟨by rw [HR.out]; rfl, hKr⟩
end Go.Proofs.Ytjcejgolcdgipaa
