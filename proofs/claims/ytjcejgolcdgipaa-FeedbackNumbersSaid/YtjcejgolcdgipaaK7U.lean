/- Chapter 07: a message's packet, sort by sort. -/
import Derived.Test.YtjcejgolcdgipaaK7T
namespace Go.Proofs.Ytjcejgolcdgipaa.K7
open Go.RowKit Go.Proofs.YtjcejgolcdgipaaW.PrintWords Go.Proofs.YtjcejgolcdgipaaW.PrintLast Go.Proofs.YtjcejgolcdgipaaW.PrintMore

set_option linter.unusedVariables false
theorem W2_nil {w : World} {p : Nat} {v : Value} {D : List Nat} (h : W2 w p v D) : W2 w p v (D ++ []) := by rw [List.append_nil]; exact h
theorem blk_c2 {w : World} {g : Nat} {t : TypeId} {cs : Array Value} {a b : Value} (h : Blk w g t cs) (h0 : cs[0]? = some a) (h1 : cs[1]? = some b) : w.cell? ⟨g, 0, none⟩ = some a ∧ w.cell? ⟨g, 1, none⟩ = some b := ⟨(h.cell 0).trans h0, (h.cell 1).trans h1⟩
theorem own_lower {w : World} {b b' : Nat} {e : TypeId} {k n : Nat} {v : Value} {xs : List Value} (h : w.ownsRow b e k v n xs) (hb : b' ≤ b) : w.ownsRow b' e k v n xs := own_weaken h hb
theorem own_slice' {w : World} {base : Nat} {e : TypeId} {size : Nat} {v : Value} {n : Nat} {xs : List Value} (h : w.ownsRow base e size v n xs) : ∃ A m c, v = .slice A m c := by
  obtain ⟨A, c, e⟩ := own_slice h
  exact ⟨A, _, c, e⟩
set_option maxHeartbeats 2000000 in
set_option maxRecDepth 100000 in
theorem packet1_any {w : World} (s : Int) (sd md e mn : Nat) (hsd : sd < 4294967296) (hmd : md < 4294967296) (he : e < 256) (hmn : mn < 4294967296) {Ap Ao As : Option Addr} {cp co cs : Nat} {lp : List S82} {lo : List S134} {ls : List Int}
    (hP : Kd.C k82 w Ap lp.length lp) (hop : Ok2 lp) (hlp : lp.length ≤ 1000000) (hO : Kd.C k134 w Ao lo.length lo) (hoo : OkO lo) (hlo : lo.length ≤ 1000000) (hS : Kd.C (Kd.int .u32) w As ls.length ls) (hos : OkS ls) (hls : ls.length ≤ 1000000) :
    Calls Try.prog 74 #[.agg #[.int .u8 s, .int .u32 (sd : Int), .int .u32 (md : Int), .slice Ap lp.length cp, .slice Ao lo.length co, .int .u8 (e : Int), .int .u32 (mn : Int), .slice As ls.length cs], .agg #[.int .u8 205, .int .u8 1, .func (Fn.func 99) #[] #[], .func (Fn.func 100) #[] #[], .func (Fn.func 101) #[] #[]]] w fun e_ w' =>
      ∃ vb, e_ = .returned (.agg #[.int .u8 1, .int .u8 205, vb, .int .u8 0]) ∧ w'.ownsRow w.heap.size 5 1 vb (pack (ofn sd 32 ++ ofn md 32 ++ pairsD lp)).length (bv (pack (ofn sd 32 ++ ofn md 32 ++ pairsD lp))) ∧ Kp (fun _ => True) w w' := by
  have hw1 : IntKind.u64.wrap (sd : Int) = sd := IntWalk.u64_in _ (by omega)
  have hw2 : IntKind.u64.wrap (md : Int) = md := IntWalk.u64_in _ (by omega)
  obtain ⟨w3, hw3⟩ : ∃ w3, w3 = ((w.alloc (.cells #[.int .u8 s, .int .u32 (sd : Int), .int .u32 (md : Int), .slice Ap lp.length cp, .slice Ao lo.length co, .int .u8 (e : Int), .int .u32 (mn : Int), .slice As ls.length cs] 52)).alloc (.cells #[.int .u8 205, .int .u8 1, .func (Fn.func 99) #[] #[], .func (Fn.func 100) #[] #[], .func (Fn.func 101) #[] #[]] 125)).alloc (.cells #[.int .u8 0, .int .u8 0, .slice none 0 0, .int .u8 0] 40) := ⟨_, rfl⟩
  have hs3 : w3.heap.size = w.heap.size + 1 + 1 + 1 := by rw [hw3]; simp
  have hK3 : Kp (fun _ => True) w w3 := hw3 ▸ (((Kp.refl _ _).alloc _).alloc _).alloc _
  have M3 : Blk w3 w.heap.size 52 #[.int .u8 s, .int .u32 (sd : Int), .int .u32 (md : Int), .slice Ap lp.length cp, .slice Ao lo.length co, .int .u8 (e : Int), .int .u32 (mn : Int), .slice As ls.length cs] := hw3 ▸ ((Blk.new w _ _).alloc _).alloc _
  have T3 : Blk w3 (w.heap.size + 1) 125 #[.int .u8 205, .int .u8 1, .func (Fn.func 99) #[] #[], .func (Fn.func 100) #[] #[], .func (Fn.func 101) #[] #[]] := by
    have := (Blk.new (w.alloc (.cells #[.int .u8 s, .int .u32 (sd : Int), .int .u32 (md : Int), .slice Ap lp.length cp, .slice Ao lo.length co, .int .u8 (e : Int), .int .u32 (mn : Int), .slice As ls.length cs] 52)) 125 #[.int .u8 205, .int .u8 1, .func (Fn.func 99) #[] #[], .func (Fn.func 100) #[] #[], .func (Fn.func 101) #[] #[]]).alloc (.cells #[.int .u8 0, .int .u8 0, .slice none 0 0, .int .u8 0] 40)
    rw [← hw3, World.size_alloc] at this
    exact this
  have Z3 : Blk w3 (w.heap.size + 1 + 1) 40 #[.int .u8 0, .int .u8 0, .slice none 0 0, .int .u8 0] := by
    have := Blk.new ((w.alloc (.cells #[.int .u8 s, .int .u32 (sd : Int), .int .u32 (md : Int), .slice Ap lp.length cp, .slice Ao lo.length co, .int .u8 (e : Int), .int .u32 (mn : Int), .slice As ls.length cs] 52)).alloc (.cells #[.int .u8 205, .int .u8 1, .func (Fn.func 99) #[] #[], .func (Fn.func 100) #[] #[], .func (Fn.func 101) #[] #[]] 125)) 40 #[.int .u8 0, .int .u8 0, .slice none 0 0, .int .u8 0]
    rw [← hw3, World.size_alloc, World.size_alloc] at this
    exact this
  have s3 : w3.drew.cell? ⟨w.heap.size, 1, none⟩ = some (.int .u32 (sd : Int)) ∧ w3.drew.cell? ⟨w.heap.size, 2, none⟩ = some (.int .u32 (md : Int)) := ⟨M3.cell 1, M3.cell 2⟩
  go_enter Try.func74, Try.ntmps74
  go_upto_region 1 with (fail)
  rw [← hw3]
  clear hw3
  go_region_held3 (fun W => W.cell? ⟨w.heap.size, 1, none⟩ = some (.int .u32 (sd : Int)) ∧ W.cell? ⟨w.heap.size, 2, none⟩ = some (.int .u32 (md : Int)))
    (first | exact s3 | exact s4 | exact s5 | exact s6)
    (first
      | (go_at_call 81; refine (new2 _).mono ?_; (rintro e_ wn ⟨rfl, hWn, hKn, hsn⟩); have hK4 := hK3.drew.trans hKn; have s4 := And.intro (hKn.cell_some s3.1 trivial) (hKn.cell_some s3.2 trivial); have M4 := M3.drew.kp hKn trivial; have T4 := T3.drew.kp hKn trivial; have Z4 := Z3.drew.kp hKn trivial; have hps : w3.drew.heap.size = w.heap.size + 1 + 1 + 1 := hs3; rw [hps] at hWn hsn; rw [hps]; have L4 : LW w wn w.heap.size (.slice none 0 0) := (⟨fun g hg => (by simp [Value.ownBlock] at hg), hK4.mono (fun _ _ _ => trivial), hK4.size⟩); have FM4 : Far wn (w.heap.size + 1 + 1 + 1) (.slice none 0 0) w.heap.size := (⟨by omega, by omega, by simp [Value.ownBlock]⟩); have FT4 : Far wn (w.heap.size + 1 + 1 + 1) (.slice none 0 0) (w.heap.size + 1) := (⟨by omega, by omega, by simp [Value.ownBlock]⟩); have FZ4 : Far wn (w.heap.size + 1 + 1 + 1) (.slice none 0 0) (w.heap.size + 1 + 1) := (⟨by omega, by omega, by simp [Value.ownBlock]⟩))
      | (go_at_call_of 84 (Value.int .u64 (sd : Int)); refine (put2 hWn _ sd rfl (by omega) _ 32 (pk_nat 32 (by omega)) (by simp)).mono ?_; (rintro e_ wp ⟨rfl, v4, hW4, hN4⟩); have s5 := And.intro (hN4.cell FM4 s4.1) (hN4.cell FM4 s4.2); have M5 := M4.kp hN4.1 FM4; have T5 := T4.kp hN4.1 FT4; have Z5 := Z4.kp hN4.1 FZ4; have FM5 := FM4.next hN4; have FT5 := FT4.next hN4; have FZ5 := FZ4.next hN4; have L4' := L4.next hN4 (by omega))
      | (go_at_call_of 84 (Value.int .u64 (md : Int)); refine (put2 hW4 _ md rfl (by omega) _ 32 (pk_nat 32 (by omega)) (by simp [ofn_length])).mono ?_; (rintro e_ w5 ⟨rfl, v5, hW5, hN5⟩); have s6 := And.intro (hN5.cell FM5 s5.1) (hN5.cell FM5 s5.2); have M6 := M5.kp hN5.1 FM5; have T6 := T5.kp hN5.1 FT5; have Z6 := Z5.kp hN5.1 FZ5; have FM6 := FM5.next hN5; have FT6 := FT5.next hN5; have FZ6 := FZ5.next hN5; have L5 := L4'.next hN5 (by omega)))
  have hnil : ∀ L : List Nat, [] ++ ofn sd 32 ++ ofn md 32 ++ L = ofn sd 32 ++ ofn md 32 ++ L := fun _ => rfl
  have cM := M6.cell
  have cT := T6.cell
  go_wp2_with fail
  refine (putPairs_any hW5 L5 (by omega) _ _ _ _ _ _ _ ⟨_, _, _, rfl⟩ ⟨_, _, _, rfl⟩ hP hop hlp (by simp [ofn_length])).mono ?_
  rintro e_ w6 ⟨rfl, v6, hW6, hN6⟩
  have T7 := T6.kp hN6.1 FT6
  have Z7 := Z6.kp hN6.1 FZ6
  have L7 := L5.next hN6 (by omega)
  clear cM cT
  have s7 : w6.drew.cell? ⟨w.heap.size + 1, 0, none⟩ = some (.int .u8 205) ∧ w6.drew.cell? ⟨w.heap.size + 1, 1, none⟩ = some (.int .u8 1) := ⟨T7.cell 0, T7.cell 1⟩
  have hne1 : w.heap.size + 1 ≠ w.heap.size + 1 + 1 := by omega
  have hlen : Hd (([] ++ ofn sd 32 ++ ofn md 32 ++ pairsD lp).length ≤ 1000000000000) := hd (by simp [ofn_length, pairsD_length]; omega)
  go_wp2_with fail
  go_region_held3 (fun W => W.cell? ⟨w.heap.size + 1, 0, none⟩ = some (.int .u8 205) ∧ W.cell? ⟨w.heap.size + 1, 1, none⟩ = some (.int .u8 1))
    (first | with_reducible exact s9 | exact s7 | exact s8)
    (first
      | (go_at_call 85; refine (out2 (hW6).drew hlen.out).mono ?_; (rintro e_ w8 ⟨v8, rfl, hO, hK8⟩); have s8 := And.intro (hK8.cell_some s7.1 trivial) (hK8.cell_some s7.2 trivial); have Z8 := Z7.drew.kp hK8 trivial; have c8 := Z8.cell; have f8 := Z8.frozen; obtain ⟨A8, n8, q8, rfl⟩ := own_slice' hO; have T9 := ((((T7.drew.kp hK8 trivial).far (p := ⟨w.heap.size + 1 + 1, 0, none⟩) hne1 (.int .u8 1)).far (p := ⟨w.heap.size + 1 + 1, 1, none⟩) hne1 (.int .u8 205)).far (p := ⟨w.heap.size + 1 + 1, 2, none⟩) hne1 (.slice A8 n8 q8)).far (p := ⟨w.heap.size + 1 + 1, 3, none⟩) hne1 (.int .u8 0); have s9 := blk_c2 T9 (a := .int .u8 205) (b := .int .u8 1) rfl rfl))
  all_goals
    have hB9 := ((((Z8.set 0 (.int .u8 1)).set 1 (.int .u8 205)).set 2 (.slice A8 n8 q8)).set 3 (.int .u8 0))
    simp only [List.setIfInBounds_toArray, List.set_cons_zero, List.set_cons_succ] at hB9
    go_wp2
    refine bodyPost_ret (results_c rfl _ _ (w.heap.size + 1 + 1) 40 _ (0, 0) _ rfl hB9 Try.underlying40 rfl (by kernel_rfl)) rfl ⟨_, rfl, ?_, ?_⟩
    · have hs6 := L7.size
      have hZl := Z7.lt
      exact own_lower (own_kp hO ((((Kp.refl (· ≠ w.heap.size + 1 + 1) w8).set_.set_).set_).set_) (fun g hg _ => Nat.ne_of_gt (Nat.lt_of_lt_of_le hZl hg))) L7.size
    · exact kp_far (kp_far (Kp.refl _ w) (L7.kp.drew.next hK8 (fun _ _ _ => trivial)) (fun k hk => hk)) ((((Kp.refl (· ≠ w.heap.size + 1 + 1) w8).set_.set_).set_).set_) (fun k hk => by omega)
set_option maxHeartbeats 2000000 in
set_option maxRecDepth 100000 in
theorem packet2_any {w : World} (s : Int) (sd md e mn : Nat) (hsd : sd < 4294967296) (hmd : md < 4294967296) (he : e < 256) (hmn : mn < 4294967296) {Ap Ao As : Option Addr} {cp co cs : Nat} {lp : List S82} {lo : List S134} {ls : List Int}
    (hP : Kd.C k82 w Ap lp.length lp) (hop : Ok2 lp) (hlp : lp.length ≤ 1000000) (hO : Kd.C k134 w Ao lo.length lo) (hoo : OkO lo) (hlo : lo.length ≤ 1000000) (hS : Kd.C (Kd.int .u32) w As ls.length ls) (hos : OkS ls) (hls : ls.length ≤ 1000000) :
    Calls Try.prog 74 #[.agg #[.int .u8 s, .int .u32 (sd : Int), .int .u32 (md : Int), .slice Ap lp.length cp, .slice Ao lo.length co, .int .u8 (e : Int), .int .u32 (mn : Int), .slice As ls.length cs], .agg #[.int .u8 206, .int .u8 1, .func (Fn.func 102) #[] #[], .func (Fn.func 103) #[] #[], .func (Fn.func 104) #[] #[]]] w fun e_ w' =>
      ∃ vb, e_ = .returned (.agg #[.int .u8 1, .int .u8 206, vb, .int .u8 0]) ∧ w'.ownsRow w.heap.size 5 1 vb (pack (ofn sd 32 ++ ofn md 32 ++ [])).length (bv (pack (ofn sd 32 ++ ofn md 32 ++ []))) ∧ Kp (fun _ => True) w w' := by
  have hw1 : IntKind.u64.wrap (sd : Int) = sd := IntWalk.u64_in _ (by omega)
  have hw2 : IntKind.u64.wrap (md : Int) = md := IntWalk.u64_in _ (by omega)
  obtain ⟨w3, hw3⟩ : ∃ w3, w3 = ((w.alloc (.cells #[.int .u8 s, .int .u32 (sd : Int), .int .u32 (md : Int), .slice Ap lp.length cp, .slice Ao lo.length co, .int .u8 (e : Int), .int .u32 (mn : Int), .slice As ls.length cs] 52)).alloc (.cells #[.int .u8 206, .int .u8 1, .func (Fn.func 102) #[] #[], .func (Fn.func 103) #[] #[], .func (Fn.func 104) #[] #[]] 125)).alloc (.cells #[.int .u8 0, .int .u8 0, .slice none 0 0, .int .u8 0] 40) := ⟨_, rfl⟩
  have hs3 : w3.heap.size = w.heap.size + 1 + 1 + 1 := by rw [hw3]; simp
  have hK3 : Kp (fun _ => True) w w3 := hw3 ▸ (((Kp.refl _ _).alloc _).alloc _).alloc _
  have M3 : Blk w3 w.heap.size 52 #[.int .u8 s, .int .u32 (sd : Int), .int .u32 (md : Int), .slice Ap lp.length cp, .slice Ao lo.length co, .int .u8 (e : Int), .int .u32 (mn : Int), .slice As ls.length cs] := hw3 ▸ ((Blk.new w _ _).alloc _).alloc _
  have T3 : Blk w3 (w.heap.size + 1) 125 #[.int .u8 206, .int .u8 1, .func (Fn.func 102) #[] #[], .func (Fn.func 103) #[] #[], .func (Fn.func 104) #[] #[]] := by
    have := (Blk.new (w.alloc (.cells #[.int .u8 s, .int .u32 (sd : Int), .int .u32 (md : Int), .slice Ap lp.length cp, .slice Ao lo.length co, .int .u8 (e : Int), .int .u32 (mn : Int), .slice As ls.length cs] 52)) 125 #[.int .u8 206, .int .u8 1, .func (Fn.func 102) #[] #[], .func (Fn.func 103) #[] #[], .func (Fn.func 104) #[] #[]]).alloc (.cells #[.int .u8 0, .int .u8 0, .slice none 0 0, .int .u8 0] 40)
    rw [← hw3, World.size_alloc] at this
    exact this
  have Z3 : Blk w3 (w.heap.size + 1 + 1) 40 #[.int .u8 0, .int .u8 0, .slice none 0 0, .int .u8 0] := by
    have := Blk.new ((w.alloc (.cells #[.int .u8 s, .int .u32 (sd : Int), .int .u32 (md : Int), .slice Ap lp.length cp, .slice Ao lo.length co, .int .u8 (e : Int), .int .u32 (mn : Int), .slice As ls.length cs] 52)).alloc (.cells #[.int .u8 206, .int .u8 1, .func (Fn.func 102) #[] #[], .func (Fn.func 103) #[] #[], .func (Fn.func 104) #[] #[]] 125)) 40 #[.int .u8 0, .int .u8 0, .slice none 0 0, .int .u8 0]
    rw [← hw3, World.size_alloc, World.size_alloc] at this
    exact this
  have s3 : w3.drew.cell? ⟨w.heap.size, 1, none⟩ = some (.int .u32 (sd : Int)) ∧ w3.drew.cell? ⟨w.heap.size, 2, none⟩ = some (.int .u32 (md : Int)) := ⟨M3.cell 1, M3.cell 2⟩
  go_enter Try.func74, Try.ntmps74
  go_upto_region 1 with (fail)
  rw [← hw3]
  clear hw3
  go_region_held3 (fun W => W.cell? ⟨w.heap.size, 1, none⟩ = some (.int .u32 (sd : Int)) ∧ W.cell? ⟨w.heap.size, 2, none⟩ = some (.int .u32 (md : Int)))
    (first | exact s3 | exact s4 | exact s5 | exact s6)
    (first
      | (go_at_call 81; refine (new2 _).mono ?_; (rintro e_ wn ⟨rfl, hWn, hKn, hsn⟩); have hK4 := hK3.drew.trans hKn; have s4 := And.intro (hKn.cell_some s3.1 trivial) (hKn.cell_some s3.2 trivial); have M4 := M3.drew.kp hKn trivial; have T4 := T3.drew.kp hKn trivial; have Z4 := Z3.drew.kp hKn trivial; have hps : w3.drew.heap.size = w.heap.size + 1 + 1 + 1 := hs3; rw [hps] at hWn hsn; rw [hps]; have L4 : LW w wn w.heap.size (.slice none 0 0) := (⟨fun g hg => (by simp [Value.ownBlock] at hg), hK4.mono (fun _ _ _ => trivial), hK4.size⟩); have FM4 : Far wn (w.heap.size + 1 + 1 + 1) (.slice none 0 0) w.heap.size := (⟨by omega, by omega, by simp [Value.ownBlock]⟩); have FT4 : Far wn (w.heap.size + 1 + 1 + 1) (.slice none 0 0) (w.heap.size + 1) := (⟨by omega, by omega, by simp [Value.ownBlock]⟩); have FZ4 : Far wn (w.heap.size + 1 + 1 + 1) (.slice none 0 0) (w.heap.size + 1 + 1) := (⟨by omega, by omega, by simp [Value.ownBlock]⟩))
      | (go_at_call_of 84 (Value.int .u64 (sd : Int)); refine (put2 hWn _ sd rfl (by omega) _ 32 (pk_nat 32 (by omega)) (by simp)).mono ?_; (rintro e_ wp ⟨rfl, v4, hW4, hN4⟩); have s5 := And.intro (hN4.cell FM4 s4.1) (hN4.cell FM4 s4.2); have M5 := M4.kp hN4.1 FM4; have T5 := T4.kp hN4.1 FT4; have Z5 := Z4.kp hN4.1 FZ4; have FM5 := FM4.next hN4; have FT5 := FT4.next hN4; have FZ5 := FZ4.next hN4; have L4' := L4.next hN4 (by omega))
      | (go_at_call_of 84 (Value.int .u64 (md : Int)); refine (put2 hW4 _ md rfl (by omega) _ 32 (pk_nat 32 (by omega)) (by simp [ofn_length])).mono ?_; (rintro e_ w5 ⟨rfl, v5, hW5, hN5⟩); have s6 := And.intro (hN5.cell FM5 s5.1) (hN5.cell FM5 s5.2); have M6 := M5.kp hN5.1 FM5; have T6 := T5.kp hN5.1 FT5; have Z6 := Z5.kp hN5.1 FZ5; have FM6 := FM5.next hN5; have FT6 := FT5.next hN5; have FZ6 := FZ5.next hN5; have L5 := L4'.next hN5 (by omega)))
  have hnil : ∀ L : List Nat, [] ++ ofn sd 32 ++ ofn md 32 ++ L = ofn sd 32 ++ ofn md 32 ++ L := fun _ => rfl
  have cM := M6.cell
  have cT := T6.cell
  go_wp2_with fail
  refine (putNothing_any hW5 _ _ rfl ⟨_, _, _, _, _, _, _, _, _, _, _, _, _, _, rfl⟩).mono ?_
  rintro e_ w6 ⟨rfl, v6, hW6, hN6⟩
  have T7 := T6.kp hN6.1 FT6
  have Z7 := Z6.kp hN6.1 FZ6
  have L7 := L5.next hN6 (by omega)
  clear cM cT
  have s7 : w6.drew.cell? ⟨w.heap.size + 1, 0, none⟩ = some (.int .u8 206) ∧ w6.drew.cell? ⟨w.heap.size + 1, 1, none⟩ = some (.int .u8 1) := ⟨T7.cell 0, T7.cell 1⟩
  have hne1 : w.heap.size + 1 ≠ w.heap.size + 1 + 1 := by omega
  have hlen : Hd (([] ++ ofn sd 32 ++ ofn md 32 ++ []).length ≤ 1000000000000) := hd (by simp [ofn_length])
  go_wp2_with fail
  go_region_held3 (fun W => W.cell? ⟨w.heap.size + 1, 0, none⟩ = some (.int .u8 206) ∧ W.cell? ⟨w.heap.size + 1, 1, none⟩ = some (.int .u8 1))
    (first | with_reducible exact s9 | exact s7 | exact s8)
    (first
      | (go_at_call 85; refine (out2 (hW6).drew hlen.out).mono ?_; (rintro e_ w8 ⟨v8, rfl, hO, hK8⟩); have s8 := And.intro (hK8.cell_some s7.1 trivial) (hK8.cell_some s7.2 trivial); have Z8 := Z7.drew.kp hK8 trivial; have c8 := Z8.cell; have f8 := Z8.frozen; obtain ⟨A8, n8, q8, rfl⟩ := own_slice' hO; have T9 := ((((T7.drew.kp hK8 trivial).far (p := ⟨w.heap.size + 1 + 1, 0, none⟩) hne1 (.int .u8 1)).far (p := ⟨w.heap.size + 1 + 1, 1, none⟩) hne1 (.int .u8 206)).far (p := ⟨w.heap.size + 1 + 1, 2, none⟩) hne1 (.slice A8 n8 q8)).far (p := ⟨w.heap.size + 1 + 1, 3, none⟩) hne1 (.int .u8 0); have s9 := blk_c2 T9 (a := .int .u8 206) (b := .int .u8 1) rfl rfl))
  all_goals
    have hB9 := ((((Z8.set 0 (.int .u8 1)).set 1 (.int .u8 206)).set 2 (.slice A8 n8 q8)).set 3 (.int .u8 0))
    simp only [List.setIfInBounds_toArray, List.set_cons_zero, List.set_cons_succ] at hB9
    go_wp2
    refine bodyPost_ret (results_c rfl _ _ (w.heap.size + 1 + 1) 40 _ (0, 0) _ rfl hB9 Try.underlying40 rfl (by kernel_rfl)) rfl ⟨_, rfl, ?_, ?_⟩
    · have hs6 := L7.size
      have hZl := Z7.lt
      exact own_lower (own_kp hO ((((Kp.refl (· ≠ w.heap.size + 1 + 1) w8).set_.set_).set_).set_) (fun g hg _ => Nat.ne_of_gt (Nat.lt_of_lt_of_le hZl hg))) L7.size
    · exact kp_far (kp_far (Kp.refl _ w) (L7.kp.drew.next hK8 (fun _ _ _ => trivial)) (fun k hk => hk)) ((((Kp.refl (· ≠ w.heap.size + 1 + 1) w8).set_.set_).set_).set_) (fun k hk => by omega)
set_option maxHeartbeats 2000000 in
set_option maxRecDepth 100000 in
theorem packet3_any {w : World} (s : Int) (sd md e mn : Nat) (hsd : sd < 4294967296) (hmd : md < 4294967296) (he : e < 256) (hmn : mn < 4294967296) {Ap Ao As : Option Addr} {cp co cs : Nat} {lp : List S82} {lo : List S134} {ls : List Int}
    (hP : Kd.C k82 w Ap lp.length lp) (hop : Ok2 lp) (hlp : lp.length ≤ 1000000) (hO : Kd.C k134 w Ao lo.length lo) (hoo : OkO lo) (hlo : lo.length ≤ 1000000) (hS : Kd.C (Kd.int .u32) w As ls.length ls) (hos : OkS ls) (hls : ls.length ≤ 1000000) :
    Calls Try.prog 74 #[.agg #[.int .u8 s, .int .u32 (sd : Int), .int .u32 (md : Int), .slice Ap lp.length cp, .slice Ao lo.length co, .int .u8 (e : Int), .int .u32 (mn : Int), .slice As ls.length cs], .agg #[.int .u8 206, .int .u8 4, .func (Fn.func 105) #[] #[], .func (Fn.func 106) #[] #[], .func (Fn.func 107) #[] #[]]] w fun e_ w' =>
      ∃ vb, e_ = .returned (.agg #[.int .u8 4, .int .u8 206, vb, .int .u8 0]) ∧ w'.ownsRow w.heap.size 5 1 vb (pack (ofn sd 32 ++ ofn md 32 ++ ordersD lo)).length (bv (pack (ofn sd 32 ++ ofn md 32 ++ ordersD lo))) ∧ Kp (fun _ => True) w w' := by
  have hw1 : IntKind.u64.wrap (sd : Int) = sd := IntWalk.u64_in _ (by omega)
  have hw2 : IntKind.u64.wrap (md : Int) = md := IntWalk.u64_in _ (by omega)
  obtain ⟨w3, hw3⟩ : ∃ w3, w3 = ((w.alloc (.cells #[.int .u8 s, .int .u32 (sd : Int), .int .u32 (md : Int), .slice Ap lp.length cp, .slice Ao lo.length co, .int .u8 (e : Int), .int .u32 (mn : Int), .slice As ls.length cs] 52)).alloc (.cells #[.int .u8 206, .int .u8 4, .func (Fn.func 105) #[] #[], .func (Fn.func 106) #[] #[], .func (Fn.func 107) #[] #[]] 125)).alloc (.cells #[.int .u8 0, .int .u8 0, .slice none 0 0, .int .u8 0] 40) := ⟨_, rfl⟩
  have hs3 : w3.heap.size = w.heap.size + 1 + 1 + 1 := by rw [hw3]; simp
  have hK3 : Kp (fun _ => True) w w3 := hw3 ▸ (((Kp.refl _ _).alloc _).alloc _).alloc _
  have M3 : Blk w3 w.heap.size 52 #[.int .u8 s, .int .u32 (sd : Int), .int .u32 (md : Int), .slice Ap lp.length cp, .slice Ao lo.length co, .int .u8 (e : Int), .int .u32 (mn : Int), .slice As ls.length cs] := hw3 ▸ ((Blk.new w _ _).alloc _).alloc _
  have T3 : Blk w3 (w.heap.size + 1) 125 #[.int .u8 206, .int .u8 4, .func (Fn.func 105) #[] #[], .func (Fn.func 106) #[] #[], .func (Fn.func 107) #[] #[]] := by
    have := (Blk.new (w.alloc (.cells #[.int .u8 s, .int .u32 (sd : Int), .int .u32 (md : Int), .slice Ap lp.length cp, .slice Ao lo.length co, .int .u8 (e : Int), .int .u32 (mn : Int), .slice As ls.length cs] 52)) 125 #[.int .u8 206, .int .u8 4, .func (Fn.func 105) #[] #[], .func (Fn.func 106) #[] #[], .func (Fn.func 107) #[] #[]]).alloc (.cells #[.int .u8 0, .int .u8 0, .slice none 0 0, .int .u8 0] 40)
    rw [← hw3, World.size_alloc] at this
    exact this
  have Z3 : Blk w3 (w.heap.size + 1 + 1) 40 #[.int .u8 0, .int .u8 0, .slice none 0 0, .int .u8 0] := by
    have := Blk.new ((w.alloc (.cells #[.int .u8 s, .int .u32 (sd : Int), .int .u32 (md : Int), .slice Ap lp.length cp, .slice Ao lo.length co, .int .u8 (e : Int), .int .u32 (mn : Int), .slice As ls.length cs] 52)).alloc (.cells #[.int .u8 206, .int .u8 4, .func (Fn.func 105) #[] #[], .func (Fn.func 106) #[] #[], .func (Fn.func 107) #[] #[]] 125)) 40 #[.int .u8 0, .int .u8 0, .slice none 0 0, .int .u8 0]
    rw [← hw3, World.size_alloc, World.size_alloc] at this
    exact this
  have s3 : w3.drew.cell? ⟨w.heap.size, 1, none⟩ = some (.int .u32 (sd : Int)) ∧ w3.drew.cell? ⟨w.heap.size, 2, none⟩ = some (.int .u32 (md : Int)) := ⟨M3.cell 1, M3.cell 2⟩
  go_enter Try.func74, Try.ntmps74
  go_upto_region 1 with (fail)
  rw [← hw3]
  clear hw3
  go_region_held3 (fun W => W.cell? ⟨w.heap.size, 1, none⟩ = some (.int .u32 (sd : Int)) ∧ W.cell? ⟨w.heap.size, 2, none⟩ = some (.int .u32 (md : Int)))
    (first | exact s3 | exact s4 | exact s5 | exact s6)
    (first
      | (go_at_call 81; refine (new2 _).mono ?_; (rintro e_ wn ⟨rfl, hWn, hKn, hsn⟩); have hK4 := hK3.drew.trans hKn; have s4 := And.intro (hKn.cell_some s3.1 trivial) (hKn.cell_some s3.2 trivial); have M4 := M3.drew.kp hKn trivial; have T4 := T3.drew.kp hKn trivial; have Z4 := Z3.drew.kp hKn trivial; have hps : w3.drew.heap.size = w.heap.size + 1 + 1 + 1 := hs3; rw [hps] at hWn hsn; rw [hps]; have L4 : LW w wn w.heap.size (.slice none 0 0) := (⟨fun g hg => (by simp [Value.ownBlock] at hg), hK4.mono (fun _ _ _ => trivial), hK4.size⟩); have FM4 : Far wn (w.heap.size + 1 + 1 + 1) (.slice none 0 0) w.heap.size := (⟨by omega, by omega, by simp [Value.ownBlock]⟩); have FT4 : Far wn (w.heap.size + 1 + 1 + 1) (.slice none 0 0) (w.heap.size + 1) := (⟨by omega, by omega, by simp [Value.ownBlock]⟩); have FZ4 : Far wn (w.heap.size + 1 + 1 + 1) (.slice none 0 0) (w.heap.size + 1 + 1) := (⟨by omega, by omega, by simp [Value.ownBlock]⟩))
      | (go_at_call_of 84 (Value.int .u64 (sd : Int)); refine (put2 hWn _ sd rfl (by omega) _ 32 (pk_nat 32 (by omega)) (by simp)).mono ?_; (rintro e_ wp ⟨rfl, v4, hW4, hN4⟩); have s5 := And.intro (hN4.cell FM4 s4.1) (hN4.cell FM4 s4.2); have M5 := M4.kp hN4.1 FM4; have T5 := T4.kp hN4.1 FT4; have Z5 := Z4.kp hN4.1 FZ4; have FM5 := FM4.next hN4; have FT5 := FT4.next hN4; have FZ5 := FZ4.next hN4; have L4' := L4.next hN4 (by omega))
      | (go_at_call_of 84 (Value.int .u64 (md : Int)); refine (put2 hW4 _ md rfl (by omega) _ 32 (pk_nat 32 (by omega)) (by simp [ofn_length])).mono ?_; (rintro e_ w5 ⟨rfl, v5, hW5, hN5⟩); have s6 := And.intro (hN5.cell FM5 s5.1) (hN5.cell FM5 s5.2); have M6 := M5.kp hN5.1 FM5; have T6 := T5.kp hN5.1 FT5; have Z6 := Z5.kp hN5.1 FZ5; have FM6 := FM5.next hN5; have FT6 := FT5.next hN5; have FZ6 := FZ5.next hN5; have L5 := L4'.next hN5 (by omega)))
  have hnil : ∀ L : List Nat, [] ++ ofn sd 32 ++ ofn md 32 ++ L = ofn sd 32 ++ ofn md 32 ++ L := fun _ => rfl
  have cM := M6.cell
  have cT := T6.cell
  go_wp2_with fail
  refine (putOrders_any hW5 L5 (by omega) _ _ _ _ _ _ _ ⟨_, _, _, rfl⟩ ⟨_, _, _, rfl⟩ hO hoo hlo (by simp [ofn_length])).mono ?_
  rintro e_ w6 ⟨rfl, v6, hW6, hN6⟩
  have T7 := T6.kp hN6.1 FT6
  have Z7 := Z6.kp hN6.1 FZ6
  have L7 := L5.next hN6 (by omega)
  clear cM cT
  have s7 : w6.drew.cell? ⟨w.heap.size + 1, 0, none⟩ = some (.int .u8 206) ∧ w6.drew.cell? ⟨w.heap.size + 1, 1, none⟩ = some (.int .u8 4) := ⟨T7.cell 0, T7.cell 1⟩
  have hne1 : w.heap.size + 1 ≠ w.heap.size + 1 + 1 := by omega
  have hlen : Hd (([] ++ ofn sd 32 ++ ofn md 32 ++ ordersD lo).length ≤ 1000000000000) := hd (by simp [ofn_length, ordersD_length]; omega)
  go_wp2_with fail
  go_region_held3 (fun W => W.cell? ⟨w.heap.size + 1, 0, none⟩ = some (.int .u8 206) ∧ W.cell? ⟨w.heap.size + 1, 1, none⟩ = some (.int .u8 4))
    (first | with_reducible exact s9 | exact s7 | exact s8)
    (first
      | (go_at_call 85; refine (out2 (hW6).drew hlen.out).mono ?_; (rintro e_ w8 ⟨v8, rfl, hO, hK8⟩); have s8 := And.intro (hK8.cell_some s7.1 trivial) (hK8.cell_some s7.2 trivial); have Z8 := Z7.drew.kp hK8 trivial; have c8 := Z8.cell; have f8 := Z8.frozen; obtain ⟨A8, n8, q8, rfl⟩ := own_slice' hO; have T9 := ((((T7.drew.kp hK8 trivial).far (p := ⟨w.heap.size + 1 + 1, 0, none⟩) hne1 (.int .u8 4)).far (p := ⟨w.heap.size + 1 + 1, 1, none⟩) hne1 (.int .u8 206)).far (p := ⟨w.heap.size + 1 + 1, 2, none⟩) hne1 (.slice A8 n8 q8)).far (p := ⟨w.heap.size + 1 + 1, 3, none⟩) hne1 (.int .u8 0); have s9 := blk_c2 T9 (a := .int .u8 206) (b := .int .u8 4) rfl rfl))
  all_goals
    have hB9 := ((((Z8.set 0 (.int .u8 4)).set 1 (.int .u8 206)).set 2 (.slice A8 n8 q8)).set 3 (.int .u8 0))
    simp only [List.setIfInBounds_toArray, List.set_cons_zero, List.set_cons_succ] at hB9
    go_wp2
    refine bodyPost_ret (results_c rfl _ _ (w.heap.size + 1 + 1) 40 _ (0, 0) _ rfl hB9 Try.underlying40 rfl (by kernel_rfl)) rfl ⟨_, rfl, ?_, ?_⟩
    · have hs6 := L7.size
      have hZl := Z7.lt
      exact own_lower (own_kp hO ((((Kp.refl (· ≠ w.heap.size + 1 + 1) w8).set_.set_).set_).set_) (fun g hg _ => Nat.ne_of_gt (Nat.lt_of_lt_of_le hZl hg))) L7.size
    · exact kp_far (kp_far (Kp.refl _ w) (L7.kp.drew.next hK8 (fun _ _ _ => trivial)) (fun k hk => hk)) ((((Kp.refl (· ≠ w.heap.size + 1 + 1) w8).set_.set_).set_).set_) (fun k hk => by omega)
set_option maxHeartbeats 2000000 in
set_option maxRecDepth 100000 in
theorem packet4_any {w : World} (s : Int) (sd md e mn : Nat) (hsd : sd < 4294967296) (hmd : md < 4294967296) (he : e < 256) (hmn : mn < 4294967296) {Ap Ao As : Option Addr} {cp co cs : Nat} {lp : List S82} {lo : List S134} {ls : List Int}
    (hP : Kd.C k82 w Ap lp.length lp) (hop : Ok2 lp) (hlp : lp.length ≤ 1000000) (hO : Kd.C k134 w Ao lo.length lo) (hoo : OkO lo) (hlo : lo.length ≤ 1000000) (hS : Kd.C (Kd.int .u32) w As ls.length ls) (hos : OkS ls) (hls : ls.length ≤ 1000000) :
    Calls Try.prog 74 #[.agg #[.int .u8 s, .int .u32 (sd : Int), .int .u32 (md : Int), .slice Ap lp.length cp, .slice Ao lo.length co, .int .u8 (e : Int), .int .u32 (mn : Int), .slice As ls.length cs], .agg #[.int .u8 206, .int .u8 15, .func (Fn.func 108) #[] #[], .func (Fn.func 109) #[] #[], .func (Fn.func 104) #[] #[]]] w fun e_ w' =>
      ∃ vb, e_ = .returned (.agg #[.int .u8 15, .int .u8 206, vb, .int .u8 0]) ∧ w'.ownsRow w.heap.size 5 1 vb (pack (ofn sd 32 ++ ofn md 32 ++ rateD e mn ls)).length (bv (pack (ofn sd 32 ++ ofn md 32 ++ rateD e mn ls))) ∧ Kp (fun _ => True) w w' := by
  have hw1 : IntKind.u64.wrap (sd : Int) = sd := IntWalk.u64_in _ (by omega)
  have hw2 : IntKind.u64.wrap (md : Int) = md := IntWalk.u64_in _ (by omega)
  obtain ⟨w3, hw3⟩ : ∃ w3, w3 = ((w.alloc (.cells #[.int .u8 s, .int .u32 (sd : Int), .int .u32 (md : Int), .slice Ap lp.length cp, .slice Ao lo.length co, .int .u8 (e : Int), .int .u32 (mn : Int), .slice As ls.length cs] 52)).alloc (.cells #[.int .u8 206, .int .u8 15, .func (Fn.func 108) #[] #[], .func (Fn.func 109) #[] #[], .func (Fn.func 104) #[] #[]] 125)).alloc (.cells #[.int .u8 0, .int .u8 0, .slice none 0 0, .int .u8 0] 40) := ⟨_, rfl⟩
  have hs3 : w3.heap.size = w.heap.size + 1 + 1 + 1 := by rw [hw3]; simp
  have hK3 : Kp (fun _ => True) w w3 := hw3 ▸ (((Kp.refl _ _).alloc _).alloc _).alloc _
  have M3 : Blk w3 w.heap.size 52 #[.int .u8 s, .int .u32 (sd : Int), .int .u32 (md : Int), .slice Ap lp.length cp, .slice Ao lo.length co, .int .u8 (e : Int), .int .u32 (mn : Int), .slice As ls.length cs] := hw3 ▸ ((Blk.new w _ _).alloc _).alloc _
  have T3 : Blk w3 (w.heap.size + 1) 125 #[.int .u8 206, .int .u8 15, .func (Fn.func 108) #[] #[], .func (Fn.func 109) #[] #[], .func (Fn.func 104) #[] #[]] := by
    have := (Blk.new (w.alloc (.cells #[.int .u8 s, .int .u32 (sd : Int), .int .u32 (md : Int), .slice Ap lp.length cp, .slice Ao lo.length co, .int .u8 (e : Int), .int .u32 (mn : Int), .slice As ls.length cs] 52)) 125 #[.int .u8 206, .int .u8 15, .func (Fn.func 108) #[] #[], .func (Fn.func 109) #[] #[], .func (Fn.func 104) #[] #[]]).alloc (.cells #[.int .u8 0, .int .u8 0, .slice none 0 0, .int .u8 0] 40)
    rw [← hw3, World.size_alloc] at this
    exact this
  have Z3 : Blk w3 (w.heap.size + 1 + 1) 40 #[.int .u8 0, .int .u8 0, .slice none 0 0, .int .u8 0] := by
    have := Blk.new ((w.alloc (.cells #[.int .u8 s, .int .u32 (sd : Int), .int .u32 (md : Int), .slice Ap lp.length cp, .slice Ao lo.length co, .int .u8 (e : Int), .int .u32 (mn : Int), .slice As ls.length cs] 52)).alloc (.cells #[.int .u8 206, .int .u8 15, .func (Fn.func 108) #[] #[], .func (Fn.func 109) #[] #[], .func (Fn.func 104) #[] #[]] 125)) 40 #[.int .u8 0, .int .u8 0, .slice none 0 0, .int .u8 0]
    rw [← hw3, World.size_alloc, World.size_alloc] at this
    exact this
  have s3 : w3.drew.cell? ⟨w.heap.size, 1, none⟩ = some (.int .u32 (sd : Int)) ∧ w3.drew.cell? ⟨w.heap.size, 2, none⟩ = some (.int .u32 (md : Int)) := ⟨M3.cell 1, M3.cell 2⟩
  go_enter Try.func74, Try.ntmps74
  go_upto_region 1 with (fail)
  rw [← hw3]
  clear hw3
  go_region_held3 (fun W => W.cell? ⟨w.heap.size, 1, none⟩ = some (.int .u32 (sd : Int)) ∧ W.cell? ⟨w.heap.size, 2, none⟩ = some (.int .u32 (md : Int)))
    (first | exact s3 | exact s4 | exact s5 | exact s6)
    (first
      | (go_at_call 81; refine (new2 _).mono ?_; (rintro e_ wn ⟨rfl, hWn, hKn, hsn⟩); have hK4 := hK3.drew.trans hKn; have s4 := And.intro (hKn.cell_some s3.1 trivial) (hKn.cell_some s3.2 trivial); have M4 := M3.drew.kp hKn trivial; have T4 := T3.drew.kp hKn trivial; have Z4 := Z3.drew.kp hKn trivial; have hps : w3.drew.heap.size = w.heap.size + 1 + 1 + 1 := hs3; rw [hps] at hWn hsn; rw [hps]; have L4 : LW w wn w.heap.size (.slice none 0 0) := (⟨fun g hg => (by simp [Value.ownBlock] at hg), hK4.mono (fun _ _ _ => trivial), hK4.size⟩); have FM4 : Far wn (w.heap.size + 1 + 1 + 1) (.slice none 0 0) w.heap.size := (⟨by omega, by omega, by simp [Value.ownBlock]⟩); have FT4 : Far wn (w.heap.size + 1 + 1 + 1) (.slice none 0 0) (w.heap.size + 1) := (⟨by omega, by omega, by simp [Value.ownBlock]⟩); have FZ4 : Far wn (w.heap.size + 1 + 1 + 1) (.slice none 0 0) (w.heap.size + 1 + 1) := (⟨by omega, by omega, by simp [Value.ownBlock]⟩))
      | (go_at_call_of 84 (Value.int .u64 (sd : Int)); refine (put2 hWn _ sd rfl (by omega) _ 32 (pk_nat 32 (by omega)) (by simp)).mono ?_; (rintro e_ wp ⟨rfl, v4, hW4, hN4⟩); have s5 := And.intro (hN4.cell FM4 s4.1) (hN4.cell FM4 s4.2); have M5 := M4.kp hN4.1 FM4; have T5 := T4.kp hN4.1 FT4; have Z5 := Z4.kp hN4.1 FZ4; have FM5 := FM4.next hN4; have FT5 := FT4.next hN4; have FZ5 := FZ4.next hN4; have L4' := L4.next hN4 (by omega))
      | (go_at_call_of 84 (Value.int .u64 (md : Int)); refine (put2 hW4 _ md rfl (by omega) _ 32 (pk_nat 32 (by omega)) (by simp [ofn_length])).mono ?_; (rintro e_ w5 ⟨rfl, v5, hW5, hN5⟩); have s6 := And.intro (hN5.cell FM5 s5.1) (hN5.cell FM5 s5.2); have M6 := M5.kp hN5.1 FM5; have T6 := T5.kp hN5.1 FT5; have Z6 := Z5.kp hN5.1 FZ5; have FM6 := FM5.next hN5; have FT6 := FT5.next hN5; have FZ6 := FZ5.next hN5; have L5 := L4'.next hN5 (by omega)))
  have hnil : ∀ L : List Nat, [] ++ ofn sd 32 ++ ofn md 32 ++ L = ofn sd 32 ++ ofn md 32 ++ L := fun _ => rfl
  have cM := M6.cell
  have cT := T6.cell
  go_wp2_with fail
  refine (putRate_any hW5 L5 (by omega) _ _ _ e mn _ _ ⟨_, _, _, rfl⟩ ⟨_, _, _, rfl⟩ he hmn hS hos hls (by simp [ofn_length])).mono ?_
  rintro e_ w6 ⟨rfl, v6, hW6, hN6⟩
  have T7 := T6.kp hN6.1 FT6
  have Z7 := Z6.kp hN6.1 FZ6
  have L7 := L5.next hN6 (by omega)
  clear cM cT
  have s7 : w6.drew.cell? ⟨w.heap.size + 1, 0, none⟩ = some (.int .u8 206) ∧ w6.drew.cell? ⟨w.heap.size + 1, 1, none⟩ = some (.int .u8 15) := ⟨T7.cell 0, T7.cell 1⟩
  have hne1 : w.heap.size + 1 ≠ w.heap.size + 1 + 1 := by omega
  have hlen : Hd (([] ++ ofn sd 32 ++ ofn md 32 ++ rateD e mn ls).length ≤ 1000000000000) := hd (by simp [ofn_length, sourcesD_length, rateD]; omega)
  go_wp2_with fail
  go_region_held3 (fun W => W.cell? ⟨w.heap.size + 1, 0, none⟩ = some (.int .u8 206) ∧ W.cell? ⟨w.heap.size + 1, 1, none⟩ = some (.int .u8 15))
    (first | with_reducible exact s9 | exact s7 | exact s8)
    (first
      | (go_at_call 85; refine (out2 (hW6).drew hlen.out).mono ?_; (rintro e_ w8 ⟨v8, rfl, hO, hK8⟩); have s8 := And.intro (hK8.cell_some s7.1 trivial) (hK8.cell_some s7.2 trivial); have Z8 := Z7.drew.kp hK8 trivial; have c8 := Z8.cell; have f8 := Z8.frozen; obtain ⟨A8, n8, q8, rfl⟩ := own_slice' hO; have T9 := ((((T7.drew.kp hK8 trivial).far (p := ⟨w.heap.size + 1 + 1, 0, none⟩) hne1 (.int .u8 15)).far (p := ⟨w.heap.size + 1 + 1, 1, none⟩) hne1 (.int .u8 206)).far (p := ⟨w.heap.size + 1 + 1, 2, none⟩) hne1 (.slice A8 n8 q8)).far (p := ⟨w.heap.size + 1 + 1, 3, none⟩) hne1 (.int .u8 0); have s9 := blk_c2 T9 (a := .int .u8 206) (b := .int .u8 15) rfl rfl))
  all_goals
    have hB9 := ((((Z8.set 0 (.int .u8 15)).set 1 (.int .u8 206)).set 2 (.slice A8 n8 q8)).set 3 (.int .u8 0))
    simp only [List.setIfInBounds_toArray, List.set_cons_zero, List.set_cons_succ] at hB9
    go_wp2
    refine bodyPost_ret (results_c rfl _ _ (w.heap.size + 1 + 1) 40 _ (0, 0) _ rfl hB9 Try.underlying40 rfl (by kernel_rfl)) rfl ⟨_, rfl, ?_, ?_⟩
    · have hs6 := L7.size
      have hZl := Z7.lt
      exact own_lower (own_kp hO ((((Kp.refl (· ≠ w.heap.size + 1 + 1) w8).set_.set_).set_).set_) (fun g hg _ => Nat.ne_of_gt (Nat.lt_of_lt_of_le hZl hg))) L7.size
    · exact kp_far (kp_far (Kp.refl _ w) (L7.kp.drew.next hK8 (fun _ _ _ => trivial)) (fun k hk => hk)) ((((Kp.refl (· ≠ w.heap.size + 1 + 1) w8).set_.set_).set_).set_) (fun k hk => by omega)
end Go.Proofs.Ytjcejgolcdgipaa.K7
