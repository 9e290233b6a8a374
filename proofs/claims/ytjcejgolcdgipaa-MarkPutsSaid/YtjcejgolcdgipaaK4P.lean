/- Chapter 04, plain. No walk. -/
import Derived.Test.YtjcejgolcdgipaaK4O
import Derived.Test.YtjcejgolcdgipaaK4x5
import Derived.Test.YtjcejgolcdgipaaK4x3
namespace Go.Proofs.Ytjcejgolcdgipaa.K4
open Go.RowKit Go.Proofs.YtjcejgolcdgipaaW.PrintWords Go.Proofs.YtjcejgolcdgipaaW.PrintLast Go.Proofs.YtjcejgolcdgipaaW.PrintMore
set_option linter.unusedVariables false
set_option linter.unusedSimpArgs false
theorem mark_right_f (s e i d l b : Bool) (t li tl : Nat) : mark_Right.f s e i d l b (t : Int) (li : Int) (tl : Int) = some (rightB l b t li tl) := by
  unfold mark_Right.f rightB
  by_cases ht : t ≤ 7
  · rw [if_pos (by omega)]
    have c (x : Nat) : ((x : Int) == 0) = (x == 0) := by rw [Bool.eq_iff_iff, beq_iff_eq, beq_iff_eq]; omega
    cases l
    · rw [if_neg (by decide), c, c, c]
      simp [ht]
    · rw [if_pos rfl]
      simp [ht]
  · rw [if_neg (by omega)]
    simp [ht]
theorem r4_right_f (s e i d l b : Bool) (t li tl : Nat) : easelref04_Right.f s e i d l b (t : Int) (li : Int) (tl : Int) = some (rightB l b t li tl) := by
  unfold easelref04_Right.f rightB
  by_cases ht : t ≤ 7
  · rw [if_pos (by omega)]
    have c (x : Nat) : ((x : Int) == 0) = (x == 0) := by rw [Bool.eq_iff_iff, beq_iff_eq, beq_iff_eq]; omega
    cases l
    · rw [if_neg (by decide)]
      cases b
      · rw [if_neg (by decide)]
        by_cases h0 : t = 0
        · rw [if_pos (by omega)]
          by_cases h1 : li = 0
          · rw [if_pos (by omega), c]
            simp [h0, h1]
          · rw [if_neg (by omega)]
            simp [h1]
        · rw [if_neg (by omega)]
          simp [h0]
      · rw [if_pos rfl]
        simp
    · rw [if_pos rfl]
      simp [ht]
  · rw [if_neg (by omega)]
    simp [ht]
theorem puts_end (s e i d l b : Bool) (t li tl : Nat) : Ev (fun k => easellaw04_MarkPuts.l0 k (ib (putM s e i d l b t li tl).1) ((putM s e i d l b t li tl).2 : Int) 2 s e i d l b (t : Int) (li : Int) (tl : Int)) true :=
  Ev.step (f := fun _ => some true) (fun k => by
    simp only [easellaw04_MarkPuts.l0]
    rw [if_neg (by decide), mark_right_f]
    simp only [Option.bind_some, easellaw04_ref.f]
    rw [r4_right_f]
    simp only [Option.bind_some]
    rw [if_pos (by simp)]
    rfl) (Ev.now _)
theorem puts_round (s e i d l b : Bool) (t li tl : Nat) (ht : t < 256) (hli : li < 256) (htl : tl < 256) (j j' : Int) (hj : j < 2) (hj' : wrap64 (j + 1) = j') (h : Ev (fun k => easellaw04_MarkPuts.l0 k (ib (putM s e i d l b t li tl).1) ((putM s e i d l b t li tl).2 : Int) j' s e i d l b (t : Int) (li : Int) (tl : Int)) true) :
    Ev (fun k => easellaw04_MarkPuts.l0 k (ib (putM s e i d l b t li tl).1) ((putM s e i d l b t li tl).2 : Int) j s e i d l b (t : Int) (li : Int) (tl : Int)) true := by
  have hl : (ib (putM s e i d l b t li tl).1).length ≤ 1000000000 := by rw [ib_length]; have := putM_len s e i d l b t li tl; omega
  obtain ⟨r, hr⟩ := ev_spoil (ib (putM s e i d l b t li tl).1) hl
  refine Ev.step (f := fun k => (easelkit_SameBytes.f k (ib (putM s e i d l b t li tl).1) (ib (putM s e i d l b t li tl).1)).bind fun q => if q = true then (easelkit_Spoil.f k (ib (putM s e i d l b t li tl).1)).bind fun _ => easellaw04_MarkPuts.l0 k (ib (putM s e i d l b t li tl).1) ((putM s e i d l b t li tl).2 : Int) j' s e i d l b (t : Int) (li : Int) (tl : Int) else some false) (fun k => ?_) (Ev.bind (ev_sameBytes _ hl) (Ev.congr (fun k => if_pos rfl) (Ev.bind hr h)))
  simp only [easellaw04_MarkPuts.l0]
  rw [if_pos hj, markPut_f s e i d l b t li tl ht hli htl, hj']
  simp only [Option.bind_some]
  rw [if_pos trivial]
theorem MarkPuts_ev (s e i d l b : Bool) (t li tl : Nat) (ht : t < 256) (hli : li < 256) (htl : tl < 256) : Ev (fun k => easellaw04_MarkPuts.f k s e i d l b (t : Int) (li : Int) (tl : Int)) true := by
  refine Ev.congr (fun k => ?_) (puts_round s e i d l b t li tl ht hli htl 0 1 (by decide) (by unfold wrap64; omega) (puts_round s e i d l b t li tl ht hli htl 1 2 (by decide) (by unfold wrap64; omega) (puts_end s e i d l b t li tl)))
  unfold easellaw04_MarkPuts.f easellaw04_ref.f r4_Put.f
  simp only [Option.bind_some]
  rw [markPut_f s e i d l b t li tl ht hli htl]
  rfl
end Go.Proofs.Ytjcejgolcdgipaa.K4
