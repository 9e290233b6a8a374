/- Texts of this session, one behind the other, what the row does not use left out: walks and laws over plain data. -/
import Derived.Test.YtjcejgolcdgipaaPFP13
import Derived.Test.YtjcejgolcdgipaaPFP14
import Derived.Test.YtjcejgolcdgipaaPFP5

namespace Go.Proofs.Ytjcejgolcdgipaa.K7
open Go.RowKit Go.Proofs.YtjcejgolcdgipaaW.PrintWords Go.Proofs.YtjcejgolcdgipaaW.PrintLast Go.Proofs.YtjcejgolcdgipaaW.PrintMore
set_option linter.unusedVariables false

def mp (x : S82) : S115 := ⟨x.f0, x.f1⟩
def mo (x : S134) : S119 := ⟨x.f0, x.f1⟩
theorem mp_inj {a b : S82} (h : mp a = mp b) : a = b := by
  cases a; cases b; simp [mp] at h; simp [h]
theorem mo_inj {a b : S134} (h : mo a = mo b) : a = b := by
  cases a; cases b; simp [mo] at h; simp [h]
theorem map_inj {α β : Type} {f : α → β} (hf : ∀ {a b}, f a = f b → a = b) : ∀ {l m : List α}, l.map f = m.map f → l = m
  | [], [], _ => rfl
  | [], _ :: _, h => by simp at h
  | _ :: _, [], h => by simp at h
  | a :: l, b :: m, h => by
    simp only [List.map_cons, List.cons.injEq] at h
    rw [hf h.1, map_inj hf h.2]
theorem wsucc (i : Nat) (h : i ≤ 1000000000) : wrap64 ((i : Int) + 1) = ((i + 1 : Nat) : Int) := by
  unfold wrap64; omega
theorem evg_pairs_l (N : List S82) (hl : N.length ≤ 1000000) : ∀ d i, i + d = N.length → Ev (fun k => easellaw07_pairs.l0 k N ((N.take i).map mp) (i : Int)) (N.map mp)
  | 0, i, h => Ev.step (f := fun _ => some (N.map mp)) (fun k => by
      simp only [easellaw07_pairs.l0]
      rw [if_neg (by omega), List.take_of_length_le (by omega)]) (Ev.now _)
  | d + 1, i, h => Ev.step (f := fun k => easellaw07_pairs.l0 k N ((N.take (i + 1)).map mp) ((i + 1 : Nat) : Int)) (fun k => by
      have hi : i < N.length := by omega
      have e1 : rd_T82 N (i : Int) = N[i] := by simp [rd_T82, hi]
      simp only [easellaw07_pairs.l0]
      rw [if_pos (by omega), if_pos (by omega), if_pos (by rw [List.length_map, List.length_take]; omega), wsucc i (by omega), e1, List.take_succ_eq_append_getElem hi, List.map_append]
      rfl) (evg_pairs_l N hl d (i + 1) (by omega))
theorem evg_pairs (N : List S82) (hl : N.length ≤ 1000000) : Ev (fun k => easellaw07_pairs.f k N) (N.map mp) := evg_pairs_l N hl N.length 0 (by omega)
theorem ev_ref_l (a b c : Int) (ps : List S82) (N : List S134) (e f : Int) (ss : List Int) (rp : List S115) (hl : N.length ≤ 1000000) (hs : ss.length ≤ 1000000) : ∀ d i, i + d = N.length → Ev (fun k => easellaw07_ref.l0 k (i : Int) a b c ps N e f ss a b c rp ((N.take i).map mo) e f) (a, b, c, rp, N.map mo, e, f, ss)
  | 0, i, h => Ev.step (f := fun _ => some (a, b, c, rp, N.map mo, e, f, ss)) (fun k => by
      simp only [easellaw07_ref.l0]
      rw [if_neg (by omega), List.take_of_length_le (by omega), if_pos (by rw [List.length_nil]; omega), List.nil_append]) (Ev.now _)
  | d + 1, i, h => Ev.step (f := fun k => easellaw07_ref.l0 k ((i + 1 : Nat) : Int) a b c ps N e f ss a b c rp ((N.take (i + 1)).map mo) e f) (fun k => by
      have hi : i < N.length := by omega
      have e1 : rd_T134 N (i : Int) = N[i] := by simp [rd_T134, hi]
      simp only [easellaw07_ref.l0]
      rw [if_pos (by omega), if_pos (by omega), if_pos (by rw [List.length_map, List.length_take]; omega), wsucc i (by omega), e1, List.take_succ_eq_append_getElem hi, List.map_append]
      rfl) (ev_ref_l a b c ps N e f ss rp hl hs d (i + 1) (by omega))
theorem ev_ref (a b c : Int) (ps : List S82) (N : List S134) (e f : Int) (ss : List Int) (hp : ps.length ≤ 1000000) (hl : N.length ≤ 1000000) (hs : ss.length ≤ 1000000) : Ev (fun k => easellaw07_ref.f k a b c ps N e f ss) (a, b, c, ps.map mp, N.map mo, e, f, ss) := by
  unfold easellaw07_ref.f
  exact Ev.bind (evg_pairs ps hp) (ev_ref_l a b c ps N e f ss (ps.map mp) hl hs N.length 0 (by omega))
theorem rsame_self (a0 a1 a2 : Int) (a3 : List S115) (a4 : List S119) (a5 a6 : Int) (a7 : List Int) (h3 : a3.length ≤ 1000000) (h4 : a4.length ≤ 1000000) (h7 : a7.length ≤ 1000000) : r7_Same.f a0 a1 a2 a3 a4 a5 a6 a7 a0 a1 a2 a3 a4 a5 a6 a7 = some true := by
  unfold r7_Same.f
  rw [if_pos ⟨h3, h4, h7⟩]
  congr 1
  exact decide_eq_true ⟨rfl, rfl, rfl, rfl, rfl, rfl, rfl, rfl⟩
end Go.Proofs.Ytjcejgolcdgipaa.K7
