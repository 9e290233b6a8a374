/- Bytes compared with themselves, and written over, in the printed words. -/
import Derived.Test.YtjcejgolcdgipaaK4A
import Derived.Test.YtjcejgolcdgipaaK4x3
import Derived.Test.YtjcejgolcdgipaaK4x4
namespace Go.Proofs.Ytjcejgolcdgipaa.K4
open Go.RowKit Go.Proofs.YtjcejgolcdgipaaW.PrintWords Go.Proofs.YtjcejgolcdgipaaW.PrintLast Go.Proofs.YtjcejgolcdgipaaW.PrintMore

theorem wrap_succ (i : Nat) (h : i ≤ 1000000000) : wrap64 ((i : Int) + 1) = ((i + 1 : Nat) : Int) := by
  unfold wrap64; omega
theorem wrap_id (x : Int) (h0 : -1000000000000 ≤ x) (h : x ≤ 1000000000000) : wrap64 x = x := by
  unfold wrap64; omega
def toT (p : Nat × List Nat) : S164 := ⟨(p.1 : Int), ib p.2⟩
section
variable {E : List (Nat × List Nat)} {i : Nat}
theorem rdS (h : i < E.length) : rd_T160 (E.map toS) (i : Int) = toS E[i] := by
  unfold rd_T160
  simp [h]
theorem rdT (h : i < E.length) : rd_T164 (E.map toT) (i : Int) = toT E[i] := by
  unfold rd_T164
  simp [h]
end

theorem ev_sameBytes_l (a : List Int) (hl : a.length ≤ 1000000000) : ∀ d i, i + d = a.length → Ev (fun k => easelkit_SameBytes.l0 k a a (i : Int)) true
  | 0, i, h => Ev.step (f := fun _ => some true) (fun k => by simp only [easelkit_SameBytes.l0]; rw [if_neg (by omega)]) (Ev.now _)
  | d + 1, i, h => Ev.step (f := fun k => easelkit_SameBytes.l0 k a a ((i + 1 : Nat) : Int)) (fun k => by
      simp only [easelkit_SameBytes.l0]
      rw [if_pos (by omega), if_pos (by omega), if_pos (by omega), if_pos trivial, wrap_succ i (by omega)]) (ev_sameBytes_l a hl d (i + 1) (by omega))
theorem ev_sameBytes (a : List Int) (hl : a.length ≤ 1000000000) : Ev (fun k => easelkit_SameBytes.f k a a) true :=
  Ev.congr (fun k => by unfold easelkit_SameBytes.f; rw [if_pos rfl]; rfl) (ev_sameBytes_l a hl a.length 0 (by omega))
theorem ev_spoil_l : ∀ d (a : List Int) i, a.length ≤ 1000000000 → i + d = a.length → ∃ r, Ev (fun k => easelkit_Spoil.l0 k a (i : Int)) r
  | 0, a, i, _, h => ⟨a, Ev.step (f := fun _ => some a) (fun k => by simp only [easelkit_Spoil.l0]; rw [if_neg (by omega)]) (Ev.now _)⟩
  | d + 1, a, i, hl, h => by
    obtain ⟨r, hr⟩ := ev_spoil_l d (a.set i 165) (i + 1) (by simpa using hl) (by simp; omega)
    exact ⟨r, Ev.step (f := fun k => easelkit_Spoil.l0 k (a.set i 165) ((i + 1 : Nat) : Int)) (fun k => by
      simp only [easelkit_Spoil.l0]
      rw [if_pos (by omega), if_pos (by omega), wrap_succ i (by omega), Int.toNat_natCast]) hr⟩
theorem ev_spoil (a : List Int) (hl : a.length ≤ 1000000000) : ∃ r, Ev (fun k => easelkit_Spoil.f k a) r := ev_spoil_l a.length a 0 hl (by omega)

end Go.Proofs.Ytjcejgolcdgipaa.K4
