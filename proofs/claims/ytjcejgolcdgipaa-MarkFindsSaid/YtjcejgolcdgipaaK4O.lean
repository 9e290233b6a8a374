/- Chapter 04, plain. No walk. -/
import Derived.Test.YtjcejgolcdgipaaK4Q
import Derived.Test.YtjcejgolcdgipaaK4E
namespace Go.Proofs.Ytjcejgolcdgipaa.K4
open Go.RowKit Go.Proofs.YtjcejgolcdgipaaW.PrintWords Go.Proofs.YtjcejgolcdgipaaW.PrintLast Go.Proofs.YtjcejgolcdgipaaW.PrintMore
set_option linter.unusedVariables false
set_option linter.unusedSimpArgs false
theorem markPut_f (s e i d l b : Bool) (t li tl : Nat) (ht : t < 256) (hli : li < 256) (htl : tl < 256) : mark_Put.f s e i d l b (t : Int) (li : Int) (tl : Int) = some (ib (putM s e i d l b t li tl).1, ((putM s e i d l b t li tl).2 : Int)) := by
  unfold mark_Put.f
  rw [if_pos (by omega)]
  simp only [Int.toNat_natCast]
theorem putM_len (s e i d l b : Bool) (t li tl : Nat) : (putM s e i d l b t li tl).1.length ≤ 3 := by
  unfold putM
  split
  · rw [pack_length]
    unfold markD fl
    split <;> simp [ofn_length]
  · simp
end Go.Proofs.Ytjcejgolcdgipaa.K4
