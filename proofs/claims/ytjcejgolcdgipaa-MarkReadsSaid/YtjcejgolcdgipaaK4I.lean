/- Chapter 04, plain. No walk. -/
import Derived.Test.YtjcejgolcdgipaaK4Q
import Derived.Test.YtjcejgolcdgipaaK4x6
namespace Go.Proofs.Ytjcejgolcdgipaa.K4
open Go.RowKit Go.Proofs.YtjcejgolcdgipaaW.PrintWords Go.Proofs.YtjcejgolcdgipaaW.PrintLast Go.Proofs.YtjcejgolcdgipaaW.PrintMore
set_option linter.unusedVariables false
set_option linter.unusedSimpArgs false
theorem MarkReads_ev {l : List Int} (h : Oks l) : Ev (fun k => easellaw04_MarkReads.f k l) true := by
  by_cases hl : (l.length : Int) > 20
  · exact Ev.congr (fun k => by unfold easellaw04_MarkReads.f; rw [if_pos hl]; rfl) (Ev.now _)
  · have ho : easelkit_Own.f l = some l := by
      unfold easelkit_Own.f
      rw [if_pos (by simp; omega), List.nil_append]
    refine Ev.congr (f := fun k => (easelkit_SameBytes.f k l l).bind fun t => if t = true then ((l4_works.f).bind fun t => some t) else some false) (fun k => ?_) (Ev.bind (ev_sameBytes l (by omega)) (Ev.congr (fun k => if_pos rfl) (Ev.now _)))
    unfold easellaw04_MarkReads.f
    rw [if_neg hl, ho]
    simp only [Option.bind_some]
    unfold mark_Parse.f r4_Parse.f
    rw [if_pos h]
    simp only [Option.bind_some, easellaw04_ref.f]
    rw [if_pos (by simp), if_pos trivial]
end Go.Proofs.Ytjcejgolcdgipaa.K4
