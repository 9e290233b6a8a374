/- Chapter 04, plain: packets compared with themselves, written over; Of and With of both sides. No walk. -/
import Derived.Test.YtjcejgolcdgipaaK4R
import Derived.Test.YtjcejgolcdgipaaK4X
import Derived.Test.YtjcejgolcdgipaaK4V
import Derived.Test.YtjcejgolcdgipaaK4x13
import Derived.Test.YtjcejgolcdgipaaK4x18
import Derived.Test.YtjcejgolcdgipaaK4F
import Derived.Test.YtjcejgolcdgipaaK4S
import Derived.Test.YtjcejgolcdgipaaK4x12
namespace Go.Proofs.Ytjcejgolcdgipaa.K4
open Go.RowKit Go.Proofs.YtjcejgolcdgipaaW.PrintWords Go.Proofs.YtjcejgolcdgipaaW.PrintLast Go.Proofs.YtjcejgolcdgipaaW.PrintMore
set_option linter.unusedVariables false
set_option linter.unusedSimpArgs false

theorem ev_sb2_l (a : List Int) (hl : a.length ≤ 1000000000) : ∀ d i, i + d = a.length → Ev (fun k => easelref02_SameBytes.l0 k a a (i : Int)) true
  | 0, i, h => Ev.step (f := fun _ => some true) (fun k => by simp only [easelref02_SameBytes.l0]; rw [if_neg (by omega)]) (Ev.now _)
  | d + 1, i, h => Ev.step (f := fun k => easelref02_SameBytes.l0 k a a ((i + 1 : Nat) : Int)) (fun k => by
      simp only [easelref02_SameBytes.l0]
      rw [if_pos (by omega), if_pos (by omega), if_pos (by omega), if_pos trivial, wrap_succ i (by omega)]) (ev_sb2_l a hl d (i + 1) (by omega))
theorem ev_sb2 (a : List Int) (hl : a.length ≤ 1000000000) : Ev (fun k => easelref02_SameBytes.f k a a) true :=
  Ev.congr (fun k => by unfold easelref02_SameBytes.f; rw [if_pos rfl]; rfl) (ev_sb2_l a hl a.length 0 (by omega))
section
variable (m : Bool) (ty sq ti ss : Int) (hx : Bool) (pr pd : Int)
theorem ev_spoilP_l (l8 l9 : List Int) (h8 : l8.length ≤ 1000000000) (h9 : l9.length ≤ 1000000000) : ∀ d (l5 : List Int) i, l5.length ≤ 1000000000 → i + d = l5.length → ∃ r1 r2 r3, Ev (fun k => easeldocs_SpoilPacket.l0 k (i : Int) m ty sq ti ss l5 hx pr l8 l9 pd) (r1, r2, r3)
  | 0, l5, i, _, h => by
    obtain ⟨r2, e2⟩ := ev_spoil l8 h8
    obtain ⟨r3, e3⟩ := ev_spoil l9 h9
    refine ⟨l5, r2, r3, Ev.step (f := fun k => (easelkit_Spoil.f k l8).bind fun t => (easelkit_Spoil.f k l9).bind fun t2 => some (l5, t, t2)) (fun k => ?_) (Ev.bind e2 (Ev.bind e3 (Ev.now _)))⟩
    simp only [easeldocs_SpoilPacket.l0]
    rw [if_neg (by omega)]
  | d + 1, l5, i, hl, h => by
    obtain ⟨r1, r2, r3, hr⟩ := ev_spoilP_l l8 l9 h8 h9 d (l5.set i 77) (i + 1) (by simpa using hl) (by simp; omega)
    refine ⟨r1, r2, r3, Ev.step (f := fun k => easeldocs_SpoilPacket.l0 k ((i + 1 : Nat) : Int) m ty sq ti ss (l5.set i 77) hx pr l8 l9 pd) (fun k => ?_) hr⟩
    simp only [easeldocs_SpoilPacket.l0]
    rw [if_pos (by omega), if_pos (by omega), wrap_succ i (by omega), Int.toNat_natCast]
theorem ev_spoilP (l5 l8 l9 : List Int) (h5 : l5.length ≤ 1000000000) (h8 : l8.length ≤ 1000000000) (h9 : l9.length ≤ 1000000000) : ∃ r1 r2 r3, Ev (fun k => easeldocs_SpoilPacket.f k m ty sq ti ss l5 hx pr l8 l9 pd) (r1, r2, r3) :=
  ev_spoilP_l m ty sq ti ss hx pr pd l8 l9 h8 h9 l5.length l5 0 h5 (by omega)
theorem packet_f (l5 l8 l9 : List Int) (h5 : l5.length ≤ 1000000000) (h8 : l8.length ≤ 1000000000) (h9 : l9.length ≤ 1000000000) : easeldocs_Packet.f m ty sq ti ss l5 hx pr l8 l9 pd = some (m, ty, sq, ti, ss, l5, hx, pr, l8, l9, pd) := by
  unfold easeldocs_Packet.f easelkit_Own.f
  rw [if_pos (by simp only [List.length_nil]; omega), if_pos (by simp only [List.length_nil]; omega), if_pos (by simp only [List.length_nil]; omega)]
  simp only [List.nil_append, Option.bind_some]
end
theorem r4_Of_ev (m : Bool) (ty sq ti ss : Int) (l5 l9 : List Int) (pd : Int) (hx : Bool) (p id : Nat) {bs : List Nat} (hb : Bts bs) (hl : bs.length ≤ 1000) :
    Ev (fun k => r4_Of.f k m ty sq ti ss l5 hx (p : Int) (ib bs) l9 pd (id : Int)) (ofT (ofM hx p bs id)) := by
  unfold ofM
  cases hx
  · refine Ev.congr (fun k => ?_) (Ev.now _)
    unfold r4_Of.f
    rw [if_neg (by decide), if_neg (by decide)]
    rfl
  · rw [if_pos rfl]
    refine Ev.congr (fun k => ?_) (Ev.bind (ev_rParse p hb (by omega)) (f := fun k x => if x.2 = 0 then ((easelref03_Find.f k (id : Int) x.1).bind fun y => (if y.2 = true then ((r4_Parse.f y.1).bind fun z => (some (z.1, z.2.1, z.2.2.1, z.2.2.2.1, z.2.2.2.2.1, z.2.2.2.2.2.1, z.2.2.2.2.2.2.1, z.2.2.2.2.2.2.2.1, z.2.2.2.2.2.2.2.2.1, (z.2.2.2.2.2.2.2.2.2 == 0)))) else (some (false, false, false, false, false, false, 0, 0, 0, false)))) else (some (false, false, false, false, false, false, 0, 0, 0, false))) ?_)
    · unfold r4_Of.f
      rw [if_pos rfl]
    · by_cases h0 : (extP p bs).2 = 0
      · have hF := extP_fair hb hl h0
        rw [if_pos h0]
        refine Ev.congr (fun k => if_pos (by simp only; omega)) (Ev.bind (ev_rFind id hF) ?_)
        by_cases h1 : (findR id (extP p bs).1).2 = true
        · refine Ev.congr (fun k => if_pos h1) (Ev.congr (fun k => ?_) (Ev.now _))
          rw [if_pos h1]
          unfold r4_Parse.f
          rw [if_pos (ib_oks (find_bts hF)), nb_ib]
          simp only [Option.bind_some, mkTuple, ofT]
          congr 1
          simp only [Prod.mk.injEq, true_and]
          rw [Bool.eq_iff_iff, beq_iff_eq, beq_iff_eq]
          omega
        · refine Ev.congr (fun k => if_neg h1) ?_
          rw [if_neg h1]
          exact Ev.now _
      · rw [if_neg h0]
        exact Ev.congr (fun k => if_neg (by simp only; omega)) (Ev.now _)
theorem r4With_ev (m : Bool) (ty sq ti ss : Int) (l5 l8 l9 : List Int) (pd : Int) (hx : Bool) (pr : Int) (id : Nat) (hid : id < 256) (s e i d l b : Bool) (t li tl : Nat) (ht : t < 256) (hli : li < 256) (htl : tl < 256) :
    Ev (fun k => r4With.f k m ty sq ti ss l5 hx pr l8 l9 pd (id : Int) s e i d l b (t : Int) (li : Int) (tl : Int)) (withM hx pr l8 id s e i d l b t li tl) := by
  have hF := putM_fair id hid s e i d l b t li tl
  have hP := markPut_f s e i d l b t li tl ht hli htl
  unfold withM
  generalize putM s e i d l b t li tl = P at *
  by_cases h0 : P.2 = 0
  · rw [if_pos h0]
    refine Ev.congr (f := fun k => (easelref03_Form.f k ([(id, P.1)].map toT)).bind fun p => if p.2 = true then (easelref03_Put.f k p.1 ([(id, P.1)].map toT)).bind fun x => some (true, p.1, x.1, 0) else some (hx, pr, l8, 40)) (fun k => ?_) (Ev.bind (ev_rForm hF) ?_)
    · unfold r4With.f r4_Put.f
      rw [hP]
      simp only [Option.bind_some]
      rw [if_pos (by omega)]
      rfl
    · by_cases h1 : (formS ([(id, P.1)].all (mayOf true)) ([(id, P.1)].all (mayOf false))).2 = true
      · obtain ⟨q, hq, hq6, hq0⟩ := formS_ok h1
        refine Ev.congr (fun k => if_pos h1) ?_
        rw [if_pos h1, hq]
        exact Ev.congr (fun k => rfl) (Ev.bind (ev_rPut q hF) (Ev.congr (fun k => by rw [Int.toNat_natCast]) (Ev.now _)))
      · refine Ev.congr (fun k => if_neg h1) ?_
        rw [if_neg h1]
        exact Ev.now _
  · rw [if_neg h0]
    refine Ev.congr (fun k => ?_) (Ev.now _)
    unfold r4With.f r4_Put.f
    rw [hP]
    simp only [Option.bind_some]
    rw [if_neg (by omega)]
end Go.Proofs.Ytjcejgolcdgipaa.K4
