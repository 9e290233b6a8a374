/- Chapter 04, plain: what Of and With answer. No walk. -/
import Derived.Test.YtjcejgolcdgipaaK4H
import Derived.Test.YtjcejgolcdgipaaK4O
import Derived.Test.YtjcejgolcdgipaaK4F
namespace Go.Proofs.Ytjcejgolcdgipaa.K4
open Go.RowKit Go.Proofs.YtjcejgolcdgipaaW.PrintWords Go.Proofs.YtjcejgolcdgipaaW.PrintLast Go.Proofs.YtjcejgolcdgipaaW.PrintMore
set_option linter.unusedVariables false
set_option linter.unusedSimpArgs false
theorem owned_f (m : Bool) (ty sq ti ss : Int) (hx : Bool) (pr pd : Int) (l5 l8 l9 : List Int) (h5 : l5.length ≤ 1000000000) (h8 : l8.length ≤ 1000000000) (h9 : l9.length ≤ 1000000000) : M0.mark_owned.f m ty sq ti ss l5 hx pr l8 l9 pd = some (m, ty, sq, ti, ss, l5, hx, pr, l8, l9, pd) := by
  unfold M0.mark_owned.f clone_b.f clone_w.f
  rw [if_pos (by omega), if_pos (by omega), if_pos (by omega)]
  simp only [Option.bind_some]
/-- What a packet's marking is. -/
def ofM (hx : Bool) (p : Nat) (bs : List Nat) (id : Nat) : MK × Bool :=
  if hx = true then (if (extP p bs).2 = 0 then (if (findR id (extP p bs).1).2 = true then ((parseM (findR id (extP p bs).1).1).1, (parseM (findR id (extP p bs).1).1).2 == 0) else (MK.no, false)) else (MK.no, false)) else (MK.no, false)
def ofT (x : MK × Bool) : Bool × Bool × Bool × Bool × Bool × Bool × Int × Int × Int × Bool := (x.1.s, x.1.e, x.1.i, x.1.d, x.1.l, x.1.b, (x.1.t : Int), (x.1.li : Int), (x.1.tl : Int), x.2)
theorem extP_fair {p : Nat} {bs : List Nat} (hb : Bts bs) (hl : bs.length ≤ 1000) (h : (extP p bs).2 = 0) : Fair (extP p bs).1 := by
  obtain ⟨_, h1, _⟩ := extP_ok hb h
  refine ⟨by have := extP_num p bs; omega, fun x hx => ⟨?_, (h1 x hx).1, ?_⟩⟩
  · have := (h1 x hx).2
    split at this <;> omega
  · obtain ⟨i, hi, rfl⟩ := List.mem_iff_getElem.1 hx
    have := extP_len p bs i hi
    omega
theorem find_bts {id : Nat} {E : List (Nat × List Nat)} (h : Fair E) : Bts (findR id E).1 := by
  unfold findR
  cases hf : E.find? (fun x => x.1 == id) with
  | none => exact Bts.nil
  | some p => exact (h.2 p (List.mem_of_find?_eq_some hf)).2.1
theorem mark_Of_f (m : Bool) (ty sq ti ss : Int) (l5 l9 : List Int) (pd : Int) (hx : Bool) (p id : Nat) (hp : p < 65536) {bs : List Nat} (hb : Bts bs) (hl : bs.length ≤ 1000) :
    mark_Of.f m ty sq ti ss l5 hx (p : Int) (ib bs) l9 pd (id : Int) = some (ofT (ofM hx p bs id)) := by
  unfold mark_Of.f ofM
  cases hx
  · rw [if_neg (by decide), if_neg (by decide)]
    rfl
  · rw [if_pos rfl, if_pos rfl, parse_f p hp hb (by omega)]
    simp only [Option.bind_some]
    by_cases h0 : (extP p bs).2 = 0
    · have hF := extP_fair hb hl h0
      rw [if_pos (by omega), if_pos h0, find_f id hF]
      simp only [Option.bind_some]
      by_cases h1 : (findR id (extP p bs).1).2 = true
      · rw [if_pos h1, if_pos h1]
        unfold mark_Parse.f
        rw [if_pos (ib_oks (find_bts hF)), nb_ib]
        simp only [Option.bind_some, mkTuple, ofT]
        congr 1
        simp only [Prod.mk.injEq, true_and]
        rw [Bool.eq_iff_iff, beq_iff_eq, beq_iff_eq]
        omega
      · rw [if_neg h1, if_neg h1]
        rfl
    · rw [if_neg (by omega), if_neg h0]
      rfl
/-- What With makes of a packet's extension: whether it has one, its profile, its bytes, and the error. -/
def withM (hx : Bool) (pr : Int) (l8 : List Int) (id : Nat) (s e i d l b : Bool) (t li tl : Nat) : Bool × Int × List Int × Int :=
  if (putM s e i d l b t li tl).2 = 0 then
    (if (formS ([(id, (putM s e i d l b t li tl).1)].all (mayOf true)) ([(id, (putM s e i d l b t li tl).1)].all (mayOf false))).2 = true then
      (true, (formS ([(id, (putM s e i d l b t li tl).1)].all (mayOf true)) ([(id, (putM s e i d l b t li tl).1)].all (mayOf false))).1, ib (putS (formS ([(id, (putM s e i d l b t li tl).1)].all (mayOf true)) ([(id, (putM s e i d l b t li tl).1)].all (mayOf false))).1.toNat [(id, (putM s e i d l b t li tl).1)]).1, 0)
    else (hx, pr, l8, 40))
  else (hx, pr, l8, ((putM s e i d l b t li tl).2 : Int))
theorem putM_bts (s e i d l b : Bool) (t li tl : Nat) : Bts (putM s e i d l b t li tl).1 := by
  unfold putM
  split
  · refine pack_bytes (Dgs.append (Dgs.append ?_ ?_) ?_)
    · intro x hx
      obtain ⟨y, _, rfl⟩ := List.mem_map.1 hx
      cases y <;> decide
    · exact fun d hd => ofn_lt _ _ d hd
    · split
      · exact Dgs.append (fun d hd => ofn_lt _ _ d hd) (fun d hd => ofn_lt _ _ d hd)
      · exact Dgs.nil
  · exact Bts.nil
theorem putM_fair (id : Nat) (hid : id < 256) (s e i d l b : Bool) (t li tl : Nat) : Fair [(id, (putM s e i d l b t li tl).1)] := by
  refine ⟨by simp, fun x hx => ?_⟩
  obtain rfl : x = _ := by simpa using hx
  exact ⟨hid, putM_bts _ _ _ _ _ _ _ _ _, by have := putM_len s e i d l b t li tl; show (putM s e i d l b t li tl).1.length ≤ _; omega⟩
theorem formS_ok {E : List (Nat × List Nat)} (h : (formS (E.all (mayOf true)) (E.all (mayOf false))).2 = true) : ∃ q : Nat, (formS (E.all (mayOf true)) (E.all (mayOf false))).1 = (q : Int) ∧ q < 65536 ∧ (putS q E).2 = 0 := by
  unfold formS at h ⊢
  split at h
  · rename_i ha
    refine ⟨48862, by rw [if_pos ha]; rfl, by decide, ?_⟩
    unfold putS
    rw [if_pos (by unfold isKnown isOne isTwo; simp), show isOne 48862 = true from by unfold isOne; simp, if_pos ha]
  · rename_i ha
    split at h
    · rename_i hb
      refine ⟨4096, by rw [if_neg ha, if_pos hb]; rfl, by decide, ?_⟩
      unfold putS
      rw [if_pos (by unfold isKnown isOne isTwo; simp), show isOne 4096 = false from by unfold isOne; simp, if_pos hb]
    · simp at h
theorem mark_With_f (m : Bool) (ty sq ti ss : Int) (l5 l8 l9 : List Int) (pd : Int) (hx : Bool) (pr : Int) (id : Nat) (hid : id < 256) (s e i d l b : Bool) (t li tl : Nat) (ht : t < 256) (hli : li < 256) (htl : tl < 256) (h5 : l5.length ≤ 1000000000) (h8 : l8.length ≤ 1000000000) (h9 : l9.length ≤ 1000000000) :
    mark_With.f m ty sq ti ss l5 hx pr l8 l9 pd (id : Int) s e i d l b (t : Int) (li : Int) (tl : Int) = some (m, ty, sq, ti, ss, l5, (withM hx pr l8 id s e i d l b t li tl).1, (withM hx pr l8 id s e i d l b t li tl).2.1, (withM hx pr l8 id s e i d l b t li tl).2.2.1, l9, pd, (withM hx pr l8 id s e i d l b t li tl).2.2.2) := by
  unfold mark_With.f withM
  rw [owned_f m ty sq ti ss hx pr pd l5 l8 l9 h5 h8 h9]
  simp only [Option.bind_some]
  rw [markPut_f s e i d l b t li tl ht hli htl]
  simp only [Option.bind_some]
  have hF := putM_fair id hid s e i d l b t li tl
  generalize putM s e i d l b t li tl = P at *
  by_cases h0 : P.2 = 0
  · rw [if_pos (by omega), if_pos h0, show ([⟨(id : Int), ib P.1⟩] : List S160) = [(id, P.1)].map toS from rfl, form_f hF]
    simp only [Option.bind_some]
    by_cases h1 : (formS ([(id, P.1)].all (mayOf true)) ([(id, P.1)].all (mayOf false))).2 = true
    · obtain ⟨q, hq, hq6, hq0⟩ := formS_ok h1
      rw [if_pos h1, if_pos h1, hq, put_f q hq6 hF]
      simp only [Option.bind_some, Int.toNat_natCast, hq0]
      rfl
    · rw [if_neg h1, if_neg h1]
  · rw [if_neg (by omega), if_neg h0]
end Go.Proofs.Ytjcejgolcdgipaa.K4
