/- Chapter 04: MarkFinds comes to true for all packets, ids and markings. -/
import Derived.Test.YtjcejgolcdgipaaK4G
import Derived.Test.YtjcejgolcdgipaaK4T
namespace Go.Proofs.Ytjcejgolcdgipaa.K4
open Go.RowKit Go.Proofs.YtjcejgolcdgipaaW.PrintWords Go.Proofs.YtjcejgolcdgipaaW.PrintLast Go.Proofs.YtjcejgolcdgipaaW.PrintMore
set_option linter.unusedVariables false
set_option linter.unusedSimpArgs false

set_option maxHeartbeats 2000000 in
set_option maxRecDepth 100000 in
theorem MarkFinds_many (m : Bool) (ty sq ti ss : Int) (A5 : Option Addr) (c5 : Nat) (l5 : List Int) (hx : Bool) (pr : Int) (A8 : Option Addr) (c8 : Nat) (l8 : List Int) (A9 : Option Addr) (c9 : Nat) (l9 : List Int) (pd id : Int) (s e i d l b : Bool) (t li tl : Int) (w : World) (hp : Pk3 w A5 A8 A9 l5 l8 l9) (hc5 : l5.length ≤ c5) (hc8 : l8.length ≤ c8) (hc9 : l9.length ≤ c9) (hF : easeldocs_FewPacket.f m ty sq ti ss l5 hx pr l8 l9 pd = some false) :
    Calls Try.prog 10 #[.agg #[.bool m, .int .u8 ty, .int .u16 sq, .int .u32 ti, .int .u32 ss, .slice A5 l5.length c5, .bool hx, .int .u16 pr, .slice A8 l8.length c8, .slice A9 l9.length c9, .int .u8 pd], .int .u8 id, .agg #[.bool s, .bool e, .bool i, .bool d, .bool l, .bool b, .int .u8 t, .int .u8 li, .int .u8 tl]] w fun e w' => e = .returned (.bool true) ∧ Below w.heap.size w w' := by
  have hB0 : Below w.heap.size w ((w.alloc (.cells #[.bool m, .int .u8 ty, .int .u16 sq, .int .u32 ti, .int .u32 ss, .slice A5 l5.length c5, .bool hx, .int .u16 pr, .slice A8 l8.length c8, .slice A9 l9.length c9, .int .u8 pd] 98)).alloc (.cells #[.bool s, .bool e, .bool i, .bool d, .bool l, .bool b, .int .u8 t, .int .u8 li, .int .u8 tl] 84)) := ((Below.refl _ _).alloc (Nat.le_refl _) _).alloc (by simp) _
  have HP3 := hd (hp.below hB0)
  have HF := hd hF
  have HB := hd hB0
  clear hp hF hB0
  go_enter Try.func10, Try.ntmps10
  go_wp2_with fail
  refine (easeldocs_FewPacket.calls m ty sq ti ss _ _ l5 hx pr _ _ l8 _ _ l9 pd false _ HP3.out.c5 hc5 HP3.out.c8 hc8 HP3.out.c9 hc9 HF.out).mono ?_
  rintro e_ w1 ⟨rfl, hB1⟩
  replace HB := hd (below_next HB.out hB1)
  clear hB1
  go_wp2_with fail
  refine (l4_works.calls true _ rfl).mono ?_
  rintro e_ w2 ⟨rfl, hB2⟩
  go_wp2
  go_ret
  exact ⟨rfl, below_next HB.out hB2⟩
theorem few_f (m : Bool) (ty sq ti ss : Int) (l5 : List Int) (hx : Bool) (pr : Int) (l8 l9 : List Int) (pd : Int) : (easeldocs_FewPacket.f m ty sq ti ss l5 hx pr l8 l9 pd = some true ∧ l5.length ≤ 20 ∧ l8.length ≤ 400 ∧ l9.length ≤ 400) ∨ easeldocs_FewPacket.f m ty sq ti ss l5 hx pr l8 l9 pd = some false := by
  unfold easeldocs_FewPacket.f
  by_cases h5 : l5.length ≤ 20
  · rw [if_pos (by omega)]
    by_cases h8 : l8.length ≤ 400
    · rw [if_pos (by omega)]
      by_cases h9 : l9.length ≤ 400
      · exact .inl ⟨by rw [decide_eq_true (by omega)], h5, h8, h9⟩
      · exact .inr (by rw [decide_eq_false (by omega)])
    · rw [if_neg (by omega)]
      exact .inr rfl
  · rw [if_neg (by omega)]
    exact .inr rfl
theorem withM_len (hx : Bool) (pr : Int) (l8 : List Int) (id : Nat) (s e i d l b : Bool) (t li tl : Nat) (h8 : l8.length ≤ 1000) : (withM hx pr l8 id s e i d l b t li tl).2.2.1.length ≤ 1000 := by
  have hlen := putM_len s e i d l b t li tl
  unfold withM
  generalize putM s e i d l b t li tl = P at *
  split
  · split
    · show (ib _).length ≤ _
      rw [ib_length]
      refine Nat.le_trans (putS_len 3 (by intro x hx; obtain rfl : x = (id, P.1) := (by simpa using hx); exact hlen)) (by simp)
    · exact h8
  · exact h8
/-- What a row's arguments are. -/
def OkMF (l8 : List Int) (pr id t li tl : Int) : Prop := Oks l8 ∧ 0 ≤ pr ∧ pr < 65536 ∧ 0 ≤ id ∧ id < 256 ∧ 0 ≤ t ∧ t < 256 ∧ 0 ≤ li ∧ li < 256 ∧ 0 ≤ tl ∧ tl < 256
instance (l8 : List Int) (pr id t li tl : Int) : Decidable (OkMF l8 pr id t li tl) := by unfold OkMF; exact inferInstance
def easellaw04_MarkFinds.f (k : Nat) (m : Bool) (ty sq ti ss : Int) (l5 : List Int) (hx : Bool) (pr : Int) (l8 l9 : List Int) (pd id : Int) (s e i d l b : Bool) (t li tl : Int) : Option Bool := if OkMF l8 pr id t li tl then some true else none
theorem easellaw04_MarkFinds.calls (k : Nat) (m : Bool) (ty sq ti ss : Int) (A5 : Option Addr) (c5 : Nat) (l5 : List Int) (hx : Bool) (pr : Int) (A8 : Option Addr) (c8 : Nat) (l8 : List Int) (A9 : Option Addr) (c9 : Nat) (l9 : List Int) (pd id : Int) (s e i d l b : Bool) (t li tl : Int) (r : Bool) (w : World) (hr5 : Kd.C (Kd.int .u32) w A5 l5.length l5) (hc5 : l5.length ≤ c5) (hr8 : Kd.C (Kd.int .u8) w A8 l8.length l8) (hc8 : l8.length ≤ c8) (hr9 : Kd.C (Kd.int .u8) w A9 l9.length l9) (hc9 : l9.length ≤ c9)
    (h : easellaw04_MarkFinds.f k m ty sq ti ss l5 hx pr l8 l9 pd id s e i d l b t li tl = some r) :
    Calls Try.prog 10 #[.agg #[.bool m, .int .u8 ty, .int .u16 sq, .int .u32 ti, .int .u32 ss, .slice A5 l5.length c5, .bool hx, .int .u16 pr, .slice A8 l8.length c8, .slice A9 l9.length c9, .int .u8 pd], .int .u8 id, .agg #[.bool s, .bool e, .bool i, .bool d, .bool l, .bool b, .int .u8 t, .int .u8 li, .int .u8 tl]] w fun e w' => e = .returned (.bool r) ∧ Below w.heap.size w w' := by
  unfold easellaw04_MarkFinds.f at h
  split at h
  · rename_i hok
    injection h with h
    subst h
    obtain ⟨hl8, pr0, pr1, id0, id1, t0, t1, li0, li1, tl0, tl1⟩ := hok
    obtain ⟨t, rfl⟩ := Int.eq_ofNat_of_zero_le t0
    obtain ⟨li, rfl⟩ := Int.eq_ofNat_of_zero_le li0
    obtain ⟨tl, rfl⟩ := Int.eq_ofNat_of_zero_le tl0
    obtain ⟨p, rfl⟩ := Int.eq_ofNat_of_zero_le pr0
    obtain ⟨id, rfl⟩ := Int.eq_ofNat_of_zero_le id0
    obtain ⟨bs, hb, rfl⟩ : ∃ bs, Bts bs ∧ l8 = ib bs := ⟨nb l8, nb_bts hl8, (ib_nb hl8).symm⟩
    rcases few_f m ty sq ti ss l5 hx (p : Int) (ib bs) l9 pd with ⟨hF, n5, n8, n9⟩ | hF
    · have hbl : bs.length ≤ 400 := by rw [ib_length] at n8; exact n8
      have hWith := mark_With_f m ty sq ti ss l5 (ib bs) l9 pd hx (p : Int) id (by omega) s e i d l b t li tl (by omega) (by omega) (by omega) (by omega) (by omega) (by omega)
      have hOf := mark_Of_f m ty sq ti ss l5 l9 pd hx p id (by omega) hb (by omega)
      have hyl := withM_len hx (p : Int) (ib bs) id s e i d l b t li tl (by omega)
      obtain ⟨K1, h1⟩ := r4_Of_ev m ty sq ti ss l5 l9 pd hx p id hb (by omega)
      obtain ⟨K2, h2⟩ := r4With_ev m ty sq ti ss l5 (ib bs) l9 pd hx (p : Int) id (by omega) s e i d l b t li tl (by omega) (by omega) (by omega)
      obtain ⟨K3, h3⟩ := ev_sb2 (ib bs) (by omega)
      obtain ⟨K4, h4⟩ := ev_sb2 l9 (by omega)
      obtain ⟨K5, h5⟩ := ev_sb2 (withM hx (p : Int) (ib bs) id s e i d l b t li tl).2.2.1 (by omega)
      obtain ⟨z1, z2, z3, K6, h6⟩ := ev_spoilP m ty sq ti ss (withM hx (p : Int) (ib bs) id s e i d l b t li tl).1 (withM hx (p : Int) (ib bs) id s e i d l b t li tl).2.1 pd l5 (withM hx (p : Int) (ib bs) id s e i d l b t li tl).2.2.1 l9 (by omega) (by omega) (by omega)
      exact MarkFinds_walk (K1 + K2 + K3 + K4 + K5 + K6) m ty sq ti ss A5 c5 l5 hx (p : Int) A8 c8 (ib bs) A9 c9 l9 pd (id : Int) s e i d l b t li tl w ⟨hr5, hr8, hr9⟩ hc5 hc8 hc9 (by omega) hF
        (packet_f m ty sq ti ss hx (p : Int) pd l5 (ib bs) l9 (by omega) (by omega) (by omega))
        _ _ _ _ _ _ _ _ _ _ hOf (h1 _ (by omega)) _ _ _ _ hWith (h2 _ (by omega))
        (packet_f m ty sq ti ss _ _ pd l5 _ l9 (by omega) (by omega) (by omega))
        (h3 _ (by omega)) (h4 _ (by omega)) (h5 _ (by omega)) z1 z2 z3 (h6 _ (by omega))
    · exact MarkFinds_many m ty sq ti ss A5 c5 l5 hx _ A8 c8 _ A9 c9 l9 pd _ s e i d l b _ _ _ w ⟨hr5, hr8, hr9⟩ hc5 hc8 hc9 hF
  · cases h
end Go.Proofs.Ytjcejgolcdgipaa.K4
