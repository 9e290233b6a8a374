/- Chapter 04: MarkBack comes to true for all markings, bytes and packets. -/
import Derived.Test.YtjcejgolcdgipaaK4B
import Derived.Test.YtjcejgolcdgipaaK4J
namespace Go.Proofs.Ytjcejgolcdgipaa.K4
open Go.RowKit Go.Proofs.YtjcejgolcdgipaaW.PrintWords Go.Proofs.YtjcejgolcdgipaaW.PrintLast Go.Proofs.YtjcejgolcdgipaaW.PrintMore
set_option linter.unusedVariables false
set_option linter.unusedSimpArgs false

set_option maxHeartbeats 2000000 in
set_option maxRecDepth 100000 in
theorem MarkBack_long (s e i d l b : Bool) (t li tl : Int) (AB : Option Addr) (cb : Nat) (lb : List Int) (m : Bool) (ty sq ti ss : Int) (A5 : Option Addr) (c5 : Nat) (l5 : List Int) (hx : Bool) (pr : Int) (A8 : Option Addr) (c8 : Nat) (l8 : List Int) (A9 : Option Addr) (c9 : Nat) (l9 : List Int) (pd id : Int) (w : World) (h20 : 20 < lb.length) :
    Calls Try.prog 11 #[.agg #[.bool s, .bool e, .bool i, .bool d, .bool l, .bool b, .int .u8 t, .int .u8 li, .int .u8 tl], .slice AB lb.length cb, .agg #[.bool m, .int .u8 ty, .int .u16 sq, .int .u32 ti, .int .u32 ss, .slice A5 l5.length c5, .bool hx, .int .u16 pr, .slice A8 l8.length c8, .slice A9 l9.length c9, .int .u8 pd], .int .u8 id] w fun e w' => e = .returned (.bool true) ∧ Below w.heap.size w w' := by
  have g20 : decide (20 < lb.length) = true := decide_eq_true h20
  have g20' : decide (20 < (lb.length : Int)) = true := decide_eq_true (by omega)
  go_enter Try.func11, Try.ntmps11
  go_wp2_with fail
  refine (l4_works.calls true _ rfl).mono ?_
  rintro e_ w1 ⟨rfl, hB1⟩
  go_wp2
  go_ret
  exact ⟨rfl, (((Below.refl _ _).alloc (Nat.le_refl _) _).alloc (by simp) _).trans (hB1.mono (by simp; omega))⟩
set_option maxHeartbeats 2000000 in
set_option maxRecDepth 100000 in
theorem MarkBack_many (s e i d l b : Bool) (t li tl : Int) (AB : Option Addr) (cb : Nat) (lb : List Int) (m : Bool) (ty sq ti ss : Int) (A5 : Option Addr) (c5 : Nat) (l5 : List Int) (hx : Bool) (pr : Int) (A8 : Option Addr) (c8 : Nat) (l8 : List Int) (A9 : Option Addr) (c9 : Nat) (l9 : List Int) (pd id : Int) (w : World) (h20 : lb.length ≤ 20) (hp : Pk3 w A5 A8 A9 l5 l8 l9) (hc5 : l5.length ≤ c5) (hc8 : l8.length ≤ c8) (hc9 : l9.length ≤ c9) (hF : easeldocs_FewPacket.f m ty sq ti ss l5 hx pr l8 l9 pd = some false) :
    Calls Try.prog 11 #[.agg #[.bool s, .bool e, .bool i, .bool d, .bool l, .bool b, .int .u8 t, .int .u8 li, .int .u8 tl], .slice AB lb.length cb, .agg #[.bool m, .int .u8 ty, .int .u16 sq, .int .u32 ti, .int .u32 ss, .slice A5 l5.length c5, .bool hx, .int .u16 pr, .slice A8 l8.length c8, .slice A9 l9.length c9, .int .u8 pd], .int .u8 id] w fun e w' => e = .returned (.bool true) ∧ Below w.heap.size w w' := by
  have g20 : decide (20 < lb.length) = false := decide_eq_false (by omega)
  have g20' : decide (20 < (lb.length : Int)) = false := decide_eq_false (by omega)
  have hB0 : Below w.heap.size w ((w.alloc (.cells #[.bool s, .bool e, .bool i, .bool d, .bool l, .bool b, .int .u8 t, .int .u8 li, .int .u8 tl] 84)).alloc (.cells #[.bool m, .int .u8 ty, .int .u16 sq, .int .u32 ti, .int .u32 ss, .slice A5 l5.length c5, .bool hx, .int .u16 pr, .slice A8 l8.length c8, .slice A9 l9.length c9, .int .u8 pd] 98)) := ((Below.refl _ _).alloc (Nat.le_refl _) _).alloc (by simp) _
  have HP3 := hd (hp.below hB0)
  have HF := hd hF
  have HB := hd hB0
  clear hp hF hB0
  go_enter Try.func11, Try.ntmps11
  go_wp2_with fail
  refine (easeldocs_FewPacket.calls m ty sq ti ss _ _ l5 hx pr _ _ l8 _ _ l9 pd false _ HP3.out.c5 hc5 HP3.out.c8 hc8 HP3.out.c9 hc9 HF.out).mono ?_
  rintro e_ w1 ⟨rfl, hB1⟩
  replace HB := hd (below_next HB.out hB1)
  clear hB1
  go_wp2_with fail
  refine (l4_works.calls true _ rfl).mono ?_
  rintro e_ w2 ⟨rfl, hB2⟩
  go_wp2
  go_ret
  exact ⟨rfl, below_next HB.out hB2⟩
theorem few_f (m : Bool) (ty sq ti ss : Int) (l5 : List Int) (hx : Bool) (pr : Int) (l8 l9 : List Int) (pd : Int) : (easeldocs_FewPacket.f m ty sq ti ss l5 hx pr l8 l9 pd = some true ∧ l5.length ≤ 20 ∧ l8.length ≤ 400 ∧ l9.length ≤ 400) ∨ easeldocs_FewPacket.f m ty sq ti ss l5 hx pr l8 l9 pd = some false := by
  unfold easeldocs_FewPacket.f
  by_cases h5 : l5.length ≤ 20
  · rw [if_pos (by omega)]
    by_cases h8 : l8.length ≤ 400
    · rw [if_pos (by omega)]
      by_cases h9 : l9.length ≤ 400
      · exact .inl ⟨by rw [decide_eq_true (by omega)], h5, h8, h9⟩
      · exact .inr (by rw [decide_eq_false (by omega)])
    · rw [if_neg (by omega)]
      exact .inr rfl
  · rw [if_neg (by omega)]
    exact .inr rfl
theorem parseM_lt {bs : List Nat} (hb : Bts bs) : (parseM bs).1.t < 256 ∧ (parseM bs).1.li < 256 ∧ (parseM bs).1.tl < 256 := by
  by_cases h1 : bs.length = 1
  · rw [parseM_one h1]
    split <;> exact ⟨by show (0 : Nat) < 256; omega, by show (0 : Nat) < 256; omega, by show (0 : Nat) < 256; omega⟩
  · by_cases h3 : bs.length = 3
    · rw [parseM_three h3 hb]
      exact ⟨by show bs.getD 0 0 % 8 < 256; omega, hb.getD 1, hb.getD 2⟩
    · have : parseM bs = (MK.no, 40) := by unfold parseM; rw [if_neg (by omega)]
      rw [this]
      exact ⟨by show (0 : Nat) < 256; omega, by show (0 : Nat) < 256; omega, by show (0 : Nat) < 256; omega⟩
/-- What a row's arguments are. -/
def OkMB (t li tl : Int) (lb l8 : List Int) (pr id : Int) : Prop := 0 ≤ t ∧ t < 256 ∧ 0 ≤ li ∧ li < 256 ∧ 0 ≤ tl ∧ tl < 256 ∧ Oks lb ∧ Oks l8 ∧ 0 ≤ pr ∧ pr < 65536 ∧ 0 ≤ id ∧ id < 256
instance (t li tl : Int) (lb l8 : List Int) (pr id : Int) : Decidable (OkMB t li tl lb l8 pr id) := by unfold OkMB; exact inferInstance
def easellaw04_MarkBack.f (k : Nat) (s e i d l b : Bool) (t li tl : Int) (lb : List Int) (m : Bool) (ty sq ti ss : Int) (l5 : List Int) (hx : Bool) (pr : Int) (l8 l9 : List Int) (pd id : Int) : Option Bool := if OkMB t li tl lb l8 pr id then some true else none
theorem easellaw04_MarkBack.calls (k : Nat) (s e i d l b : Bool) (t li tl : Int) (AB : Option Addr) (cb : Nat) (lb : List Int) (m : Bool) (ty sq ti ss : Int) (A5 : Option Addr) (c5 : Nat) (l5 : List Int) (hx : Bool) (pr : Int) (A8 : Option Addr) (c8 : Nat) (l8 : List Int) (A9 : Option Addr) (c9 : Nat) (l9 : List Int) (pd id : Int) (r : Bool) (w : World) (hrb : Kd.C (Kd.int .u8) w AB lb.length lb) (hcb : lb.length ≤ cb) (hr5 : Kd.C (Kd.int .u32) w A5 l5.length l5) (hc5 : l5.length ≤ c5) (hr8 : Kd.C (Kd.int .u8) w A8 l8.length l8) (hc8 : l8.length ≤ c8) (hr9 : Kd.C (Kd.int .u8) w A9 l9.length l9) (hc9 : l9.length ≤ c9)
    (h : easellaw04_MarkBack.f k s e i d l b t li tl lb m ty sq ti ss l5 hx pr l8 l9 pd id = some r) :
    Calls Try.prog 11 #[.agg #[.bool s, .bool e, .bool i, .bool d, .bool l, .bool b, .int .u8 t, .int .u8 li, .int .u8 tl], .slice AB lb.length cb, .agg #[.bool m, .int .u8 ty, .int .u16 sq, .int .u32 ti, .int .u32 ss, .slice A5 l5.length c5, .bool hx, .int .u16 pr, .slice A8 l8.length c8, .slice A9 l9.length c9, .int .u8 pd], .int .u8 id] w fun e w' => e = .returned (.bool r) ∧ Below w.heap.size w w' := by
  unfold easellaw04_MarkBack.f at h
  split at h
  · rename_i hok
    injection h with h
    subst h
    obtain ⟨t0, t1, li0, li1, tl0, tl1, hlb, hl8, pr0, pr1, id0, id1⟩ := hok
    obtain ⟨t, rfl⟩ := Int.eq_ofNat_of_zero_le t0
    obtain ⟨li, rfl⟩ := Int.eq_ofNat_of_zero_le li0
    obtain ⟨tl, rfl⟩ := Int.eq_ofNat_of_zero_le tl0
    obtain ⟨p, rfl⟩ := Int.eq_ofNat_of_zero_le pr0
    obtain ⟨id, rfl⟩ := Int.eq_ofNat_of_zero_le id0
    by_cases h20 : lb.length ≤ 20
    · rcases few_f m ty sq ti ss l5 hx (p : Int) l8 l9 pd with ⟨hF, n5, n8, n9⟩ | hF
      · obtain ⟨k, hsb⟩ := (ev_sameBytes lb (by omega)).rounds
        have hPut := markPut_f s e i d l b t li tl (by omega) (by omega) (by omega)
        have hlt : ∀ x ∈ (putM s e i d l b t li tl).1, x < 256 := putM_bts s e i d l b t li tl
        have hWith := mark_With_f m ty sq ti ss l5 l8 l9 pd hx (p : Int) id (by omega) s e i d l b t li tl (by omega) (by omega) (by omega) (by omega) (by omega) (by omega)
        have hpar : mark_Parse.f lb = some (mkTuple (parseM (nb lb))) := by unfold mark_Parse.f; rw [if_pos hlb]
        refine MarkBack_walk k m ty sq ti ss A5 c5 l5 hx (p : Int) A8 c8 l8 A9 c9 l9 pd (id : Int) s e i d l b t li tl AB cb lb w ⟨hr5, hr8, hr9⟩ hc5 hc8 hc9 (by omega) hrb hcb h20 hF
          _ _ hPut ?_ ?_ _ _ _ _ _ _ _ _ _ _ hpar ?_ hsb _ _ _ _ hWith ?_ ?_
        · rw [putM_err]
          cases rightB l b t li tl <;> rfl
        · intro hr
          unfold mark_Parse.f
          rw [if_pos (ib_oks hlt), nb_ib, parse_put4 hr (by omega) (by omega)]
          rfl
        · intro hf
          have hf' : (parseM (nb lb)).2 = 0 := by
            have : ((parseM (nb lb)).2 : Int) = 0 := hf
            omega
          have hb := put_parse4 (nb_bts hlb) hf'
          have hlt2 := parseM_lt (nb_bts hlb)
          rw [markPut_f _ _ _ _ _ _ _ _ _ hlt2.1 hlt2.2.1 hlt2.2.2, hb, ib_nb hlb]
          rfl
        · intro hne
          obtain ⟨hw, hor⟩ := with_fails hx (p : Int) l8 id (by omega) s e i d l b t li tl (by omega) (by omega) hne
          rw [hw]
          exact ⟨rfl, rfl, rfl, rfl, hor.imp (fun h => by omega) (fun h => h)⟩
        · intro h0
          exact with_of m ty sq ti ss l5 l9 l8 pd (p : Int) hx id (by omega) s e i d l b t li tl (by omega) (by omega) h0
      · exact MarkBack_many s e i d l b _ _ _ AB cb lb m ty sq ti ss A5 c5 l5 hx _ A8 c8 l8 A9 c9 l9 pd _ w h20 ⟨hr5, hr8, hr9⟩ hc5 hc8 hc9 hF
    · exact MarkBack_long s e i d l b _ _ _ AB cb lb m ty sq ti ss A5 c5 l5 hx _ A8 c8 l8 A9 c9 l9 pd _ w (by omega)
  · cases h
end Go.Proofs.Ytjcejgolcdgipaa.K4
