/- Chapter 04, plain: what is put is parsed as it was, and the other way; what With gives Of finds. No walk. -/
import Derived.Test.YtjcejgolcdgipaaK4X
namespace Go.Proofs.Ytjcejgolcdgipaa
theorem b1_bits (s e i d b : Bool) (t : Nat) (ht : t ≤ 7) : bt0 (b1 s e i d + dg b 8 + t) 0 = s ∧ bt0 (b1 s e i d + dg b 8 + t) 1 = e ∧ bt0 (b1 s e i d + dg b 8 + t) 2 = i ∧ bt0 (b1 s e i d + dg b 8 + t) 3 = d ∧ bt0 (b1 s e i d + dg b 8 + t) 4 = b ∧ (b1 s e i d + dg b 8 + t) % 8 = t := by
  have : ∀ (s e i d b : Bool) (t : Fin 8), bt0 (b1 s e i d + dg b 8 + t.1) 0 = s ∧ bt0 (b1 s e i d + dg b 8 + t.1) 1 = e ∧ bt0 (b1 s e i d + dg b 8 + t.1) 2 = i ∧ bt0 (b1 s e i d + dg b 8 + t.1) 3 = d ∧ bt0 (b1 s e i d + dg b 8 + t.1) 4 = b ∧ (b1 s e i d + dg b 8 + t.1) % 8 = t.1 := by decide +kernel
  exact this s e i d b ⟨t, by omega⟩
theorem bits_b1 (n : Nat) (hn : n < 256) : b1 (bt0 n 0) (bt0 n 1) (bt0 n 2) (bt0 n 3) + dg (bt0 n 4) 8 + n % 8 = n := by
  have : ∀ n : Fin 256, b1 (bt0 n.1 0) (bt0 n.1 1) (bt0 n.1 2) (bt0 n.1 3) + dg (bt0 n.1 4) 8 + n.1 % 8 = n.1 := by decide +kernel
  exact this ⟨n, hn⟩
theorem list1 {bs : List Nat} (h : bs.length = 1) : bs = [bs.getD 0 0] := by
  match bs, h with
  | [a], _ => rfl
theorem list3 {bs : List Nat} (h : bs.length = 3) : bs = [bs.getD 0 0, bs.getD 1 0, bs.getD 2 0] := by
  match bs, h with
  | [a, b, c], _ => rfl
/-- What is put is parsed as it was. -/
theorem parse_put4 {s e i d l b : Bool} {t li tl : Nat} (h : rightB l b t li tl = true) (hli : li < 256) (htl : tl < 256) :
    parseM (putM s e i d l b t li tl).1 = (⟨s, e, i, d, l, b, t, li, tl⟩, 0) := by
  cases l
  · rw [putM_short h]
    unfold rightB at h
    simp at h
    obtain ⟨_, hb, ht, hl0, ht0⟩ := h
    subst hb ht hl0 ht0
    have q := b1_bits s e i d false 0 (by omega)
    simp only [show dg false 8 = 0 from rfl, Nat.add_zero] at q
    obtain ⟨q0, q1, q2, q3, _, _⟩ := q
    have h16 : b1 s e i d % 16 = 0 := by cases s <;> cases e <;> cases i <;> cases d <;> rfl
    rw [parseM_one (by rfl)]
    simp only [List.getD_cons_zero]
    rw [if_pos h16, q0, q1, q2, q3]
  · rw [putM_long h hli htl]
    have ht : t ≤ 7 := by unfold rightB at h; simp at h; exact h
    obtain ⟨q0, q1, q2, q3, q4, q5⟩ := b1_bits s e i d b t ht
    have hb := b1_le s e i d
    have hd := dg_le b 8
    rw [parseM_three (by rfl) (by intro x hx; simp at hx; omega)]
    simp only [List.getD_cons_zero, List.getD_cons_succ]
    rw [q0, q1, q2, q3, q4, q5]
/-- What is parsed is right, and put so. -/
theorem put_parse4 {bs : List Nat} (hb : Bts bs) (h : (parseM bs).2 = 0) :
    putM (parseM bs).1.s (parseM bs).1.e (parseM bs).1.i (parseM bs).1.d (parseM bs).1.l (parseM bs).1.b (parseM bs).1.t (parseM bs).1.li (parseM bs).1.tl = (bs, 0) := by
  by_cases h1 : bs.length = 1
  · rw [parseM_one h1] at h ⊢
    have h0 := hb.getD 0
    have hl := list1 h1
    generalize bs.getD 0 0 = n at *
    by_cases h16 : n % 16 = 0
    · rw [if_pos h16]
      have q := bits_b1 n h0
      have q4 : bt0 n 4 = false := by unfold bt0; simp only [show 7 - 4 = 3 from rfl]; rw [beq_eq_false_iff_ne]; omega
      rw [q4, show n % 8 = 0 by omega] at q
      simp only [show dg false 8 = 0 from rfl, Nat.add_zero] at q
      show putM (bt0 n 0) (bt0 n 1) (bt0 n 2) (bt0 n 3) false false 0 0 0 = (bs, 0)
      rw [putM_short (by rfl), q, hl]
    · rw [if_neg h16] at h
      simp at h
  · by_cases h3 : bs.length = 3
    · rw [parseM_three h3 hb]
      have h0 := hb.getD 0
      have h1' := hb.getD 1
      have h2 := hb.getD 2
      have hl := list3 h3
      show putM (bt0 (bs.getD 0 0) 0) (bt0 (bs.getD 0 0) 1) (bt0 (bs.getD 0 0) 2) (bt0 (bs.getD 0 0) 3) true (bt0 (bs.getD 0 0) 4) (bs.getD 0 0 % 8) (bs.getD 1 0) (bs.getD 2 0) = (bs, 0)
      rw [putM_long (by unfold rightB; simp; omega) h1' h2, bits_b1 _ h0, ← hl]
    · have : parseM bs = (MK.no, 40) := by unfold parseM; rw [if_neg (by omega)]
      rw [this] at h
      simp at h
end Go.Proofs.Ytjcejgolcdgipaa
namespace Go.Proofs.Ytjcejgolcdgipaa.K4
open Go.RowKit Go.Proofs.YtjcejgolcdgipaaW.PrintWords Go.Proofs.YtjcejgolcdgipaaW.PrintLast Go.Proofs.YtjcejgolcdgipaaW.PrintMore
set_option linter.unusedVariables false
set_option linter.unusedSimpArgs false
theorem putM_err (s e i d l b : Bool) (t li tl : Nat) : (putM s e i d l b t li tl).2 = if rightB l b t li tl = true then 0 else 40 := by
  unfold putM
  split <;> rfl
theorem putM_ne (s e i d l b : Bool) (t li tl : Nat) (h : rightB l b t li tl = true) (hli : li < 256) (htl : tl < 256) : 1 ≤ (putM s e i d l b t li tl).1.length ∧ (putM s e i d l b t li tl).1.length ≤ 3 := by
  cases l
  · rw [putM_short h]; simp
  · rw [putM_long h hli htl]; simp
theorem form_one (id : Nat) (hid : id < 256) (h0 : id ≠ 0) {P : List Nat} (h1 : 1 ≤ P.length) (h3 : P.length ≤ 3) : (formS ([(id, P)].all (mayOf true)) ([(id, P)].all (mayOf false))).2 = true := by
  have hb : [(id, P)].all (mayOf false) = true := by
    unfold mayOf mayB
    simp
    omega
  rw [hb]
  unfold formS
  split <;> rfl
/-- What With answers when it fails. -/
theorem with_fails (hx : Bool) (pr : Int) (l8 : List Int) (id : Nat) (hid : id < 256) (s e i d l b : Bool) (t li tl : Nat) (hli : li < 256) (htl : tl < 256) (h : ¬ (withM hx pr l8 id s e i d l b t li tl).2.2.2 = 0) :
    withM hx pr l8 id s e i d l b t li tl = (hx, pr, l8, 40) ∧ (id = 0 ∨ rightB l b t li tl = false) := by
  have hn := putM_ne s e i d l b t li tl
  have he := putM_err s e i d l b t li tl
  unfold withM at h ⊢
  generalize putM s e i d l b t li tl = P at *
  by_cases hr : rightB l b t li tl = true
  · rw [if_pos hr] at he
    rw [if_pos he] at h ⊢
    by_cases h1 : (formS ([(id, P.1)].all (mayOf true)) ([(id, P.1)].all (mayOf false))).2 = true
    · rw [if_pos h1] at h
      exact absurd rfl h
    · rw [if_neg h1]
      refine ⟨rfl, .inl ?_⟩
      by_cases h0 : id = 0
      · exact h0
      · exact absurd (form_one id hid h0 (hn hr hli htl).1 (hn hr hli htl).2) h1
  · rw [if_neg hr] at he
    rw [if_neg (by omega), he]
    exact ⟨rfl, .inr (by simpa using hr)⟩
/-- What With gave Of finds. -/
theorem with_of (m : Bool) (ty sq ti ss : Int) (l5 l9 l8 : List Int) (pd pr : Int) (hx : Bool) (id : Nat) (hid : id < 256) (s e i d l b : Bool) (t li tl : Nat) (hli : li < 256) (htl : tl < 256) (h : (withM hx pr l8 id s e i d l b t li tl).2.2.2 = 0) :
    (withM hx pr l8 id s e i d l b t li tl).1 = true ∧ mark_Of.f m ty sq ti ss l5 (withM hx pr l8 id s e i d l b t li tl).1 (withM hx pr l8 id s e i d l b t li tl).2.1 (withM hx pr l8 id s e i d l b t li tl).2.2.1 l9 pd (id : Int) = some (s, e, i, d, l, b, (t : Int), (li : Int), (tl : Int), true) := by
  have he := putM_err s e i d l b t li tl
  have hF := putM_fair id hid s e i d l b t li tl
  have hpp := parse_put4 (s := s) (e := e) (i := i) (d := d) (l := l) (b := b) (t := t) (li := li) (tl := tl)
  have hlen := putM_len s e i d l b t li tl
  unfold withM at h ⊢
  generalize putM s e i d l b t li tl = P at *
  by_cases hr : rightB l b t li tl = true
  · rw [if_pos hr] at he
    rw [if_pos he] at h ⊢
    have hpp' := hpp hr hli htl
    by_cases h1 : (formS ([(id, P.1)].all (mayOf true)) ([(id, P.1)].all (mayOf false))).2 = true
    · rw [if_pos h1]
      obtain ⟨q, hq, hq6, hq0⟩ := formS_ok h1
      rw [hq, Int.toNat_natCast]
      refine ⟨rfl, ?_⟩
      obtain ⟨hb1, _⟩ := putS_back hF hq0
      have hl := putS_len (p := q) (E := [(id, P.1)]) 3 (by intro x hx; obtain rfl : x = (id, P.1) := (by simpa using hx); exact hlen)
      simp only [List.length_singleton] at hl
      rw [mark_Of_f m ty sq ti ss l5 l9 pd true q id hq6 (putS_bts hF) (by omega)]
      unfold ofM
      rw [if_pos rfl, hb1]
      have hfind : findR id [(id, P.1)] = (P.1, true) := by unfold findR; simp
      simp only [if_true, hfind, hpp', ofT]
      rfl
    · rw [if_neg h1] at h
      simp at h
  · rw [if_neg hr] at he
    rw [if_neg (by omega)] at h
    simp at h
    omega
end Go.Proofs.Ytjcejgolcdgipaa.K4
