/- Texts of this session, one behind the other, what the row does not use left out: walks and laws over plain data. -/
import Derived.Test.YthgjhdcifdfhoaaPU2
import Derived.Test.YthgjhdcifdfhoaaWWords

namespace Go.Proofs.Ythgjhdcifdfhoaa
open Go.RowKit Go.Proofs.YthgjhdcifdfhoaaW.PrintWords

/-- Bytes as natural numbers. -/
def nb (l : List Int) : List Nat := l.map Int.toNat
def ib (l : List Nat) : List Int := l.map Int.ofNat
def Oks (l : List Int) : Prop := ∀ x ∈ l, 0 ≤ x ∧ x < 256
instance (l : List Int) : Decidable (Oks l) := by unfold Oks; exact inferInstance
theorem nb_length (l : List Int) : (nb l).length = l.length := by simp [nb]
theorem ib_length (l : List Nat) : (ib l).length = l.length := by simp [ib]
theorem ib_append (a b : List Nat) : ib (a ++ b) = ib a ++ ib b := List.map_append
theorem nb_bts {l : List Int} (h : Oks l) : Bts (nb l) := by
  intro b hb
  obtain ⟨x, hx, rfl⟩ := List.mem_map.1 hb
  have := h x hx
  omega
theorem bv_nb {l : List Int} (h : Oks l) : bv (nb l) = l.map (Value.int .u8) := by
  unfold bv nb
  rw [List.map_map]
  apply List.map_congr_left
  intro x hx
  have := h x hx
  show Value.int .u8 ((x.toNat : Nat) : Int) = _
  rw [Int.toNat_of_nonneg this.1]
theorem sl_of_C {w : World} {A : Option Addr} {l : List Int} {c : Nat} (h : Kd.C (Kd.int .u8) w A l.length l) (hc : l.length ≤ c) (ho : Oks l) : Sl w (.slice A l.length c) (bv (nb l)) := by
  rw [bv_nb ho]
  obtain ⟨_, _, hn⟩ := h
  rcases Nat.eq_zero_or_pos l.length with h0 | hpos
  · have : l = [] := List.length_eq_zero_iff.1 h0
    subst this
    exact .inl ⟨rfl, _, _, rfl⟩
  · obtain ⟨ad, rfl, hcell⟩ := hn hpos
    have hat : ∀ j u, l[j]? = some u → w.cell? (ad.add j) = some (.int .u8 u) := by
      intro j u hu
      obtain ⟨cs, _, hK, hcc⟩ := hcell j u hu
      have hK' : cs = [.int .u8 u] := hK
      subst hK'
      have := hcc 0 _ rfl
      rwa [show j * (Kd.int .u8).sz + 0 = j from Nat.mul_one j] at this
    have h0 := hat 0 l[0] (List.getElem?_eq_getElem hpos)
    obtain ⟨b, off, spot⟩ := ad
    have hspot : spot = none := by simpa [Addr.add] using World.cell?_spot h0
    subst hspot
    have hb : b < w.heap.size := World.block_lt_of_cell? w _ h0
    refine .inr ⟨fun e => by rw [List.map_eq_nil_iff] at e; rw [e] at hpos; simp at hpos, b, off, c, by rw [List.length_map], by rw [List.length_map]; exact hc, hb, fun j u hu => ?_⟩
    rw [List.getElem?_map] at hu
    obtain ⟨x, hx, rfl⟩ := Option.map_eq_some_iff.1 hu
    have := hat j x hx
    rwa [Addr.add_lit] at this
theorem C_of_sl {w : World} {A : Option Addr} {n c : Nat} {bs : List Nat} (h : Sl w (.slice A n c) (bv bs)) (hl : bs.length ≤ 1000000000) : Kd.C (Kd.int .u8) w A (ib bs).length (ib bs) := by
  refine ⟨rfl, by rw [ib_length]; omega, fun hpos => ?_⟩
  rw [ib_length] at hpos
  rcases h with ⟨h0, _⟩ | ⟨_, g, off, c', he, hle, hg, hc⟩
  · rw [← List.length_eq_zero_iff, bv_length] at h0; omega
  · injection he with e1 e2 e3
    subst e1
    refine ⟨⟨g, off, none⟩, rfl, fun j p hj => ⟨[.int .u8 p], rfl, rfl, fun i u hu => ?_⟩⟩
    rcases i with _ | i
    · simp only [List.getElem?_cons_zero, Option.some.injEq] at hu
      subst hu
      unfold ib at hj
      rw [List.getElem?_map] at hj
      obtain ⟨x, hx, rfl⟩ := Option.map_eq_some_iff.1 hj
      have := hc j (.int .u8 (x : Int)) (by unfold bv; rw [List.getElem?_map, hx]; rfl)
      rw [show j * (Kd.int .u8).sz + 0 = j from Nat.mul_one j, Addr.add_lit]
      exact this
    · simp at hu
theorem bv_ib (bs : List Nat) : encs (Value.int .u8) (ib bs) = bv bs := by simp [bv, ib, encs]
theorem own_of_Rb {e : Nat} {w : World} {base : Nat} {ok : Nat → Prop} {v : Value} {bs : List Nat} (h : (Kd.int .u8).R e w base ok v (ib bs)) : w.ownsRow base e 1 v bs.length (bv bs) := by
  have := Kd.own_of_R h
  rw [ib_length, bv_ib] at this
  exact this
end Go.Proofs.Ythgjhdcifdfhoaa
