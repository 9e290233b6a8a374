/- ExtKnown: what its walk calls; each statement of the chapter that it asks is true for all arguments. -/
import Derived.Test.YtoonnlphfanmhaaK3P
namespace Go.Proofs.Ytoonnlphfanmhaa.K3
open Go.RowKit Go.Proofs.YtoonnlphfanmhaaW.PrintWords Go.Proofs.YtoonnlphfanmhaaW.PrintLast Go.Proofs.YtoonnlphfanmhaaW.PrintMore

theorem C_of_sl {w : World} {A : Option Addr} {n c : Nat} {bs : List Nat} (h : Sl w (.slice A n c) (bv bs)) (hn : n = bs.length) (hl : bs.length ≤ 1000000000) : Kd.C (Kd.int .u8) w A (ib bs).length (ib bs) ∧ (ib bs).length ≤ c := by
  subst hn
  rw [ib_length]
  by_cases h0 : bs = []
  · subst h0
    exact ⟨⟨rfl, by simp, fun h => absurd h (by simp)⟩, Nat.zero_le _⟩
  · have hle := h.le_cap (fun e => h0 (List.map_eq_nil_iff.1 e))
    refine ⟨⟨ib_length _, by omega, fun hpos => ?_⟩, hle⟩
    obtain ⟨g, off, rfl, _, _⟩ := h.at_ (bv_getD bs 0 hpos)
    refine ⟨_, rfl, fun j p hj => ⟨[.int .u8 p], rfl, rfl, fun i u hu => ?_⟩⟩
    have hjl : j < bs.length := by
      have := (List.getElem?_eq_some_iff.1 hj).1
      rw [ib_length] at this
      exact this
    rcases i with _ | i
    · have hp : p = ((bs.getD j 0 : Nat) : Int) := by
        unfold ib at hj
        rw [List.getElem?_map, List.getElem?_eq_getElem hjl] at hj
        injection hj with hj
        rw [← hj]
        simp [hjl]
      obtain ⟨g', off', he, _, hc⟩ := h.at_ (bv_getD bs j hjl)
      injection he with he
      injection he with h1 h2
      subst h1 h2
      have hu' : Value.int .u8 p = u := by simpa using hu
      rw [← hu', hp, show j * (Kd.int .u8).sz + 0 = j from Nat.mul_one j, Addr.add_lit]
      exact hc
    · simp at hu
theorem C_of_els {w : World} {A : Option Addr} {n c : Nat} {E : List (Nat × List Nat)} (h : Els w (.slice A n c) E) (hn : n = E.length) (hE : Fair E) : Kd.C k64 w A (E.map toS).length (E.map toS) ∧ (E.map toS).length ≤ c := by
  subst hn
  obtain ⟨L, ho, hl, hi⟩ := h
  have hEl := hE.1
  rw [List.length_map]
  obtain ⟨hlen, h2⟩ := ho
  rcases h2 with ⟨h0, _⟩ | ⟨h0, g, off, cap, he, hle, hg, hc⟩
  · have : E = [] := List.eq_nil_of_length_eq_zero h0
    subst this
    exact ⟨⟨rfl, by simp, fun h => absurd h (by simp)⟩, Nat.zero_le _⟩
  · injection he with hA _ hcap
    subst hA hcap
    refine ⟨⟨List.length_map _, by omega, fun _ => ⟨_, rfl, fun j p hj => ?_⟩⟩, hle⟩
    have hjl : j < E.length := by
      have := (List.getElem?_eq_some_iff.1 hj).1
      rw [List.length_map] at this
      exact this
    have hp : p = toS E[j] := by
      rw [List.getElem?_map, List.getElem?_eq_getElem hjl] at hj
      injection hj with hj
      exact hj.symm
    subst hp
    obtain ⟨h1, h2, h3, h4⟩ := hi j hjl (by omega)
    obtain ⟨A1, c1, hv⟩ := h4.form8
    rw [hv] at h4
    have hcs := C_of_sl h4 rfl (by have := (hE.at_ hjl).2.2; omega)
    refine ⟨[.int .u8 (E[j].1 : Int), .slice A1 E[j].2.length c1], rfl, ?_, fun i u hu => ?_⟩
    · have := k64_mk w (toS E[j]) (A1 := A1) (c1 := c1) hcs.2 hcs.1
      rw [show (toS E[j]).f1.length = E[j].2.length from ib_length _] at this
      exact this
    · rw [Addr.add_lit]
      refine hc _ _ ?_
      have hi2 : i < 2 := by
        have := (List.getElem?_eq_some_iff.1 hu).1
        simpa using this
      rcases (by omega : i = 0 ∨ i = 1) with rfl | rfl
      · rw [show j * k64.sz + 0 = j * 2 from rfl, els_id L j (by omega), h1]
        exact hu
      · rw [show j * k64.sz + 1 = j * 2 + 1 from rfl, els_data L j (by omega), hv]
        exact hu
theorem kp_of_below {w w' : World} (h : Below w.heap.size w w') : Kp (fun _ => True) w w' := Kp.of_below h (fun _ _ hl => hl)

theorem puts_all {w : World} {A : Option Addr} {n c : Nat} {E : List (Nat × List Nat)} (p : Int) (pn : Nat) (hp : p = pn) (hpn : pn < 65536) (id : Int) (idn : Nat) (hid : id = idn) (h : Els w (.slice A n c) E) (hn : n = E.length) (hE : Fair E) :
    Calls Try.prog 8 #[.int .u16 p, .slice A n c, .int .u8 id] w fun e w' => e = .returned (.bool true) ∧ Kp (fun _ => True) w w' := by
  subst hp hid
  obtain ⟨k, hf⟩ := (ExtPuts_ev pn idn hpn (fun x hx => ⟨(hE.2 x hx).1, (hE.2 x hx).2.1⟩)).rounds
  have hC := C_of_els h hn hE
  have := easellaw03_ExtPuts.calls k (pn : Int) A c (E.map toS) (idn : Int) true w hC.1 hC.2 hf
  rw [List.length_map, ← hn] at this
  exact this.mono fun e w' ⟨he, hb⟩ => ⟨he, kp_of_below hb⟩
theorem back_all {w : World} {A B : Option Addr} {n c m d : Nat} {E : List (Nat × List Nat)} {bs : List Nat} (p : Int) (pn : Nat) (hp : p = pn) (hpn : pn < 65536) (h : Els w (.slice A n c) E) (hn : n = E.length) (hE : Fair E) (hs : Sl w (.slice B m d) (bv bs)) (hm : m = bs.length) (hb : Bts bs) (hl : bs.length ≤ 1000000) :
    Calls Try.prog 7 #[.int .u16 p, .slice A n c, .slice B m d] w fun e w' => e = .returned (.bool true) ∧ Kp (fun _ => True) w w' := by
  subst hp
  obtain ⟨k, hf⟩ := (ExtBack_ev pn hpn (fun x hx => ⟨(hE.2 x hx).1, (hE.2 x hx).2.1⟩) hb).rounds
  have hC := C_of_els h hn hE
  have hC2 := C_of_sl hs hm (by omega)
  have := easellaw03_ExtBack.calls k (pn : Int) A c (E.map toS) B d (ib bs) true w hC.1 hC.2 hC2.1 hC2.2 hf
  rw [List.length_map, ← hn, ib_length, ← hm] at this
  exact this.mono fun e w' ⟨he, hb⟩ => ⟨he, kp_of_below hb⟩
theorem reads_all {w : World} {B : Option Addr} {m d : Nat} {bs : List Nat} (p : Int) (pn : Nat) (hp : p = pn) (hpn : pn < 65536) (hs : Sl w (.slice B m d) (bv bs)) (hb : Bts bs) :
    Calls Try.prog 6 #[.int .u16 p, .slice B m d] w fun e w' => e = .returned (.bool true) ∧ Kp (fun _ => True) w w' := by
  subst hp
  exact ExtReads_any pn hpn hs hb
theorem els_nil (w : World) : Els w (.slice none 0 0) [] := (ElsW.nil 0 64 w).els
theorem fair_nil : Fair [] := ⟨by simp, by simp⟩
/-- The profiles. -/
def profs : List Nat := [48862, 4096, 4111, 4112, 4095, 0, 48863, 4103]
theorem profs_lt (q : Nat) (h : q < 8) : profs.getD q 0 < 65536 := by
  have : ∀ q, q < 8 → profs.getD q 0 < 65536 := by decide
  exact this q h
/-- The profiles' row, in block g. -/
def PR (w : World) (g : Nat) : Prop := ∀ q, q < 8 → w.cell? ⟨g, q, none⟩ = some (.int .u16 ((profs.getD q 0 : Nat) : Int))
theorem PR.kp {w w' : World} {g : Nat} (h : PR w g) (hk : Kp (fun _ => True) w w') : PR w' g := fun q hq => hk.cell_some (h q hq) trivial
theorem Sl.litb (w : World) (cells : Array Value) (bs : List Nat) (n c : Nat) (hc : cells = (bv bs).toArray) (hn : n = bs.length) (hcc : c = bs.length) (hl : bs.length ≤ 1000000) : Sl (w.alloc (.cells cells 5)) (.slice (some ⟨w.heap.size, 0, none⟩) n c) (bv bs) := by
  subst hc
  exact Sl.lit w 5 (bv bs) n c (by rw [bv_length, hn]) (by rw [bv_length, hcc]) (by rw [bv_length]; unfold maxLen; omega)
theorem cutB {w : World} {g off n cap : Nat} {bs : List Nat} (h : Sl w (.slice (some ⟨g, off, none⟩) n cap) (bv bs)) (k : Nat) (hk : k ≤ bs.length) (hc : k ≤ cap) : Sl w (.slice (some ⟨g, off, none⟩) k cap) (bv (bs.take k)) := by
  have := h.cut 0 k cap (by rw [bv_length]; omega) hc
  rw [Nat.add_zero, List.drop_zero] at this
  rw [show bv (bs.take k) = (bv bs).take k from by simp [bv, List.map_take]]
  exact this
theorem dropB {w : World} {g off n cap : Nat} {bs : List Nat} (h : Sl w (.slice (some ⟨g, off, none⟩) n cap) (bv bs)) (k m c : Nat) (hk : k + m = bs.length) (hc : m ≤ c) : Sl w (.slice (some ⟨g, off + k, none⟩) m c) (bv (bs.drop k)) := by
  have := h.cut k m c (by rw [bv_length]; omega) hc
  rw [List.take_of_length_le (by rw [List.length_drop, bv_length]; omega)] at this
  rw [show bv (bs.drop k) = (bv bs).drop k from by simp [bv, List.map_drop]]
  exact this
theorem Sl.empty (w : World) (A : Option Addr) (c : Nat) : Sl w (.slice A 0 c) (bv []) := .inl ⟨rfl, _, _, rfl⟩

theorem Sl.made (w : World) (n : Nat) (hn : n ≤ 1000) : Sl (w.alloc (.cells (madeCells #[.int .u8 0] n) 5)) (.slice (some ⟨w.heap.size, 0, none⟩) n n) (bv (List.replicate n 0)) := by
  have h := own_made w 0 5 .u8 n (Nat.zero_le _) (by omega)
  rw [show nums .u8 (List.replicate n 0) = bv (List.replicate n 0) from by simp [nums, bv]] at h
  exact Sl.of_own h
/-- Two elements written out, and the first of them alone. -/
theorem Els.lit2 {w : World} {V U : Value} (id : Nat) {xs ys : List Nat} (hid : id < 256) (hx : Sl w V (bv xs)) (hy : Sl w U (bv ys)) (bx : Bts xs) (by_ : Bts ys) (t : TypeId) :
    Els (w.alloc (.cells #[.int .u8 (id : Int), V, .int .u8 3, U] t)) (.slice (some ⟨w.heap.size, 0, none⟩) 2 2) [(id, xs), (3, ys)] ∧
      Els (w.alloc (.cells #[.int .u8 (id : Int), V, .int .u8 3, U] t)) (.slice (some ⟨w.heap.size, 0, none⟩) 1 2) [(id, xs)] := by
  have hx' := hx.alloc (.cells #[.int .u8 (id : Int), V, .int .u8 3, U] t)
  have hy' := hy.alloc (.cells #[.int .u8 (id : Int), V, .int .u8 3, U] t)
  have hc : ∀ j u, (els [(id, V), (3, U)])[j]? = some u → (w.alloc (.cells #[.int .u8 (id : Int), V, .int .u8 3, U] t)).cell? ⟨w.heap.size, 0 + j, none⟩ = some u := by
    intro j u hu
    rw [Nat.zero_add, cell_of_row _ _ _ _ _ _ (heap_alloc_new w _)]
    rw [← hu]
    simp [els, el]
  constructor
  · refine ⟨[(id, V), (3, U)], ⟨rfl, .inr ⟨by simp, _, 0, 2, rfl, Nat.le_refl _, by simp, hc⟩⟩, rfl, fun i h h' => ?_⟩
    rcases (by simp at h; omega : i = 0 ∨ i = 1) with rfl | rfl
    · exact ⟨rfl, hid, bx, hx'⟩
    · exact ⟨rfl, by simp, by_, hy'⟩
  · refine ⟨[(id, V)], ⟨rfl, .inr ⟨by simp, _, 0, 2, rfl, by simp, by simp, fun j u hu => ?_⟩⟩, rfl, fun i h h' => ?_⟩
    · refine hc j u ?_
      have hj : j < 2 := (List.getElem?_eq_some_iff.1 hu).1
      rw [show els [(id, V), (3, U)] = els [(id, V)] ++ els [(3, U)] from rfl, List.getElem?_append_left (show j < (els [(id, V)]).length from hj)]
      exact hu
    · obtain rfl : i = 0 := by simp at h; omega
      exact ⟨rfl, hid, bx, hx'⟩
def seven : List Nat := [0, 1, 2, 16, 17, 255, 256]
theorem seven_le (q : Nat) (h : q < 7) : seven.getD q 0 ≤ 256 := by
  have : ∀ q, q < 7 → seven.getD q 0 ≤ 256 := by decide
  exact this q h
theorem Bts.rep (n : Nat) : Bts (List.replicate n 0) := by
  intro b hb
  rw [(List.mem_replicate.1 hb).2]
  omega
theorem fair_one (id n : Nat) (hid : id < 256) (hn : n ≤ 256) : Fair [(id, List.replicate n 0)] := by
  refine ⟨by simp, fun x hx => ?_⟩
  obtain rfl : x = _ := by simpa using hx
  exact ⟨hid, Bts.rep n, by simp; omega⟩
theorem fair_two (id n : Nat) (hid : id < 256) (hn : n ≤ 256) : Fair [(id, List.replicate n 0), (3, [9])] := by
  refine ⟨by simp, fun x hx => ?_⟩
  rcases (by simpa using hx : x = (id, List.replicate n 0) ∨ x = (3, [9])) with rfl | rfl
  · exact ⟨hid, Bts.rep n, by simp; omega⟩
  · exact ⟨by simp, by intro b hb; simp at hb; omega, by simp⟩
end Go.Proofs.Ytoonnlphfanmhaa.K3
