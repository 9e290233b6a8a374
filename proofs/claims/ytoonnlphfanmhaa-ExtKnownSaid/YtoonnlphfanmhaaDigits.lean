/- Digits of bytes, numbers of digits, bytes of digits: plain mathematics, no program. -/
namespace Go.Proofs.Ytoonnlphfanmhaa

/-- The number that the digits f at .. make, n of them, the first one the greatest. -/
def vf (f : Nat → Nat) (at_ : Nat) : Nat → Nat
  | 0 => 0
  | n + 1 => 2 * vf f at_ n + f (at_ + n)
theorem vf_lt (f : Nat → Nat) (a n : Nat) (h : ∀ i, f i < 2) : vf f a n < 2 ^ n := by
  induction n with
  | zero => simp [vf]
  | succ n ih => have := h (a + n); simp only [vf, Nat.pow_succ]; omega
theorem vf_add (f : Nat → Nat) (a m n : Nat) : vf f a (m + n) = vf f a m * 2 ^ n + vf f (a + m) n := by
  induction n with
  | zero => simp [vf]
  | succ n ih =>
    show 2 * vf f a (m + n) + f (a + (m + n)) = vf f a m * 2 ^ (n + 1) + (2 * vf f (a + m) n + f (a + m + n))
    rw [ih, Nat.pow_succ, ← Nat.add_assoc a m n, Nat.mul_add, ← Nat.mul_assoc, Nat.mul_comm 2 (vf f a m), Nat.mul_assoc, Nat.mul_comm 2 (2 ^ n)]
    omega
theorem vf_congr (f g : Nat → Nat) (a n : Nat) (h : ∀ i, a ≤ i → i < a + n → f i = g i) : vf f a n = vf g a n := by
  induction n with
  | zero => rfl
  | succ n ih => simp only [vf]; rw [ih (fun i h1 h2 => h i h1 (by omega)), h (a + n) (by omega) (by omega)]

/-- The digit i of bytes. -/
def dig (bs : List Nat) (i : Nat) : Nat := bs.getD (i / 8) 0 / 2 ^ (7 - i % 8) % 2
theorem dig_lt (bs : List Nat) (i : Nat) : dig bs i < 2 := Nat.mod_lt _ (by decide)
/-- The number of n digits of bytes from a on. -/
def vl (bs : List Nat) (a n : Nat) : Nat := vf (dig bs) a n
theorem vl_lt (bs : List Nat) (a n : Nat) : vl bs a n < 2 ^ n := vf_lt _ _ _ (dig_lt bs)
theorem vl_zero (bs : List Nat) (a : Nat) : vl bs a 0 = 0 := rfl
theorem vl_succ (bs : List Nat) (a n : Nat) : vl bs a (n + 1) = 2 * vl bs a n + dig bs (a + n) := rfl
theorem vl_add (bs : List Nat) (a m n : Nat) : vl bs a (m + n) = vl bs a m * 2 ^ n + vl bs (a + m) n := vf_add _ _ _ _
theorem dig_at (bs : List Nat) (k j : Nat) (h : j < 8) : dig bs (8 * k + j) = bs.getD k 0 / 2 ^ (7 - j) % 2 := by
  unfold dig
  rw [show (8 * k + j) / 8 = k from by omega, show (8 * k + j) % 8 = j from by omega]
theorem vl_byte (bs : List Nat) (k : Nat) (h : bs.getD k 0 < 256) : vl bs (8 * k) 8 = bs.getD k 0 := by
  simp only [vl_succ, vl_zero, dig_at bs k 0 (by decide), dig_at bs k 1 (by decide), dig_at bs k 2 (by decide), dig_at bs k 3 (by decide), dig_at bs k 4 (by decide), dig_at bs k 5 (by decide), dig_at bs k 6 (by decide), dig_at bs k 7 (by decide)]
  generalize bs.getD k 0 = b at *
  omega
theorem vl_high (bs : List Nat) (k : Nat) (h : bs.getD k 0 < 256) : vl bs (8 * k) 4 = bs.getD k 0 / 16 := by
  simp only [vl_succ, vl_zero, dig_at bs k 0 (by decide), dig_at bs k 1 (by decide), dig_at bs k 2 (by decide), dig_at bs k 3 (by decide)]
  generalize bs.getD k 0 = b at *
  omega
theorem vl_low (bs : List Nat) (k : Nat) : vl bs (8 * k + 4) 4 = bs.getD k 0 % 16 := by
  simp only [vl_succ, vl_zero, dig_at bs k 4 (by decide), dig_at bs k 5 (by decide), dig_at bs k 6 (by decide), dig_at bs k 7 (by decide), Nat.add_assoc]
  generalize bs.getD k 0 = b at *
  omega

/-- The lowest k digits of x, the greatest first. -/
def ofn (x : Nat) : Nat → List Nat
  | 0 => []
  | k + 1 => (x / 2 ^ k % 2) :: ofn x k
theorem ofn_length (x k : Nat) : (ofn x k).length = k := by induction k with | zero => rfl | succ k ih => simp [ofn, ih]
theorem ofn_lt (x k : Nat) : ∀ d ∈ ofn x k, d < 2 := by
  induction k with
  | zero => intro d h; cases h
  | succ k ih => intro d h; rcases List.mem_cons.1 h with h | h; · subst h; exact Nat.mod_lt _ (by decide)
                 · exact ih d h
theorem vf_ofn (x k : Nat) : ∀ (A B : List Nat), vf (fun i => (A ++ (ofn x k ++ B)).getD i 0) A.length k = x % 2 ^ k := by
  induction k with
  | zero => intro A B; simp [vf, Nat.mod_one]
  | succ k ih =>
    intro A B
    rw [Nat.add_comm k 1, vf_add]
    have h1 : vf (fun i => (A ++ (ofn x (1 + k) ++ B)).getD i 0) A.length 1 = x / 2 ^ k % 2 := by
      rw [Nat.add_comm 1 k]
      simp [vf, ofn]
    have h2 := ih (A ++ [x / 2 ^ k % 2]) B
    have h3 : A ++ [x / 2 ^ k % 2] ++ (ofn x k ++ B) = A ++ (ofn x (1 + k) ++ B) := by
      rw [Nat.add_comm 1 k]; simp [ofn]
    rw [h3] at h2
    rw [List.length_append, show [x / 2 ^ k % 2].length = 1 from rfl] at h2
    rw [h1, h2, Nat.add_comm 1 k, Nat.mod_pow_succ]
    rw [Nat.mul_comm]; omega

/-- Byte i of digits. -/
def byteAt (D : List Nat) (i : Nat) : Nat :=
  D.getD (8 * i) 0 * 128 + D.getD (8 * i + 1) 0 * 64 + D.getD (8 * i + 2) 0 * 32 + D.getD (8 * i + 3) 0 * 16 + D.getD (8 * i + 4) 0 * 8 + D.getD (8 * i + 5) 0 * 4 + D.getD (8 * i + 6) 0 * 2 + D.getD (8 * i + 7) 0
/-- The bytes that digits make, filled up. -/
def pack (D : List Nat) : List Nat := (List.range ((D.length + 7) / 8)).map (byteAt D)
def Dgs (D : List Nat) : Prop := ∀ d ∈ D, d < 2
theorem Dgs.nil : Dgs [] := fun _ h => by cases h
theorem Dgs.getD {D : List Nat} (h : Dgs D) (j : Nat) : D.getD j 0 < 2 := by
  by_cases hj : j < D.length
  · simp [hj]; exact h _ (List.getElem_mem hj)
  · simp [Nat.not_lt.1 hj]
theorem Dgs.append {a b : List Nat} (ha : Dgs a) (hb : Dgs b) : Dgs (a ++ b) := fun x hx => by
  rcases List.mem_append.1 hx with h | h
  · exact ha x h
  · exact hb x h
theorem pack_length (D : List Nat) : (pack D).length = (D.length + 7) / 8 := by simp [pack]
theorem pack_nil : pack [] = [] := rfl
theorem pack_getD (D : List Nat) (i : Nat) : (pack D).getD i 0 = byteAt D i := by
  by_cases h : i < (D.length + 7) / 8
  · simp [pack, h]
  · have h8 : D.length ≤ 8 * i := by omega
    have h0 : ∀ j, 8 * i ≤ j → D.getD j 0 = 0 := fun j hj => by simp [List.getD, List.getElem?_eq_none (by omega : D.length ≤ j)]
    rw [List.getD_eq_getElem?_getD, List.getElem?_eq_none (by rw [pack_length]; omega)]
    simp only [byteAt, h0 _ (Nat.le_refl _), h0 (8 * i + 1) (by omega), h0 (8 * i + 2) (by omega), h0 (8 * i + 3) (by omega), h0 (8 * i + 4) (by omega), h0 (8 * i + 5) (by omega), h0 (8 * i + 6) (by omega), h0 (8 * i + 7) (by omega)]
    rfl
theorem byteAt_lt {D : List Nat} (h : Dgs D) (i : Nat) : byteAt D i < 256 := by
  unfold byteAt
  have h0 := h.getD (8 * i); have h1 := h.getD (8 * i + 1); have h2 := h.getD (8 * i + 2); have h3 := h.getD (8 * i + 3)
  have h4 := h.getD (8 * i + 4); have h5 := h.getD (8 * i + 5); have h6 := h.getD (8 * i + 6); have h7 := h.getD (8 * i + 7)
  omega
theorem dig_pack {D : List Nat} (h : Dgs D) (i : Nat) : dig (pack D) i = D.getD i 0 := by
  have hi : i = 8 * (i / 8) + i % 8 := by omega
  generalize i / 8 = k at hi
  have hj : i % 8 < 8 := Nat.mod_lt _ (by decide)
  generalize i % 8 = j at hi hj
  subst hi
  rw [dig_at _ _ _ hj, pack_getD]
  unfold byteAt
  have h0 := h.getD (8 * k); have h1 := h.getD (8 * k + 1); have h2 := h.getD (8 * k + 2); have h3 := h.getD (8 * k + 3)
  have h4 := h.getD (8 * k + 4); have h5 := h.getD (8 * k + 5); have h6 := h.getD (8 * k + 6); have h7 := h.getD (8 * k + 7)
  rcases (by omega : j = 0 ∨ j = 1 ∨ j = 2 ∨ j = 3 ∨ j = 4 ∨ j = 5 ∨ j = 6 ∨ j = 7) with rfl | rfl | rfl | rfl | rfl | rfl | rfl | rfl <;> (try simp only [Nat.add_zero]) <;>
  · generalize D.getD (8 * k) 0 = a0 at *; generalize D.getD (8 * k + 1) 0 = a1 at *; generalize D.getD (8 * k + 2) 0 = a2 at *; generalize D.getD (8 * k + 3) 0 = a3 at *
    generalize D.getD (8 * k + 4) 0 = a4 at *; generalize D.getD (8 * k + 5) 0 = a5 at *; generalize D.getD (8 * k + 6) 0 = a6 at *; generalize D.getD (8 * k + 7) 0 = a7 at *
    omega
theorem pack_bytes {D : List Nat} (h : Dgs D) : ∀ b ∈ pack D, b < 256 := by
  intro b hb
  simp only [pack, List.mem_map] at hb
  obtain ⟨i, _, rfl⟩ := hb
  exact byteAt_lt h i
/-- What stands at its place: a number that was put. -/
theorem vl_pack {A B : List Nat} (x k : Nat) (hA : Dgs A) (hB : Dgs B) : vl (pack (A ++ (ofn x k ++ B))) A.length k = x % 2 ^ k := by
  rw [← vf_ofn x k A B]
  exact vf_congr _ _ _ _ fun i _ _ => dig_pack (hA.append (Dgs.append (ofn_lt x k) hB)) i
theorem getD_snoc (D : List Nat) (d j : Nat) : (D ++ [d]).getD j 0 = if j = D.length then d else D.getD j 0 := by
  simp only [List.getD_eq_getElem?_getD, List.getElem?_append]
  by_cases h : j < D.length
  · rw [if_pos h, if_neg (by omega)]
  · rw [if_neg h]
    by_cases h2 : j = D.length
    · rw [if_pos h2]; subst h2; simp
    · rw [if_neg h2, List.getElem?_eq_none (by simp; omega), List.getElem?_eq_none (by omega)]
theorem byteAt_snoc_other (D : List Nat) (d i : Nat) (h : i ≠ D.length / 8) : byteAt (D ++ [d]) i = byteAt D i := by
  unfold byteAt
  simp only [getD_snoc]
  rw [if_neg (by omega), if_neg (by omega), if_neg (by omega), if_neg (by omega), if_neg (by omega), if_neg (by omega), if_neg (by omega), if_neg (by omega)]
theorem byteAt_snoc (D : List Nat) (d : Nat) : byteAt (D ++ [d]) (D.length / 8) = byteAt D (D.length / 8) + d * 2 ^ (7 - D.length % 8) := by
  have h0 : ∀ j, D.length ≤ j → D.getD j 0 = 0 := fun j hj => by simp [List.getD, List.getElem?_eq_none hj]
  have hl := h0 D.length (Nat.le_refl _)
  have hi : D.length = 8 * (D.length / 8) + D.length % 8 := by omega
  have hj : D.length % 8 < 8 := Nat.mod_lt _ (by decide)
  unfold byteAt
  simp only [getD_snoc]
  generalize D.length % 8 = j at *
  generalize D.length / 8 = k at *
  rw [hi] at hl ⊢
  rcases (by omega : j = 0 ∨ j = 1 ∨ j = 2 ∨ j = 3 ∨ j = 4 ∨ j = 5 ∨ j = 6 ∨ j = 7) with rfl | rfl | rfl | rfl | rfl | rfl | rfl | rfl <;> simp only [Nat.add_zero] at hl ⊢ <;> rw [hl] <;> simp <;> omega
/-- A digit more, where a byte begins. -/
theorem pack_snoc_new (D : List Nat) (d : Nat) (h : D.length % 8 = 0) : pack (D ++ [d]) = pack D ++ [d * 128] := by
  apply List.ext_getElem?
  intro i
  have e1 : ∀ (L : List Nat) (j : Nat), j < L.length → L[j]? = some (L.getD j 0) := fun L j hj => by simp [hj]
  by_cases hi : i < (D.length + 7) / 8
  · rw [List.getElem?_append_left (by rw [pack_length]; exact hi), e1 _ _ (by rw [pack_length]; simp; omega), e1 _ _ (by rw [pack_length]; exact hi), pack_getD, pack_getD, byteAt_snoc_other _ _ _ (by omega)]
  · rw [List.getElem?_append_right (by rw [pack_length]; omega), pack_length]
    by_cases h2 : i = (D.length + 7) / 8
    · subst h2
      rw [e1 _ _ (by rw [pack_length]; simp; omega), pack_getD]
      have h8 : (D.length + 7) / 8 = D.length / 8 := by omega
      have hb := byteAt_snoc D d
      have h0 : byteAt D (D.length / 8) = 0 := by
        have hz : ∀ j, D.length ≤ j → D.getD j 0 = 0 := fun j hj => by simp [List.getD, List.getElem?_eq_none hj]
        unfold byteAt
        rw [hz _ (by omega), hz _ (by omega), hz _ (by omega), hz _ (by omega), hz _ (by omega), hz _ (by omega), hz _ (by omega), hz _ (by omega)]
      rw [h8, hb, h0, h]
      simp
    · rw [List.getElem?_eq_none (by rw [pack_length]; simp; omega), List.getElem?_eq_none (by simp; omega)]
/-- .. within a byte. -/
theorem pack_snoc_in (D : List Nat) (d : Nat) (h : D.length % 8 ≠ 0) : pack (D ++ [d]) = (pack D).set (D.length / 8) ((pack D).getD (D.length / 8) 0 + d * 2 ^ (7 - D.length % 8)) := by
  apply List.ext_getElem?
  intro i
  have e1 : ∀ (L : List Nat) (j : Nat), j < L.length → L[j]? = some (L.getD j 0) := fun L j hj => by simp [hj]
  by_cases hi : i < (D.length + 7) / 8
  · rw [e1 _ _ (by rw [pack_length]; simp; omega), pack_getD]
    by_cases h2 : i = D.length / 8
    · subst h2
      rw [List.getElem?_set_self (by rw [pack_length]; exact hi), byteAt_snoc, pack_getD]
    · rw [List.getElem?_set_ne (by omega), e1 _ _ (by rw [pack_length]; exact hi), pack_getD, byteAt_snoc_other _ _ _ h2]
  · rw [List.getElem?_eq_none (by rw [pack_length]; simp; omega), List.getElem?_eq_none (by simp [pack_length]; omega)]
end Go.Proofs.Ytoonnlphfanmhaa
