/- slices.Insert as the runner has it. -/
import Derived.Test.YtgfcakdpfedokaaRun11
import Derived.Test.YtgfcakdpfedokaaIns
namespace Go.Proofs.Ytgfcakdpfedokaa
namespace Rn
set_option linter.unusedVariables false
set_option linter.unusedSimpArgs false
theorem ins_rows2 {P0 B A post cur ys R1 R2 : List Value} {a : Nat} (hcur : cur = P0 ++ (B ++ (A ++ post))) (ha : a = P0.length + B.length) (hl : 13 ≤ post.length) (hy : ys.length = 13)
    (h1 : R1 = cur.take (a + 13) ++ A ++ cur.drop (a + 13 + A.length)) (h2 : R2 = R1.take a ++ ys ++ R1.drop (a + ys.length)) : R2 = P0 ++ ((B ++ (ys ++ A)) ++ post.drop 13) := by
  have hc : cur = (P0 ++ B) ++ (A ++ post) := by rw [hcur]; simp
  have hlen : (cur.take (a + 13)).length = a + 13 := by rw [List.length_take, hc]; simp; omega
  have e1 : R1.take a = P0 ++ B := by
    rw [h1, List.append_assoc, List.take_append_of_le_length (by omega), List.take_take, Nat.min_eq_left (by omega), hc]
    exact List.take_left' (by simp [ha])
  have e2 : R1.drop (a + 13) = A ++ cur.drop (a + 13 + A.length) := by
    rw [h1, List.append_assoc]
    exact List.drop_left' hlen
  have e3 : cur.drop (a + 13 + A.length) = post.drop 13 := by
    rw [hc, show a + 13 + A.length = (P0 ++ B).length + (A.length + 13) by simp; omega, ← List.drop_drop, List.drop_left, ← List.drop_drop, List.drop_left]
  rw [h2, hy, e1, e2, e3]
  simp
theorem Ev.into {F G : Nat → Prop} {m m' : M} {S S' : St} {w w1 w' : World} (h : Ev F G m m' S S' w w1) (hh : w'.heap = w1.heap) (ho : w'.os = w1.os) (ht : w'.tape = w1.tape) (hp : w'.output = w1.output) : Ev F G m m' S S' w w' :=
  ⟨h.old, h.sub, h.rel.drew hh, by rw [hh]; exact h.size, fun b hb hG => by rw [hh]; exact h.keep b hb hG, h.fresh, by rw [ho]; exact h.os, by rw [ht]; exact h.tape, by rw [hp]; exact h.output⟩
theorem setRow_new (w : World) (R1 R2 : Array Value) (e : TypeId) : ((w.alloc (.cells R1 e (0, 0))).setRow w.heap.size R2).heap = (w.alloc (.cells R2 e (0, 0))).heap := by
  apply Array.ext_getElem?
  intro k
  by_cases hk : k = w.heap.size
  · subst hk
    rw [setRow_heap _ _ _ _ _ _ (show (w.alloc (.cells R1 e (0, 0))).heap[w.heap.size]? = some (.cells R1 e (0, 0)) by show (w.heap.push _)[w.heap.size]? = _; simp)]
    show _ = (w.heap.push _)[w.heap.size]?
    simp
  · rw [setRow_other _ _ _ _ hk]
    show (w.heap.push _)[k]? = (w.heap.push _)[k]?
    simp [Array.getElem?_push, hk]
theorem setRow_congr {a b : World} (h : a.heap = b.heap) (g : Nat) (r : Array Value) : (a.setRow g r).heap = (b.setRow g r).heap := by
  simp only [World.setRow, h]
theorem insA_inv {args : List AV} {S S' : St} {v : AV} (h : insA args S = some (v, S')) :
    ∃ id off len i vid voff c2 o2 l lv sz2 new S1 S2 S3 id', args = [.sl id off len len true, .i .i64 (.ofNat i), .sl vid voff 1 c2 o2] ∧ vid ≠ id ∧
      S.look id = some (.cells l 13, S1) ∧ S1.look vid = some (.cells lv sz2, S2) ∧ window lv voff 13 = some new ∧ off + len * 13 = l.length ∧ i < len ∧ small 120 (len + 1) = true ∧ l.all AV.flat = true ∧ new.all AV.flat = true ∧
      S2.put id none = some S3 ∧ S3.new (.cells (insCells i (l.drop off) new) 13) = some (id', S') ∧ v = .sl id' 0 (len + 1) (len + 1) true := by
  unfold insA at h
  split at h
  · rename_i id off len cap op i vid voff vlen c2 o2
    have hcs := cond_some h; clear h; obtain ⟨hb, h⟩ := hcs
    simp only [Bool.and_eq_true, Bool.not_eq_true'] at hb
    obtain ⟨⟨⟨b1, b2⟩, b3⟩, b4⟩ := hb
    have b2 := Nat.eq_of_beq_eq_true b2
    have b3 := Nat.eq_of_beq_eq_true b3
    have b4 := Nat.ne_of_beq_eq_false b4
    subst b1; subst b2; subst b3
    unfold ins2 at h
    split at h
    · rename_i l sz S1 hl
      have hcs := cond_some h; clear h; obtain ⟨hb, h⟩ := hcs
      have hsz := Nat.eq_of_beq_eq_true hb
      subst hsz
      split at h
      · rename_i lv sz2 S2 hlv
        split at h
        · rename_i new hwin
          unfold ins3 at h
          have hcs := cond_some h; clear h; obtain ⟨hb, h⟩ := hcs
          simp only [Bool.and_eq_true] at hb
          obtain ⟨⟨⟨⟨c1, c3⟩, c4⟩, c5⟩, c6⟩ := hb
          unfold killNew at h
          split at h
          · rename_i S3 hput
            unfold growS at h
            split at h
            · rename_i id' S4 hnew
              injection h with h; injection h with h1 h2; subst h2; subst h1
              exact ⟨id, off, cap, i, vid, voff, c2, o2, l, lv, sz2, new, S1, S2, S3, id', rfl, b4, hl, hlv, hwin, Nat.eq_of_beq_eq_true c1, blt_spec c3, c4, c5, c6, hput, hnew, rfl⟩
            · cases h
          · cases h
        · cases h
      · cases h
    · cases h
  · cases h

theorem insA_spec {args : List AV} {S S' : St} {v : AV} (h : insA args S = some (v, S')) :
    Ab S S' ∧ ∀ (F G : Nat → Prop) (m : M) (w : World) (vs : List Value) (R : Ending → World → Prop), Fits F G S' → Free m S S' → Rel F m S.h w → CRL m args vs →
      (∀ m' u w', Ev F G m m' S S' w w' → CR m' v u → R (.returned u) w') → CallsIn (FW none) 0 PP 35 vs.toArray w R := by
  obtain ⟨id, off, len, i, vid, voff, c2, o2, l, lv, sz2, new, S1, S2, S3, id', rfl, hne, hl, hlv, hwin, hlen, hi, hsm, hfl, hfn, hput, hnew, rfl⟩ := insA_inv h
  obtain ⟨ab1, hh1, hn1, hg1, hrd1, _, hid1⟩ := look_ab hl
  obtain ⟨ab2, hh2, hn2, hg2, hrd2, _, hid2⟩ := look_ab hlv
  rw [hh1] at hg2
  have hgS2 : H.get S2.h id = some (.cells l 13) := by rw [hh2, hh1]; exact hg1
  obtain ⟨ab3, _, hn3, _⟩ := put_ab hput hid1 (by rw [hgS2]; rfl)
  obtain ⟨ab4, _, hn4, hid4, _⟩ := new_ab hnew
  refine ⟨((ab1.trans ab2).trans ab3).trans ab4, fun F G m w vs R hf hfree hr hcr hR => ?_⟩
  have f3 := hf.back ab4
  have f2 := f3.back ab3
  have f1 := f2.back ab2
  simp only [CRL] at hcr
  obtain ⟨us, _, rfl, hs, ui, _, rfl, hui, uv, _, rfl, hv, rfl⟩ := hcr
  simp only [CR] at hs hui hv
  obtain ⟨L, hL, rfl⟩ := hs
  obtain ⟨Lv, hLv, rfl⟩ := hv
  subst hui
  obtain ⟨L', hL', pre, xs, post, e, hwb, hp, hcx, hext⟩ := hr.obj id _ hid1 (f1.1 id hrd1) hg1
  rw [hL] at hL'
  injection hL' with hL'
  subst hL'
  obtain ⟨L', hL', pre2, xs2, post2, e2, hwb2, hp2, hcx2, _⟩ := hr.obj vid _ hid2 (f2.1 vid hrd2) hg2
  rw [hLv] at hL'
  injection hL' with hL'
  subst hL'
  have hnb : Lv.blk ≠ L.blk := hr.apart vid id _ _ Lv L hid2 hid1 (f2.1 vid hrd2) (f1.1 id hrd1) hg2 hg1 hLv hL hne
  have hxl := hcx.length
  obtain ⟨q1, q2, q3⟩ := hcx2.window hwin
  have hxl2 := hcx2.length
  -- the parts
  obtain ⟨ys, hys⟩ : ∃ ys, ys = (xs2.drop voff).take 13 := ⟨_, rfl⟩
  obtain ⟨B, hB⟩ : ∃ B, B = (xs.drop off).take (i * 13) := ⟨_, rfl⟩
  obtain ⟨A, hA⟩ : ∃ A, A = (xs.drop off).drop (i * 13) := ⟨_, rfl⟩
  rw [← hys] at q3
  have hyl : ys.length = 13 := by rw [hys]; simp; omega
  have hBl : B.length = i * 13 := by rw [hB]; simp; omega
  have hAl : A.length = (len - i) * 13 := by rw [hA]; simp; omega
  have hflx := CRL.flat hcx hfl
  have h1y := CRL.flat q3 hfn
  have h1B : ∀ v ∈ B, v.oneCell' = true := fun v hv => hflx v (by rw [hB] at hv; exact List.mem_of_mem_drop (List.mem_of_mem_take hv))
  have h1A : ∀ v ∈ A, v.oneCell' = true := fun v hv => hflx v (by rw [hA] at hv; exact List.mem_of_mem_drop (List.mem_of_mem_drop hv))
  have hat : ∀ k v, xs[k]? = some v → (pre ++ (xs ++ post)).toArray[L.base + k]? = some v := fun k v hk => by
    rw [← hp]; simpa using seg_at pre xs post k v hk
  have hBs : ∀ j v, B[j]? = some v → (pre ++ (xs ++ post)).toArray[L.base + off + j]? = some v := fun j v hj => by
    rw [Nat.add_assoc]
    refine hat _ v ?_
    rw [hB] at hj
    have hjl : j < i * 13 := by
      have := (List.getElem?_eq_some_iff.1 hj).1
      simp at this; omega
    rwa [List.getElem?_take_of_lt hjl, List.getElem?_drop] at hj
  have hAs : ∀ j v, A[j]? = some v → (pre ++ (xs ++ post)).toArray[L.base + off + i * 13 + j]? = some v := fun j v hj => by
    rw [Nat.add_assoc, Nat.add_assoc]
    refine hat _ v ?_
    rw [hA, List.drop_drop, List.getElem?_drop] at hj
    rwa [Nat.add_assoc] at hj
  have hysat : ∀ j v, ys[j]? = some v → (pre2 ++ (xs2 ++ post2)).toArray[Lv.base + voff + j]? = some v := fun j v hj => by
    rw [Nat.add_assoc, ← hp2]
    have hjl : j < 13 := by
      have := (List.getElem?_eq_some_iff.1 hj).1
      omega
    rw [hys, List.getElem?_take_of_lt hjl, List.getElem?_drop] at hj
    simpa using seg_at pre2 xs2 post2 _ v hj
  have hcc : CRL m (insCells i (l.drop off) new) (B ++ (ys ++ A)) := by
    unfold insCells
    rw [hB, hA]
    exact ((hcx.drop off).take _).append (q3.append ((hcx.drop off).drop _))
  have ev2 : Ev F G m m S S2 w w := ⟨fun _ _ => rfl, Sub.rfl, by rw [hh2, hh1]; exact hr, Nat.le_refl _, fun _ _ _ => rfl, fun k L q1 q2 => by omega, rfl, rfl, rfl⟩
  have hfree' : m id' = none := hfree id' (by omega) (by omega)
  obtain ⟨s1, s2⟩ := small_big hsm (by omega)
  have hPP : PP = Try.prog := by unfold PP; rfl
  refine (callsIn_wide (n := 0)).2 ?_
  rw [hPP]
  by_cases hx0 : L.ext = 0
  · -- no room
    have hcall := ins_grow L.blk (L.base + off) len i Lv.blk (Lv.base + voff) (c2 + (if o2 then Lv.ext else 0)) _ _ e e2 B A ys w hwb hwb2 hi s1 s2 hBl hBs hAl hAs hyl hysat h1B h1A h1y
    have hcap : len + (if True then L.ext else 0) = len := by simp [hx0]
    rw [hcap]
    refine Calls.mono hcall fun en w' hw' => ?_
    obtain ⟨ext, post', R1, R2, R3, rfl, hext', hR3, rfl⟩ := hw'
    have ev3 := kill_rel (F := F) (G := G) hid1 hput (by rw [hgS2]; rfl) ev2.rel
    obtain ⟨ev4, hm4⟩ := new_rel hnew hf hfree' ev3.rel hcc post' ext hext' 108
    refine hR _ _ _ ((ev2.trans ev3 (ab1.trans ab2).nx ab3.nx).trans (ev4.into ?_ rfl rfl rfl) ((ab1.trans ab2).trans ab3).nx ab4.nx) ⟨⟨w.heap.size, 0, ext⟩, hm4, by simp⟩
    have t1 := setRow_new w R1 R2 108
    have t2 := setRow_new w R2 R3 108
    rw [show (B ++ (ys ++ A) ++ post').toArray = R3 by rw [hR3]; simp, ← t2]
    exact setRow_congr (show (((w.drew.alloc (.cells R1 108)).setRow w.heap.size R2).drew).heap = _ from t1) w.heap.size R3
  · -- room
    have hpl : 13 ≤ post.length := by
      have : 1 * 13 ≤ L.ext * 13 := Nat.mul_le_mul_right _ (by omega)
      omega
    have hdrop : xs.drop off = B ++ A := by rw [hB, hA]; exact (List.take_append_drop _ _).symm
    have hcur : pre ++ (xs ++ post) = (pre ++ xs.take off) ++ (B ++ (A ++ post)) := by
      have : xs = xs.take off ++ (B ++ A) := by rw [← hdrop]; exact (List.take_append_drop _ _).symm
      conv => lhs; rw [this]
      simp
    have hP0 : (pre ++ xs.take off).length = L.base + off := by simp; omega
    have hsz : (pre ++ (xs ++ post)).toArray.size = L.base + off + len * 13 + post.length := by simp; omega
    obtain ⟨R1, hR1⟩ : ∃ R1 : Array Value, R1 = ((pre ++ (xs ++ post)).toArray.toList.take (L.base + off + (i + 1) * 13) ++ A ++ (pre ++ (xs ++ post)).toArray.toList.drop (L.base + off + (i + 1) * 13 + A.length)).toArray := ⟨_, rfl⟩
    obtain ⟨R2, hR2⟩ : ∃ R2 : Array Value, R2 = (R1.toList.take (L.base + off + i * 13) ++ ys ++ R1.toList.drop (L.base + off + i * 13 + ys.length)).toArray := ⟨_, rfl⟩
    have hcap : len + (if True then L.ext else 0) = len + L.ext := by simp
    rw [hcap]
    have hfin : R2.toList = (pre ++ xs.take off) ++ ((B ++ (ys ++ A)) ++ post.drop 13) := by
      refine ins_rows2 (cur := pre ++ (xs ++ post)) (R1 := R1.toList) (a := L.base + off + i * 13) hcur (by rw [hP0, hBl]) hpl hyl ?_ (by rw [hR2])
      rw [hR1, show L.base + off + (i + 1) * 13 = L.base + off + i * 13 + 13 by omega]
    · have hcall := ins_shift L.blk (L.base + off) len (len + L.ext) i Lv.blk (Lv.base + voff) (c2 + (if o2 then Lv.ext else 0)) _ _ e e2 A ys w hwb hwb2 hnb hi (by omega) s2 (by rw [hsz]; omega) hAl hAs hyl hysat h1A h1y R1 R2 hR1 hR2
      refine Calls.mono hcall fun en w' hw' => ?_
      obtain ⟨rfl, rfl⟩ := hw'
      obtain ⟨ev4, hm4⟩ := move_rel (G := G) hid1 hgS2 hput hnew hf hfree' ev2.rel hL hwb (pre := pre ++ xs.take off) hcc (post := post.drop 13) (L.ext - 1) (by
        rw [List.length_drop, Nat.sub_mul]; omega)
      refine hR _ _ _ (ev2.trans (ev4.into ?_ rfl rfl rfl) (ab1.trans ab2).nx (ab3.trans ab4).nx) ⟨_, hm4, ?_⟩
      · rw [setRow_setRow]
        show (w.setRow L.blk R2).heap = _
        rw [← hfin]
      · rw [hP0, if_pos rfl]
        congr 1
        show len + L.ext = len + 1 + (L.ext - 1)
        omega
theorem ins_snd {f : FuncId} (hf : isIns f = true) {args : List AV} {S S' : St} {v : AV} (h : insA args S = some (v, S')) :
    Ab S S' ∧ ∀ (F G : Nat → Prop) (m : M) (w : World) (vs : List Value) (R : Ending → World → Prop), Fits F G S' → Free m S S' → Rel F m S.h w → CRL m args vs →
      (∀ m' u w', Ev F G m m' S S' w w' → CR m' v u → R (.returned u) w') → CallsIn (FW none) 0 PP f vs.toArray w R := by
  unfold isIns at hf
  have := Nat.eq_of_beq_eq_true hf
  subst this
  exact insA_spec h
end Rn
end Go.Proofs.Ytgfcakdpfedokaa
