/- A frame with a burst of bits turned is none. -/
import Derived.Test.YtmdnlgfngpgfnaaDoorFr12
namespace Go.Proofs.YtmdnlgfngpgfnaaDoor

theorem byteF_zero (f : Nat → Bool) (j : Nat) (h : ∀ t, t < 8 → f (8 * j + t) = false) : byteF f j = 0 := by
  have e : bitsAt f j = List.replicate 8 false := by
    apply List.ext_getElem?
    intro t
    simp only [bitsAt, List.getElem?_map]
    by_cases ht : t < 8
    · rw [List.getElem?_range ht, List.getElem?_replicate, if_pos ht, Option.map_some, h t ht]
    · rw [List.getElem?_eq_none (by simp; omega), List.getElem?_eq_none (by simp; omega)]; rfl
  unfold byteF
  rw [e]; rfl
theorem wordN_zero : ∀ l : List Bool, wordN l = 0 → ∀ b ∈ l, b = false
  | [], _, _, h => by simp at h
  | b :: l, h, x, hx => by
    simp only [wordN] at h
    rcases List.mem_cons.1 hx with rfl | hx
    · cases x with
      | false => rfl
      | true => simp at h
    · exact wordN_zero l (by omega) x hx
theorem byteF_ne (f : Nat → Bool) (j t : Nat) (ht : t < 8) (h : f (8 * j + t) = true) : byteF f j ≠ 0 := by
  intro e
  have h1 := wordN_lt (bitsAt f j)
  rw [bitsAt_len] at h1
  have h2 := congrArg UInt8.toNat e
  unfold byteF at h2
  rw [UInt8.toNat_ofNat', Nat.mod_eq_of_lt h1] at h2
  have h3 := wordN_zero _ h2 (f (8 * j + t)) (by
    simp only [bitsAt, List.mem_map, List.mem_range]
    exact ⟨t, ht, rfl⟩)
  rw [h] at h3; cases h3
theorem xorl_len (l d : List UInt8) (h : l.length = d.length) : (xorl l d).length = l.length := by simp [xorl, h]
theorem xorl_append (a b c d : List UInt8) (h : a.length = c.length) : xorl (a ++ b) (c ++ d) = xorl a c ++ xorl b d := by
  unfold xorl; exact List.zipWith_append h
theorem xorl_zero : ∀ (l : List UInt8) (n : Nat), l.length = n → xorl l (List.replicate n 0) = l
  | [], _, h => by subst h; rfl
  | a :: l, n, h => by
    subst h
    show (a ^^^ 0) :: xorl l (List.replicate l.length 0) = _
    rw [xorl_zero l _ rfl]; simp
theorem pat_add (f : Nat → Bool) (n m : Nat) : pat f (n + m) = pat f n ++ (List.range m).map fun t => byteF f (n + t) := by
  unfold pat
  rw [List.range_add, List.map_append, List.map_map]; rfl
theorem pat_zero (f : Nat → Bool) (n : Nat) (h : ∀ p, p < 8 * n → f p = false) : pat f n = List.replicate n 0 := by
  apply List.ext_getElem?
  intro j
  simp only [pat, List.getElem?_map]
  by_cases hj : j < n
  · rw [List.getElem?_range hj, List.getElem?_replicate, if_pos hj, Option.map_some, byteF_zero f j (fun t ht => h _ (by omega))]
  · rw [List.getElem?_eq_none (by simp; omega), List.getElem?_eq_none (by simp; omega)]; rfl
theorem getP_bad (l : List UInt8) (h : (getP l).e ≠ 0) : (getP l).n = 0 := by
  unfold getP at h ⊢
  split
  · rfl
  · rename_i h1
    rw [if_neg h1] at h
    split
    · rfl
    · rename_i h2
      rw [if_neg h2] at h
      exact absurd rfl h
theorem num4_inj {a b c d a' b' c' d' : UInt8} (h : num4 [a, b, c, d] = num4 [a', b', c', d']) : a = a' ∧ b = b' ∧ c = c' ∧ d = d' := by
  simp only [num4] at h
  have h1 := a.toNat_lt; have h2 := b.toNat_lt; have h3 := c.toNat_lt; have h4 := d.toNat_lt
  have h5 := a'.toNat_lt; have h6 := b'.toNat_lt; have h7 := c'.toNat_lt; have h8 := d'.toNat_lt
  simp only [Nat.reducePow] at *
  refine ⟨UInt8.toNat_inj.1 (by omega), UInt8.toNat_inj.1 (by omega), UInt8.toNat_inj.1 (by omega), UInt8.toNat_inj.1 (by omega)⟩

theorem get_turned (k : UInt8) (body : List UInt8) (hb : body.length ≤ 2039) (f : Nat → Bool) (a m : Nat) (hm : 1 ≤ m) (hm2 : m ≤ 32) (h0 : f a = true) (h1 : ∀ p, p < a → f p = false) (h2 : ∀ p, a + m ≤ p → f p = false)
    (hreg : a + m ≤ 8 ∨ (40 ≤ a ∧ a + m ≤ 8 * (5 + body.length)) ∨ (8 * (5 + body.length) ≤ a ∧ a + m ≤ 8 * (body.length + 9))) :
    (getP (xorl (frameB k body) (pat f (body.length + 9)))).e ≠ 0 := by
  have hH : (headB k body).length = 5 + body.length := by simp [headB, be4_len]; omega
  have hz : ∀ j, 1 ≤ j → j < 5 → byteF f j = 0 := fun j hj1 hj2 => byteF_zero f j (fun t ht => by
    rcases hreg with h | h | h
    · exact h2 _ (by omega)
    · exact h1 _ (by omega)
    · exact h1 _ (by omega))
  have hp : pat f (body.length + 9) = pat f (5 + body.length) ++ (List.range 4).map fun t => byteF f (5 + body.length + t) := by
    rw [show body.length + 9 = 5 + body.length + 4 by omega, pat_add]
  have hc : xorl (frameB k body) (pat f (body.length + 9)) = xorl (headB k body) (pat f (5 + body.length)) ++ xorl (be4 (crc (headB k body))) ((List.range 4).map fun t => byteF f (5 + body.length + t)) := by
    rw [hp]; unfold frameB
    rw [xorl_append _ _ _ _ (by rw [hH, pat_len])]
  have hlen : (xorl (frameB k body) (pat f (body.length + 9))).length = body.length + 9 := by rw [xorl_len _ _ (by rw [frameB_len, pat_len]), frameB_len]
  have hhead : xorl (headB k body) (pat f (5 + body.length)) = (k ^^^ byteF f 0) :: (be4 (BitVec.ofNat 32 body.length) ++ xorl body ((List.range body.length).map fun t => byteF f (5 + t))) := by
    rw [pat_add]
    have e5 : pat f 5 = byteF f 0 :: List.replicate 4 0 := by
      have : pat f 5 = [byteF f 0, byteF f 1, byteF f 2, byteF f 3, byteF f 4] := rfl
      rw [this, hz 1 (by omega) (by omega), hz 2 (by omega) (by omega), hz 3 (by omega) (by omega), hz 4 (by omega) (by omega)]; rfl
    rw [e5]
    show (k ^^^ byteF f 0) :: xorl (be4 (BitVec.ofNat 32 body.length) ++ body) (List.replicate 4 0 ++ _) = _
    rw [xorl_append _ _ _ _ (by simp [be4_len]), xorl_zero _ 4 (be4_len _)]
  by_cases hk : k ^^^ byteF f 0 = 0
  · have hw : (wholeP (xorl (frameB k body) (pat f (body.length + 9)))).1 = 2 := by
      unfold wholeP
      rw [hlen, if_neg (by omega), hc, hhead, hk]
      rfl
    unfold getP
    rw [if_pos (by rw [hw]; decide), hw]
    decide
  · have hw : wholeP (xorl (frameB k body) (pat f (body.length + 9))) = (0, body.length) := by
      have hn : num4 ((xorl (frameB k body) (pat f (body.length + 9))).drop 1) = body.length := by
        rw [hc, hhead]
        simp only [List.cons_append, List.drop_succ_cons, List.drop_zero, List.append_assoc]
        rw [num4_be4, BitVec.toNat_ofNat, Nat.mod_eq_of_lt (by simp; omega)]
      have hh : (xorl (frameB k body) (pat f (body.length + 9))).head? = some (k ^^^ byteF f 0) := by rw [hc, hhead]; rfl
      unfold wholeP
      rw [hn, hlen, hh, if_neg (by omega), if_neg (by simpa using hk), if_neg (by omega), if_neg (by omega)]
    have ht : (xorl (frameB k body) (pat f (body.length + 9))).take (5 + body.length) = xorl (headB k body) (pat f (5 + body.length)) := by
      rw [hc, List.take_left' (by rw [xorl_len _ _ (by rw [hH, pat_len]), hH])]
    have hd : ((xorl (frameB k body) (pat f (body.length + 9))).take (body.length + 9)).drop (5 + body.length) = xorl (be4 (crc (headB k body))) ((List.range 4).map fun t => byteF f (5 + body.length + t)) := by
      rw [List.take_of_length_le (by rw [hlen]; omega), hc, List.drop_left' (by rw [xorl_len _ _ (by rw [hH, pat_len]), hH])]
    have hne : num4 (xorl (be4 (crc (headB k body))) ((List.range 4).map fun t => byteF f (5 + body.length + t))) ≠ (crc (xorl (headB k body) (pat f (5 + body.length)))).toNat := by
      have hv : num4 (be4 (crc (headB k body))) = (crc (headB k body)).toNat := by
        have := num4_be4 (crc (headB k body)) []
        simpa using this
      by_cases hC : 8 * (5 + body.length) ≤ a
      · have hz5 : pat f (5 + body.length) = List.replicate (5 + body.length) 0 := pat_zero f _ (fun p hp => h1 p (by omega))
        rw [hz5, xorl_zero _ _ hH, ← hv]
        intro e
        obtain ⟨t, ht4, t8, ht8, hat⟩ : ∃ t, t < 4 ∧ ∃ t8, t8 < 8 ∧ a = 8 * (5 + body.length + t) + t8 := ⟨a / 8 - (5 + body.length), by omega, a % 8, by omega, by omega⟩
        have hbn := byteF_ne f (5 + body.length + t) t8 ht8 (by rw [← hat]; exact h0)
        have hx : ∀ u v : UInt8, u ^^^ v = u → v = 0 := fun u v h => by
          have : u ^^^ (u ^^^ v) = u ^^^ u := by rw [h]
          rw [← UInt8.xor_assoc, UInt8.xor_self, UInt8.zero_xor] at this
          exact this
        have h4 : ∀ v : BitVec 32, ∃ p q r s, be4 v = [p, q, r, s] := fun v => ⟨_, _, _, _, rfl⟩
        obtain ⟨p, q, r, s, hbe⟩ := h4 (crc (headB k body))
        rw [hbe] at e
        obtain ⟨g1, g2, g3, g4⟩ := num4_inj (show num4 [p ^^^ byteF f (5 + body.length + 0), q ^^^ byteF f (5 + body.length + 1), r ^^^ byteF f (5 + body.length + 2), s ^^^ byteF f (5 + body.length + 3)] = num4 [p, q, r, s] from e)
        have ht' : t = 0 ∨ t = 1 ∨ t = 2 ∨ t = 3 := by omega
        rcases ht' with rfl | rfl | rfl | rfl
        · exact hbn (hx _ _ g1)
        · exact hbn (hx _ _ g2)
        · exact hbn (hx _ _ g3)
        · exact hbn (hx _ _ g4)
      · have hin : a + m ≤ 8 * (5 + body.length) := by omega
        have hz4 : ((List.range 4).map fun t => byteF f (5 + body.length + t)) = List.replicate 4 0 := by
          have : ∀ t, t < 4 → byteF f (5 + body.length + t) = 0 := fun t ht => byteF_zero f _ (fun u hu => h2 _ (by omega))
          show [byteF f (5 + body.length + 0), byteF f (5 + body.length + 1), byteF f (5 + body.length + 2), byteF f (5 + body.length + 3)] = _
          rw [this 0 (by omega), this 1 (by omega), this 2 (by omega), this 3 (by omega)]; rfl
        rw [hz4, xorl_zero _ 4 (be4_len _), hv]
        have hcb := crc_burst (headB k body) f a m hm hm2 (by rw [hH]; exact hin) h0 h1 h2
        rw [hH] at hcb
        intro e
        exact hcb (BitVec.eq_of_toNat_eq e.symm)
    unfold getP
    rw [hw]
    simp only [ne_eq, not_true_eq_false, if_false, ht, hd]
    rw [if_pos hne]
    decide
end Go.Proofs.YtmdnlgfngpgfnaaDoor
