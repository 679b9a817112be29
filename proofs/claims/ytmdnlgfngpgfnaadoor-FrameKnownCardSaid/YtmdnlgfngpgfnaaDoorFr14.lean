/- One bit turned in a list of bytes. -/
import Derived.Test.YtmdnlgfngpgfnaaDoorFr13
namespace Go.Proofs.YtmdnlgfngpgfnaaDoor

theorem wordN_bit : ∀ (l : List Bool) (t : Nat) (h : t < l.length), l[t] = false → wordN (l.set t true) = wordN l + 2 ^ t ∧ (wordN l).testBit t = false
  | b :: l, 0, _, h => by
    have hb : b = false := by simpa using h
    subst hb
    refine ⟨by simp [wordN]; omega, ?_⟩
    simp [wordN, Nat.testBit_zero]
  | b :: l, t + 1, ht, h => by
    obtain ⟨h1, h2⟩ := wordN_bit l t (by simpa using ht) (by simpa using h)
    refine ⟨?_, ?_⟩
    · simp only [List.set_cons_succ, wordN, h1, Nat.pow_succ]; omega
    · rw [Nat.testBit_succ]
      have e : wordN (b :: l) / 2 = wordN l := by simp only [wordN]; split <;> omega
      rw [e]; exact h2
theorem byte_bit : ∀ (x : Fin 256) (t : Fin 8), x.val.testBit t.val = false → UInt8.ofNat (x.val + 2 ^ t.val) = UInt8.ofNat x.val ^^^ UInt8.ofNat (2 ^ t.val) := by decide +kernel
/-- one place more -/
def more1 (f : Nat → Bool) (q : Nat) : Nat → Bool := fun p => f p || p == q
theorem bitsAt_more (f : Nat → Bool) (j t : Nat) (ht : t < 8) : bitsAt (more1 f (8 * j + t)) j = (bitsAt f j).set t true := by
  apply List.ext_getElem?
  intro i
  rw [List.getElem?_set]
  simp only [bitsAt, List.getElem?_map, List.length_map, List.length_range]
  by_cases hi : i < 8
  · rw [List.getElem?_range hi]
    by_cases e : t = i
    · subst e; simp [more1, ht]
    · rw [if_neg e]
      simp only [Option.map_some, more1]
      have : (8 * j + i == 8 * j + t) = false := by simp; omega
      rw [this]; simp
  · rw [List.getElem?_eq_none (by simp; omega)]
    by_cases e : t = i
    · omega
    · rw [if_neg e]; rfl
theorem bitsAt_other (f : Nat → Bool) (j i t : Nat) (ht : t < 8) (h : i ≠ j) : bitsAt (more1 f (8 * j + t)) i = bitsAt f i := by
  unfold bitsAt
  apply List.map_congr_left
  intro u hu
  have hu8 : u < 8 := by simpa using hu
  have : (8 * i + u == 8 * j + t) = false := by simp; omega
  simp [more1, this]
theorem byteF_more (f : Nat → Bool) (j t : Nat) (ht : t < 8) (h : f (8 * j + t) = false) : byteF (more1 f (8 * j + t)) j = byteF f j ^^^ UInt8.ofNat (2 ^ t) := by
  have hl : t < (bitsAt f j).length := by rw [bitsAt_len]; exact ht
  have hg : (bitsAt f j)[t] = false := by simp only [bitsAt, List.getElem_map, List.getElem_range]; exact h
  obtain ⟨h1, h2⟩ := wordN_bit _ t hl hg
  have h3 := wordN_lt (bitsAt f j)
  rw [bitsAt_len] at h3
  unfold byteF
  rw [bitsAt_more f j t ht, h1]
  exact byte_bit ⟨wordN (bitsAt f j), h3⟩ ⟨t, ht⟩ h2
/-- turning one bit more -/
theorem turn_set (b : List UInt8) (f : Nat → Bool) (n j t : Nat) (hb : b.length = n) (hj : j < n) (ht : t < 8) (h : f (8 * j + t) = false) (x : UInt8) (hx : (xorl b (pat f n))[j]? = some x) :
    (xorl b (pat f n)).set j (x ^^^ UInt8.ofNat (2 ^ t)) = xorl b (pat (more1 f (8 * j + t)) n) := by
  apply List.ext_getElem?
  intro i
  rw [List.getElem?_set]
  have hxl : ∀ g, (xorl b (pat g n)).length = n := fun g => by rw [xorl_len _ _ (by rw [pat_len, hb]), hb]
  by_cases hi : i < n
  · have hg : ∀ g, (xorl b (pat g n))[i]? = some (b[i]'(by omega) ^^^ byteF g i) := fun g => by
      simp only [xorl, List.getElem?_zipWith, pat, List.getElem?_map]
      rw [List.getElem?_eq_getElem (show i < b.length by omega), List.getElem?_range hi]
      rfl
    by_cases e : j = i
    · subst e
      rw [if_pos rfl, if_pos (by rw [hxl]; exact hj), hg, byteF_more f j t ht h]
      rw [hg] at hx
      injection hx with hx
      rw [← hx, UInt8.xor_assoc]
    · rw [if_neg e, hg, hg]
      unfold byteF
      rw [bitsAt_other f j i t ht (by omega)]
  · have e1 : (xorl b (pat (more1 f (8 * j + t)) n))[i]? = none := List.getElem?_eq_none (by rw [hxl]; omega)
    have e2 : (xorl b (pat f n))[i]? = none := List.getElem?_eq_none (by rw [hxl]; omega)
    rw [e1]
    by_cases e : j = i
    · omega
    · rw [if_neg e, e2]
end Go.Proofs.YtmdnlgfngpgfnaaDoor
