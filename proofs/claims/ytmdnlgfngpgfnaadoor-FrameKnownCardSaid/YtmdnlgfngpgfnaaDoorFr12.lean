/- Bits turned in bytes, and what the sum says of it. -/
import Derived.Test.YtmdnlgfngpgfnaaDoorFr11
namespace Go.Proofs.YtmdnlgfngpgfnaaDoor

/-- the bits at a byte's place -/
def bitsAt (f : Nat → Bool) (j : Nat) : List Bool := (List.range 8).map fun t => f (8 * j + t)
def byteF (f : Nat → Bool) (j : Nat) : UInt8 := UInt8.ofNat (wordN (bitsAt f j))
def pat (f : Nat → Bool) (n : Nat) : List UInt8 := (List.range n).map (byteF f)
def xorl (l d : List UInt8) : List UInt8 := List.zipWith (· ^^^ ·) l d
theorem pat_len (f : Nat → Bool) (n : Nat) : (pat f n).length = n := by simp [pat]
theorem pat_succ (f : Nat → Bool) (n : Nat) : pat f (n + 1) = pat f n ++ [byteF f n] := by simp [pat, List.range_succ]
theorem bitsAt_len (f : Nat → Bool) (j : Nat) : (bitsAt f j).length = 8 := by simp [bitsAt]
theorem range_bits (f : Nat → Bool) (n : Nat) : (List.range (8 * (n + 1))).map f = (List.range (8 * n)).map f ++ bitsAt f n := by
  rw [show 8 * (n + 1) = 8 * n + 8 by omega, List.range_add, List.map_append, List.map_map]
  rfl
theorem upd_byteF (s : BitVec 32) (f : Nat → Bool) (j : Nat) : upd s (byteF f j) = serial s (bitsAt f j) := by
  have h := wordN_lt (bitsAt f j)
  rw [bitsAt_len] at h
  have e : byteW (byteF f j) = BitVec.ofNat 32 (wordN (bitsAt f j)) := by
    unfold byteW byteF
    rw [UInt8.toNat_ofNat', Nat.mod_eq_of_lt h]
  rw [upd_bits, e, serial_word _ _ (by rw [bitsAt_len]; omega), bitsAt_len]
theorem fold_pat (f : Nat → Bool) (s : BitVec 32) : ∀ n, (pat f n).foldl upd s = serial s ((List.range (8 * n)).map f)
  | 0 => rfl
  | n + 1 => by
    rw [pat_succ, List.foldl_append, fold_pat f s n, range_bits, serial_append]
    exact upd_byteF _ f n
theorem fold_xorl : ∀ (l d : List UInt8) (x y : BitVec 32), l.length = d.length → (xorl l d).foldl upd (x ^^^ y) = l.foldl upd x ^^^ d.foldl upd y
  | [], [], _, _, _ => rfl
  | a :: l, b :: d, x, y, h => by
    show (xorl l d).foldl upd (upd (x ^^^ y) (a ^^^ b)) = _
    rw [upd_xor]
    exact fold_xorl l d _ _ (by simpa using h)
  | [], _ :: _, _, _, h => by simp at h
  | _ :: _, [], _, _, h => by simp at h
theorem crc_xorl (l : List UInt8) (f : Nat → Bool) : crc (xorl l (pat f l.length)) = crc l ^^^ serial 0#32 ((List.range (8 * l.length)).map f) := by
  have h := fold_xorl l (pat f l.length) 0xFFFFFFFF#32 0#32 (by rw [pat_len])
  rw [BitVec.xor_zero, fold_pat] at h
  unfold crc crcW
  rw [h, BitVec.xor_assoc]
/-- the bits of a burst, written out -/
theorem range_burst (f : Nat → Bool) (a m N : Nat) (hm : 1 ≤ m) (hN : a + m ≤ N) (h0 : f a = true) (h1 : ∀ p, p < a → f p = false) (h2 : ∀ p, a + m ≤ p → f p = false) :
    ∃ l : List Bool, l.length = m - 1 ∧ (List.range N).map f = List.replicate a false ++ ((true :: l) ++ List.replicate (N - (a + m)) false) := by
  refine ⟨(List.range (m - 1)).map fun t => f (a + 1 + t), by simp, ?_⟩
  apply List.ext_getElem?
  intro p
  rw [List.getElem?_map]
  by_cases hp : p < N
  · rw [List.getElem?_range hp, Option.map_some]
    by_cases hpa : p < a
    · rw [List.getElem?_append_left (by simpa using hpa), List.getElem?_replicate, if_pos hpa, h1 p hpa]
    · rw [List.getElem?_append_right (by simp; omega), List.length_replicate]
      by_cases hpm : p < a + m
      · rw [List.getElem?_append_left (by simp; omega)]
        obtain ⟨x, rfl⟩ : ∃ x, p = a + x := ⟨p - a, by omega⟩
        rw [show a + x - a = x by omega]
        cases x with
        | zero => simp [h0]
        | succ x =>
          rw [List.getElem?_cons_succ, List.getElem?_map, List.getElem?_range (by omega), Option.map_some]
          congr 2; omega
      · rw [List.getElem?_append_right (by simp; omega), List.getElem?_replicate, if_pos (by simp; omega), h2 p (by omega)]
  · rw [List.getElem?_eq_none (by simp; omega), List.getElem?_eq_none (by simp; omega)]
    rfl
/-- a burst within bytes turns their sum -/
theorem crc_burst (l : List UInt8) (f : Nat → Bool) (a m : Nat) (hm : 1 ≤ m) (hm2 : m ≤ 32) (hN : a + m ≤ 8 * l.length) (h0 : f a = true) (h1 : ∀ p, p < a → f p = false) (h2 : ∀ p, a + m ≤ p → f p = false) :
    crc (xorl l (pat f l.length)) ≠ crc l := by
  intro e
  rw [crc_xorl] at e
  obtain ⟨bl, hb, hr⟩ := range_burst f a m (8 * l.length) hm hN h0 h1 h2
  rw [hr] at e
  refine burst a (8 * l.length - (a + m)) bl (by omega) ?_
  have h3 : crc l ^^^ (crc l ^^^ serial 0#32 (List.replicate a false ++ ((true :: bl) ++ List.replicate (8 * l.length - (a + m)) false))) = crc l ^^^ crc l := by rw [e]
  rw [← BitVec.xor_assoc, BitVec.xor_self, BitVec.zero_xor] at h3
  exact h3
end Go.Proofs.YtmdnlgfngpgfnaaDoor
