/- The sum, bit for bit: a burst of at most 32 bits leaves a trace. -/
import Derived.Test.YtmdnlgfngpgfnaaDoorFr10
import Derived.Test.YtmdnlgfngpgfnaaDoorFr8
namespace Go.Proofs.YtmdnlgfngpgfnaaDoor

def bitW (b : Bool) : BitVec 32 := if b then 1#32 else 0#32
/-- the bits, one behind the other -/
def serial (s : BitVec 32) (l : List Bool) : BitVec 32 := l.foldl (fun s b => bit1 (s ^^^ bitW b)) s
def wordN : List Bool → Nat
  | [] => 0
  | b :: l => (if b then 1 else 0) + 2 * wordN l
theorem wordN_lt : ∀ l : List Bool, wordN l < 2 ^ l.length
  | [] => by simp [wordN]
  | b :: l => by
    have := wordN_lt l
    simp only [wordN, List.length_cons, Nat.pow_succ]
    split <;> omega
theorem bit1_zero : bit1 0#32 = 0#32 := by decide
theorem bit1_inj {x : BitVec 32} (h : bit1 x = 0#32) : x = 0#32 := by
  have hx : x.toNat < 4294967296 := x.isLt
  unfold bit1 at h
  split at h
  · rename_i ho
    exfalso
    have h1 : x >>> 1 = poly := by
      have : x >>> 1 ^^^ poly ^^^ poly = 0#32 ^^^ poly := by rw [h]
      rw [BitVec.xor_assoc, BitVec.xor_self, BitVec.xor_zero, BitVec.zero_xor] at this
      exact this
    have h2 := congrArg BitVec.toNat h1
    rw [BitVec.toNat_ushiftRight, Nat.shiftRight_eq_div_pow] at h2
    have h3 : poly.toNat = 3988292384 := rfl
    omega
  · rename_i ho
    have h2 := congrArg BitVec.toNat h
    rw [BitVec.toNat_ushiftRight, Nat.shiftRight_eq_div_pow] at h2
    apply BitVec.eq_of_toNat_eq
    simp at h2 ⊢
    omega
theorem itb_inj : ∀ (n : Nat) {x : BitVec 32}, itb n x = 0#32 → x = 0#32
  | 0, _, h => h
  | n + 1, _, h => itb_inj n (bit1_inj h)
theorem itb_succ' (x : BitVec 32) : ∀ n, itb (n + 1) x = itb n (bit1 x)
  | 0 => rfl
  | n + 1 => by rw [itb, itb_succ' x n]; rfl
theorem bit1_double (m : Nat) (h : m < 2147483648) : bit1 (BitVec.ofNat 32 (2 * m)) = BitVec.ofNat 32 m := by
  unfold bit1
  have e : (BitVec.ofNat 32 (2 * m)).toNat = 2 * m := by rw [BitVec.toNat_ofNat]; omega
  rw [e, if_neg (by omega)]
  apply BitVec.eq_of_toNat_eq
  rw [BitVec.toNat_ushiftRight, e, Nat.shiftRight_eq_div_pow, BitVec.toNat_ofNat]
  omega
theorem word_cons (b : Bool) (m : Nat) (h : m < 2147483648) : BitVec.ofNat 32 ((if b then 1 else 0) + 2 * m) = bitW b ^^^ BitVec.ofNat 32 (2 * m) := by
  apply BitVec.eq_of_toNat_eq
  rw [BitVec.toNat_xor]
  cases b
  · simp [bitW]
  · simp only [bitW, if_true, BitVec.toNat_ofNat, Nat.reducePow]
    rw [Nat.mod_eq_of_lt (by omega), Nat.mod_eq_of_lt (by omega)]
    apply Nat.eq_of_testBit_eq
    intro i
    rw [Nat.testBit_xor]
    cases i with
    | zero => simp [Nat.testBit_zero]
    | succ i =>
      rw [Nat.testBit_succ, Nat.testBit_succ, Nat.testBit_succ]
      rw [show (1 + 2 * m) / 2 = m by omega, show 1 % 4294967296 / 2 = 0 by decide, Nat.mod_eq_of_lt (show 2 * m < 4294967296 by omega), show 2 * m / 2 = m by omega]
      simp
theorem serial_word : ∀ (l : List Bool) (s : BitVec 32), l.length ≤ 32 → serial s l = itb l.length (s ^^^ BitVec.ofNat 32 (wordN l))
  | [], s, _ => by simp [serial, wordN, itb]
  | b :: l, s, h => by
    have hl : l.length ≤ 31 := by simpa using h
    have hw := wordN_lt l
    have hw2 : wordN l < 2147483648 := Nat.lt_of_lt_of_le hw (Nat.pow_le_pow_right (by decide) hl : 2 ^ l.length ≤ 2 ^ 31)
    show serial (bit1 (s ^^^ bitW b)) l = _
    rw [serial_word l _ (by omega), List.length_cons, itb_succ', wordN, word_cons b _ hw2, ← BitVec.xor_assoc, bit1_xor (s ^^^ bitW b), bit1_double _ hw2]
theorem serial_append (s : BitVec 32) (l l' : List Bool) : serial s (l ++ l') = serial (serial s l) l' := List.foldl_append ..
theorem serial_zeros (s : BitVec 32) : ∀ n, serial s (List.replicate n false) = itb n s
  | 0 => rfl
  | n + 1 => by
    rw [List.replicate_succ, itb_succ']
    show serial (bit1 (s ^^^ bitW false)) _ = _
    rw [serial_zeros _ n]
    simp [bitW]
/-- a burst of at most 32 bits, the first of them turned -/
theorem burst (p q : Nat) (l : List Bool) (h : l.length ≤ 31) : serial 0#32 (List.replicate p false ++ ((true :: l) ++ List.replicate q false)) ≠ 0#32 := by
  intro e
  rw [serial_append, serial_append, serial_zeros, serial_zeros] at e
  have h1 := itb_inj q e
  have h0 : itb p 0#32 = 0#32 := by
    clear e h1
    induction p with
    | zero => rfl
    | succ p ih => rw [itb, ih, bit1_zero]
  rw [h0, serial_word _ _ (by simpa using h)] at h1
  have h2 := itb_inj _ h1
  rw [BitVec.zero_xor] at h2
  have h3 := congrArg BitVec.toNat h2
  have h4 := wordN_lt (true :: l)
  have h5 : 2 ^ (true :: l).length ≤ 2 ^ 32 := Nat.pow_le_pow_right (by decide) (by simpa using h)
  rw [BitVec.toNat_ofNat, Nat.mod_eq_of_lt (Nat.lt_of_lt_of_le h4 h5)] at h3
  simp [wordN] at h3
end Go.Proofs.YtmdnlgfngpgfnaaDoor
