/- The sum bit by bit; the reference's Sum, four, Put. -/
import Derived.Test.YtmdnlgfngpgfnaaDoorFr7
namespace Go.Proofs.YtmdnlgfngpgfnaaDoor
open Go.RowKit

def poly : BitVec 32 := 0xEDB88320#32
def bit1 (x : BitVec 32) : BitVec 32 := if x.toNat % 2 = 1 then (x >>> 1) ^^^ poly else x >>> 1
def itb : Nat → BitVec 32 → BitVec 32
  | 0, x => x
  | n + 1, x => bit1 (itb n x)
theorem bit1_def (x : BitVec 32) : bit1 x = (x >>> 1) ^^^ (if x.getLsbD 0 then poly else 0#32) := by
  have h : (x.getLsbD 0 = true) ↔ x.toNat % 2 = 1 := by
    rw [BitVec.getLsbD, Nat.testBit_zero]; simp
  unfold bit1
  by_cases h1 : x.toNat % 2 = 1
  · rw [if_pos h1, if_pos (h.2 h1)]
  · rw [if_neg h1, if_neg (fun e => h1 (h.1 e))]
    simp
theorem bit1_xor (x y : BitVec 32) : bit1 (x ^^^ y) = bit1 x ^^^ bit1 y := by
  rw [bit1_def, bit1_def, bit1_def, BitVec.ushiftRight_xor_distrib, BitVec.getLsbD_xor]
  cases x.getLsbD 0 <;> cases y.getLsbD 0 <;> simp <;> (try ac_rfl)
  · have : x >>> 1 ^^^ poly ^^^ (y >>> 1 ^^^ poly) = x >>> 1 ^^^ y >>> 1 ^^^ (poly ^^^ poly) := by ac_rfl
    rw [this, BitVec.xor_self, BitVec.xor_zero]
theorem itb_xor (x y : BitVec 32) : ∀ n, itb n (x ^^^ y) = itb n x ^^^ itb n y
  | 0 => rfl
  | n + 1 => by simp only [itb]; rw [itb_xor x y n, bit1_xor]
theorem itb_hi (x : BitVec 32) (m : Nat) (h : x.toNat = 16 * m) : (itb 4 x).toNat = m := by
  have step : ∀ (z : BitVec 32) (k : Nat), z.toNat = 2 * k → (bit1 z).toNat = k := fun z k hz => by
    unfold bit1
    rw [if_neg (by omega), BitVec.toNat_ushiftRight, Nat.shiftRight_eq_div_pow]
    omega
  have h1 := step x (8 * m) (by omega)
  have h2 := step _ (4 * m) (h1.trans (by omega))
  have h3 := step _ (2 * m) (h2.trans (by omega))
  exact step _ m h3
theorem itb_lo : ∀ i : Fin 16, itb 4 (BitVec.ofNat 32 i.val) = tab i.val := by decide +kernel
theorem split16 (x : BitVec 32) : x = BitVec.ofNat 32 (16 * (x.toNat / 16)) ^^^ BitVec.ofNat 32 (x.toNat % 16) := by
  apply BitVec.eq_of_toNat_eq
  have hx : x.toNat < 4294967296 := x.isLt
  rw [BitVec.toNat_xor]
  simp only [BitVec.toNat_ofNat, Nat.reducePow]
  rw [Nat.mod_eq_of_lt (by omega), Nat.mod_eq_of_lt (by omega)]
  have h1 := Nat.two_pow_add_eq_or_of_lt (i := 4) (b := x.toNat % 16) (by omega) (x.toNat / 16)
  have h2 : 16 * (x.toNat / 16) ^^^ x.toNat % 16 = 16 * (x.toNat / 16) ||| x.toNat % 16 := by
    apply Nat.eq_of_testBit_eq
    intro i
    rw [Nat.testBit_xor, Nat.testBit_or]
    by_cases hi : i < 4
    · have : (16 * (x.toNat / 16)).testBit i = false := by
        rw [show (16 : Nat) = 2 ^ 4 from rfl, Nat.testBit_two_pow_mul]
        simp; omega
      rw [this]; simp
    · have : (x.toNat % 16).testBit i = false := by
        apply Nat.testBit_lt_two_pow
        have : 2 ^ 4 ≤ 2 ^ i := Nat.pow_le_pow_right (by decide) (by omega)
        omega
      rw [this]; simp
  rw [h2]
  simp only [Nat.reducePow] at h1
  rw [← h1]
  omega
theorem st4_bits (x : BitVec 32) : st4 x = itb 4 x := by
  have hx : x.toNat < 4294967296 := x.isLt
  have hs := split16 x
  have h1 : (x &&& 15#32).toNat = x.toNat % 16 := by
    rw [BitVec.toNat_and]
    exact Nat.and_two_pow_sub_one_eq_mod x.toNat 4
  have h2 := itb_hi (BitVec.ofNat 32 (16 * (x.toNat / 16))) (x.toNat / 16) (by simp only [BitVec.toNat_ofNat, Nat.reducePow]; omega)
  have h3 := itb_lo ⟨x.toNat % 16, by omega⟩
  have h4 : itb 4 (BitVec.ofNat 32 (16 * (x.toNat / 16))) = x >>> 4 := by
    apply BitVec.eq_of_toNat_eq
    rw [h2, BitVec.toNat_ushiftRight, Nat.shiftRight_eq_div_pow]
  unfold st4
  rw [h1]
  conv => rhs; rw [hs, itb_xor, h4, h3]
  ac_rfl
theorem itb_add (x : BitVec 32) (m : Nat) : ∀ n, itb (n + m) x = itb n (itb m x)
  | 0 => by rw [Nat.zero_add]; rfl
  | n + 1 => by rw [Nat.add_right_comm]; simp only [itb]; rw [itb_add x m n]
theorem upd_bits (x : BitVec 32) (u : UInt8) : upd x u = itb 8 (x ^^^ byteW u) := by
  unfold upd
  rw [st4_bits, st4_bits, ← itb_add]
end Go.Proofs.YtmdnlgfngpgfnaaDoor
