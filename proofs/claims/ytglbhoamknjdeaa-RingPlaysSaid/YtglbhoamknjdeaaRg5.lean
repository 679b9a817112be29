/- RingNonces' walk. -/
import Derived.Test.YtglbhoamknjdeaaRg4
namespace Go.Proofs.Ytglbhoamknjdeaa
open Go.RowKit

def uOf (a : Int) : Nat := (a % 18446744073709551616).toNat
def valK (u k : Nat) : Nat := u / 2 ^ (8 * (12 - k))
theorem uOf_lt (a : Int) : uOf a < 18446744073709551616 := by unfold uOf; omega
theorem valK_step (u k : Nat) (h : k < 12) : valK u (k + 1) = 256 * valK u k + u / 2 ^ (8 * (11 - k)) % 256 := by
  unfold valK
  rw [show 8 * (12 - k) = 8 * (11 - k) + 8 by omega, Nat.pow_add, ← Nat.div_div_eq_div_mul, show 12 - (k + 1) = 11 - k by omega]
  have := Nat.div_add_mod (u / 2 ^ (8 * (11 - k))) 256
  omega
theorem valK_4 (u : Nat) (h : u < 18446744073709551616) : valK u 4 = 0 := Nat.div_eq_of_lt h
theorem valK_12 (u : Nat) : valK u 12 = u := by simp [valK]
theorem valK_le (u k : Nat) (h : u < 18446744073709551616) (hk : k < 12) : valK u k < 72057594037927936 := by
  unfold valK
  have h1 : 2 ^ 8 ≤ 2 ^ (8 * (12 - k)) := Nat.pow_le_pow_right (by decide) (by omega)
  have h2 : u / 2 ^ (8 * (12 - k)) ≤ u / 2 ^ 8 := Nat.div_le_div_left h1 (by decide)
  omega
theorem byteK (a : Int) (k : Nat) (h4 : 4 ≤ k) (h12 : k < 12) : ((nonceN a)[k]'(by rw [nonceN_len]; exact h12)).toNat = uOf a / 2 ^ (8 * (11 - k)) % 256 := by
  have e : (nonceN a)[k]'(by rw [nonceN_len]; exact h12) = UInt8.ofNat (a / 2 ^ (8 * (11 - k)) % 256).toNat := by simp [nonceN]; omega
  rw [e, UInt8.toNat_ofNat']
  have hp : ∃ q : Nat, (18446744073709551616 : Int) = 2 ^ (8 * (11 - k)) * (256 * (q : Int)) ∧ 0 < q := by
    have : k = 4 ∨ k = 5 ∨ k = 6 ∨ k = 7 ∨ k = 8 ∨ k = 9 ∨ k = 10 ∨ k = 11 := by omega
    rcases this with rfl | rfl | rfl | rfl | rfl | rfl | rfl | rfl
    · exact ⟨1, by decide, by decide⟩
    · exact ⟨256, by decide, by decide⟩
    · exact ⟨65536, by decide, by decide⟩
    · exact ⟨16777216, by decide, by decide⟩
    · exact ⟨4294967296, by decide, by decide⟩
    · exact ⟨1099511627776, by decide, by decide⟩
    · exact ⟨281474976710656, by decide, by decide⟩
    · exact ⟨72057594037927936, by decide, by decide⟩
  have hu : ((uOf a : Nat) : Int) = a % 18446744073709551616 := by unfold uOf; omega
  have key : ((uOf a / 2 ^ (8 * (11 - k)) % 256 : Nat) : Int) = a / 2 ^ (8 * (11 - k)) % 256 := by
    rw [Int.natCast_emod, Int.natCast_ediv, hu, Int.natCast_pow]
    obtain ⟨q, hq, hq0⟩ := hp
    have hpos : (0 : Int) < 2 ^ (8 * (11 - k)) := Int.pow_pos (by decide)
    show a % 18446744073709551616 / (2 : Int) ^ (8 * (11 - k)) % 256 = a / 2 ^ (8 * (11 - k)) % 256
    have h1 := Int.emod_def a 18446744073709551616
    generalize a / 18446744073709551616 = y at h1
    rw [h1, hq]
    generalize (2 : Int) ^ (8 * (11 - k)) = p at hpos
    have h2 : p * (256 * (q : Int)) * y = (256 * ((q : Int) * y)) * p := by ac_rfl
    rw [h2, Int.sub_eq_add_neg, ← Int.neg_mul, Int.add_mul_ediv_right _ _ (by omega)]
    omega
  omega
theorem byte03 (a : Int) (k : Nat) (h4 : k < 4) : (nonceN a)[k]'(by rw [nonceN_len]; omega) = 0 := by
  have : k = 0 ∨ k = 1 ∨ k = 2 ∨ k = 3 := by omega
  rcases this with rfl | rfl | rfl | rfl <;> simp [nonceN]
theorem uOf_of_nonce {a b : Int} (he : nonceN a = nonceN b) : uOf a = uOf b := by
  have key : ∀ k, 4 ≤ k → k ≤ 12 → valK (uOf a) k = valK (uOf b) k := by
    intro k h4
    induction k with
    | zero => omega
    | succ k ih =>
      intro h12
      rcases Nat.lt_or_ge k 4 with h | h
      · have : k + 1 = 4 := by omega
        rw [this, valK_4 _ (uOf_lt a), valK_4 _ (uOf_lt b)]
      · rw [valK_step _ k (by omega), valK_step _ k (by omega), ih h (by omega), ← byteK a k h (by omega), ← byteK b k h (by omega)]
        congr 2
        simp only [he]
  have := key 12 (by decide) (by decide)
  rwa [valK_12, valK_12] at this
theorem nonce_inj {a b : Int} (ha : -9223372036854775808 ≤ a ∧ a ≤ 9223372036854775807) (hb : -9223372036854775808 ≤ b ∧ b ≤ 9223372036854775807) : (nonceN a == nonceN b) = (a == b) := by
  rw [Bool.eq_iff_iff]
  simp only [beq_iff_eq]
  constructor
  · intro h
    have := uOf_of_nonce h
    unfold uOf at this
    omega
  · rintro rfl; rfl
end Go.Proofs.Ytglbhoamknjdeaa
