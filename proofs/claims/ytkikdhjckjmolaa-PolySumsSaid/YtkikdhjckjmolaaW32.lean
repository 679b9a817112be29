/- Words of 32 bits as values. -/
import Derived.Test.YtkikdhjckjmolaaOrd3
namespace Go.Proofs.Ytkikdhjckjmolaa
open Go.RowKit

/-- a word as a value -/
def wv (w : BitVec 32) : Int := (w.toNat : Int)
theorem ofInt_wv (w : BitVec 32) : BitVec.ofInt (IntKind.u32.bits) (wv w) = w := by
  apply BitVec.eq_of_toNat_eq
  have := w.isLt
  show (BitVec.ofInt 32 _).toNat = _
  rw [BitVec.toNat_ofInt]
  have h1 : w.toNat < 4294967296 := w.isLt
  have h2 : ((2 ^ 32 : Nat) : Int) = 4294967296 := rfl
  rw [h2]
  show (((w.toNat : Nat) : Int) % 4294967296).toNat = w.toNat
  omega
theorem wrap_wv (w : BitVec 32) : IntKind.u32.wrap (w.toNat : Int) = wv w := by
  have := w.isLt
  simp only [wv, IntKind.wrap, IntKind.signed, IntKind.bits]
  simp
  omega
theorem xor32 (a b : BitVec 32) : bits .xor .u32 (wv a) (wv b) = wv (a ^^^ b) := by
  show IntKind.u32.wrap ((BitVec.ofInt _ _ ^^^ BitVec.ofInt _ _).toNat : Int) = _
  rw [ofInt_wv, ofInt_wv]
  exact wrap_wv _
theorem or32 (a b : BitVec 32) : bits .or .u32 (wv a) (wv b) = wv (a ||| b) := by
  show IntKind.u32.wrap ((BitVec.ofInt _ _ ||| BitVec.ofInt _ _).toNat : Int) = _
  rw [ofInt_wv, ofInt_wv]
  exact wrap_wv _
theorem wv_lt (a : BitVec 32) : 0 ≤ wv a ∧ wv a < 4294967296 := by
  have : a.toNat < 4294967296 := a.isLt
  unfold wv; omega
theorem wv_ofNat {x : Nat} (h : x < 4294967296) : wv (BitVec.ofNat 32 x) = (x : Int) := by
  simp only [wv, BitVec.toNat_ofNat]; omega
theorem add32 (a b : BitVec 32) : (wv a + wv b) % 4294967296 = wv (a + b) := by
  unfold wv; rw [BitVec.toNat_add]; omega
theorem shl32 (a : BitVec 32) (n : Nat) : wv a * 2 ^ n % 4294967296 = wv (a <<< n) := by
  have e : wv a * 2 ^ n = ((a.toNat * 2 ^ n : Nat) : Int) := by simp [wv]
  rw [e]
  unfold wv
  rw [BitVec.toNat_shiftLeft, Nat.shiftLeft_eq]
  omega
theorem shr32 (a : BitVec 32) (n : Nat) : wv a / 2 ^ n = wv (a >>> n) := by
  have e : wv a / 2 ^ n = ((a.toNat / 2 ^ n : Nat) : Int) := by simp [wv]
  rw [e]
  unfold wv
  rw [BitVec.toNat_ushiftRight, Nat.shiftRight_eq_div_pow]
/-- turned left -/
def rotl (x : BitVec 32) (n : Nat) : BitVec 32 := (x <<< n) ||| (x >>> (32 - n))
/-- a word of four bytes, the lowest first -/
def leW (a b c d : UInt8) : BitVec 32 := BitVec.ofNat 32 (a.toNat + b.toNat * 256 + c.toNat * 65536 + d.toNat * 16777216)
theorem leW_toNat (a b c d : UInt8) : (leW a b c d).toNat = a.toNat + b.toNat * 256 + c.toNat * 65536 + d.toNat * 16777216 := by
  have h1 := a.toNat_lt; have h2 := b.toNat_lt; have h3 := c.toNat_lt; have h4 := d.toNat_lt
  simp only [Nat.reducePow] at h1 h2 h3 h4
  unfold leW
  rw [BitVec.toNat_ofNat]; simp only [Nat.reducePow]; omega
theorem or_num (k x y : Nat) (hx : x % 2 ^ k = 0) (hy : y < 2 ^ k) (h1 : x < 4294967296) (h2 : y < 4294967296) (h3 : x + y < 4294967296) : bits .or .u32 (x : Int) (y : Int) = ((x + y : Nat) : Int) := by
  rw [← wv_ofNat h1, ← wv_ofNat h2, ← wv_ofNat h3]
  show IntKind.u32.wrap ((BitVec.ofInt _ _ ||| BitVec.ofInt _ _).toNat : Int) = _
  rw [ofInt_wv, ofInt_wv]
  have e : BitVec.ofNat 32 x ||| BitVec.ofNat 32 y = BitVec.ofNat 32 (x + y) := by
    apply BitVec.eq_of_toNat_eq
    rw [BitVec.toNat_or]
    simp only [BitVec.toNat_ofNat, Nat.reducePow]
    rw [Nat.mod_eq_of_lt h1, Nat.mod_eq_of_lt h2, Nat.mod_eq_of_lt h3]
    exact nat_join k x y hx hy
  rw [← e]
  exact wrap_wv _
theorem or_comm32 (x y : Nat) (h1 : x < 4294967296) (h2 : y < 4294967296) : bits .or .u32 (x : Int) (y : Int) = bits .or .u32 (y : Int) (x : Int) := by
  rw [← wv_ofNat h1, ← wv_ofNat h2, or32, or32, BitVec.or_comm]
theorem le_num (a b d e : UInt8) : bits .or .u32 (bits .or .u32 (bits .or .u32 ((a.toNat : Int) % 4294967296) ((b.toNat : Int) % 4294967296 * 256 % 4294967296)) ((d.toNat : Int) % 4294967296 * 65536 % 4294967296)) ((e.toNat : Int) % 4294967296 * 16777216 % 4294967296) = wv (leW a b d e) := by
  have ha := a.toNat_lt; have hb := b.toNat_lt; have hd := d.toNat_lt; have he := e.toNat_lt
  simp only [Nat.reducePow] at ha hb hd he
  have e1 : (a.toNat : Int) % 4294967296 = ((a.toNat : Nat) : Int) := by omega
  have e2 : (b.toNat : Int) % 4294967296 * 256 % 4294967296 = ((b.toNat * 256 : Nat) : Int) := by omega
  have e3 : (d.toNat : Int) % 4294967296 * 65536 % 4294967296 = ((d.toNat * 65536 : Nat) : Int) := by omega
  have e4 : (e.toNat : Int) % 4294967296 * 16777216 % 4294967296 = ((e.toNat * 16777216 : Nat) : Int) := by omega
  rw [e1, e2, e3, e4]
  rw [or_comm32 _ _ (by omega) (by omega), or_num 8 _ _ (by simp only [Nat.reducePow]; omega) (by simp only [Nat.reducePow]; omega) (by omega) (by omega) (by omega)]
  rw [or_comm32 _ _ (by omega) (by omega), or_num 16 _ _ (by simp only [Nat.reducePow]; omega) (by simp only [Nat.reducePow]; omega) (by omega) (by omega) (by omega)]
  rw [or_comm32 _ _ (by omega) (by omega), or_num 24 _ _ (by simp only [Nat.reducePow]; omega) (by simp only [Nat.reducePow]; omega) (by omega) (by omega) (by omega)]
  unfold wv
  rw [leW_toNat]
  congr 1; omega
end Go.Proofs.Ytkikdhjckjmolaa
