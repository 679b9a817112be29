/- Poly: what Sum comes to, plainly; its steps on limbs. -/
import Derived.Test.YtkikdhjckjmolaaPo10
namespace Go.Proofs.Ytkikdhjckjmolaa
open Go.RowKit

/-- one block's bytes, and what is behind it -/
def blkN (l : List UInt8) (k : Nat) : Nat := leN ((l.drop (16 * k)).take 16 ++ [1])
/-- the sum after k blocks -/
def accN (r : Nat) (l : List UInt8) : Nat → Nat
  | 0 => 0
  | k + 1 => (accN r l k + blkN l k) * r % pP
/-- n bytes of a number, the lowest first -/
def leB (n v : Nat) : List UInt8 := (List.range n).map fun i => UInt8.ofNat (v / 256 ^ i)
theorem leB_len (n v : Nat) : (leB n v).length = n := by simp [leB]
/-- a text's tag under a key -/
def tagL (K l : List UInt8) : List UInt8 := leB 16 (accN (leN (clampL K)) l ((l.length + 15) / 16) + leN (K.drop 16))
theorem tagL_len (K l : List UInt8) : (tagL K l).length = 16 := leB_len _ _
theorem blkN_lt (l : List UInt8) (k : Nat) : blkN l k < 1361129467683753853853498429727072845824 := by
  unfold blkN
  have h := leN_lt ((l.drop (16 * k)).take 16 ++ [1])
  have h2 : ((l.drop (16 * k)).take 16 ++ [1]).length ≤ 17 := by simp; omega
  rw [leN_append]
  have h3 := leN_lt ((l.drop (16 * k)).take 16)
  have h4 : 256 ^ ((l.drop (16 * k)).take 16).length ≤ 256 ^ 16 := Nat.pow_le_pow_right (by decide) (by simp; omega)
  have h5 : leN [1] = 1 := rfl
  rw [h5]
  have h6 : (256 : Nat) ^ 16 = 340282366920938463463374607431768211456 := by decide
  rw [h6] at h4
  omega
theorem clampL_lt (K : List UInt8) : leN (clampL K) < 1361129467683753853853498429727072845824 := by
  have h := leN_lt (clampL K)
  rw [clampL_len] at h
  exact Nat.lt_trans h (by decide)
/-- limbs, as a round finds them -/
structure Acc (a : List Nat) (v : Nat) : Prop where
  len : a.length = 5
  lo : a.getD 0 0 ≤ 67108868
  hi : ∀ i, 1 ≤ i → i < 5 → a.getD i 0 ≤ 67108863
  val : valL a % pP = v % pP
theorem LeL.of {l : List Nat} {B : Nat} (h : l.length = 5) (hb : ∀ i, i < 5 → l.getD i 0 ≤ B) : LeL l B := by
  intro x hx
  obtain ⟨j, hj, rfl⟩ := List.getElem_of_mem hx
  have := hb j (by omega)
  rw [List.getD_eq_getElem?_getD, List.getElem?_eq_getElem hj] at this
  exact this
theorem Acc.le {a : List Nat} {v : Nat} (h : Acc a v) : LeL a 67108868 := LeL.of h.len fun i hi => by
  rcases Nat.eq_zero_or_pos i with rfl | h0
  · exact h.lo
  · exact Nat.le_trans (h.hi i h0 hi) (by decide)
theorem LeL.mono {l : List Nat} {B C : Nat} (h : LeL l B) (hc : B ≤ C) : LeL l C := fun x hx => Nat.le_trans (h x hx) hc
theorem Acc.zero (v : Nat) (h : v = 0) : Acc (List.replicate 5 0) v := by
  subst h
  exact ⟨rfl, by decide, fun i h0 hi => by
    have : i = 1 ∨ i = 2 ∨ i = 3 ∨ i = 4 := by omega
    rcases this with rfl | rfl | rfl | rfl <;> decide, rfl⟩
theorem addL_get (l m : List Nat) (i : Nat) (h : i < 5) : (addL l m).getD i 0 = l.getD i 0 + m.getD i 0 := by
  simp only [addL, List.getD_eq_getElem?_getD, List.getElem?_map, List.getElem?_range h, Option.map_some, Option.getD_some]
theorem Acc.add_le {a : List Nat} {v : Nat} (h : Acc a v) (m : Nat) : LeL (addL a (limbsN m)) 134217732 := LeL.of (addL_len _ _) fun i hi => by
  rw [addL_get _ _ i hi]
  have h1 := getD_le h.le i
  have h2 := getD_le (limbsN_le m) i
  omega
theorem Acc.step {a : List Nat} {v : Nat} (h : Acc a v) {m r : Nat} (hm : m < 1361129467683753853853498429727072845824) (hr : r < 1361129467683753853853498429727072845824) :
    Acc (settleL (mulL (addL a (limbsN m)) (limbsN r))) ((v + m) * r % pP) := by
  have hb := mulL_le (h.add_le m) (limbsN_le r) (addL_len _ _) (limbsN_len _)
  obtain ⟨h1, h2⟩ := settle_bound (mulL_len _ _) hb
  refine ⟨settleL_len _, h1, h2, ?_⟩
  rw [val_settle (mulL_len _ _), mul_mod (addL_len _ _) (limbsN_len _), add_val h.len (limbsN_len _), limbsN_val m hm, limbsN_val r hr, Nat.mod_mod, Nat.mul_mod, Nat.add_mod, h.val, ← Nat.add_mod, ← Nat.mul_mod]
theorem Acc.least {a : List Nat} {v : Nat} (h : Acc a v) : LeL a 1152921504606846976 ∧ LeL (settleL a) 1152921504606846976 ∧ LeL (settleL (settleL a)) 67108863 ∧ valL (leastL (settleL (settleL a))) = v % pP ∧ LeL (leastL (settleL (settleL a))) 67108863 ∧ (leastL (settleL (settleL a))).length = 5 := by
  have h1 : LeL a 1152921504606846976 := h.le.mono (by decide)
  obtain ⟨b1, b2⟩ := settle_bound h.len h1
  have h2 : LeL (settleL a) 1152921504606846976 := LeL.of (settleL_len _) fun i hi => by
    rcases Nat.eq_zero_or_pos i with rfl | h0
    · exact Nat.le_trans b1 (by decide)
    · exact Nat.le_trans (b2 i h0 hi) (by decide)
  have h3 := settle_again (settleL_len a) b1 b2
  obtain ⟨v1, v2, v3⟩ := least_val (settleL_len (settleL a)) h3
  refine ⟨h1, h2, h3, ?_, v3, v2⟩
  rw [v1, val_settle (settleL_len a), val_settle h.len, h.val]
/-- the tag while it is written: the pairs k, 8 + k -/
def tgS (T : List UInt8) (k : Nat) : List UInt8 := (List.range 16).map fun j => if j % 8 < k then T.getD j 0 else 0
theorem tgS_len (T : List UInt8) (k : Nat) : (tgS T k).length = 16 := by simp [tgS]
theorem tgS_0 (T : List UInt8) : tgS T 0 = List.replicate 16 0 := by
  unfold tgS
  rw [List.map_congr_left (g := fun _ => 0) (fun j _ => by rw [if_neg (by omega)])]
  rfl
theorem tgS_8 {T : List UInt8} (h : T.length = 16) : tgS T 8 = T := by
  apply List.ext_getElem
  · rw [tgS_len, h]
  · intro i h1 h2
    simp only [tgS, List.getElem_map, List.getElem_range]
    rw [if_pos (by omega)]
    simp [List.getD, h2]
theorem tgS_set (T : List UInt8) (k : Nat) (h : k < 8) : ((tgS T k).set k (T.getD k 0)).set (8 + k) (T.getD (8 + k) 0) = tgS T (k + 1) := by
  apply List.ext_getElem
  · simp [tgS_len]
  · intro i h1 h2
    rw [List.getElem_set, List.getElem_set]
    simp only [tgS, List.getElem_map, List.getElem_range]
    by_cases e : 8 + k = i
    · subst e
      rw [if_pos rfl, if_pos (by omega)]
    · rw [if_neg e]
      by_cases e2 : k = i
      · subst e2
        rw [if_pos rfl, if_pos (by omega)]
      · rw [if_neg e2]
        rw [tgS_len] at h2
        by_cases h3 : i % 8 < k
        · rw [if_pos h3, if_pos (by omega)]
        · rw [if_neg h3, if_neg (by omega)]
theorem leB_get (n v j : Nat) (h : j < n) : (leB n v).getD j 0 = UInt8.ofNat (v / 256 ^ j) := by
  simp [leB, List.getD, h]
/-- a tag's byte, out of its two words -/
theorem leB_lo (T x : Nat) (j : Nat) (hj : j < 8) (hx : x = T % 18446744073709551616) : IntKind.u8.wrap ((x : Int) / 2 ^ (8 * j)) = (((leB 16 T).getD j 0).toNat : Int) := by
  rw [leB_get 16 T j (by omega)]
  have e : (UInt8.ofNat (T / 256 ^ j)).toNat = T / 256 ^ j % 256 := UInt8.toNat_ofNat'
  rw [e, hx]
  have : j = 0 ∨ j = 1 ∨ j = 2 ∨ j = 3 ∨ j = 4 ∨ j = 5 ∨ j = 6 ∨ j = 7 := by omega
  rcases this with rfl | rfl | rfl | rfl | rfl | rfl | rfl | rfl
  all_goals simp [IntKind.wrap, IntKind.signed, IntKind.bits]
  all_goals omega
theorem leB_hi (T y : Nat) (j : Nat) (hj : j < 8) (hy : y = T / 18446744073709551616 % 18446744073709551616) : IntKind.u8.wrap ((y : Int) / 2 ^ (8 * j)) = (((leB 16 T).getD (8 + j) 0).toNat : Int) := by
  rw [leB_get 16 T (8 + j) (by omega)]
  have e : (UInt8.ofNat (T / 256 ^ (8 + j))).toNat = T / 256 ^ (8 + j) % 256 := UInt8.toNat_ofNat'
  rw [e, hy]
  have : j = 0 ∨ j = 1 ∨ j = 2 ∨ j = 3 ∨ j = 4 ∨ j = 5 ∨ j = 6 ∨ j = 7 := by omega
  rcases this with rfl | rfl | rfl | rfl | rfl | rfl | rfl | rfl
  all_goals simp [IntKind.wrap, IntKind.signed, IntKind.bits]
  all_goals omega
theorem accN_lt (r : Nat) (l : List UInt8) : ∀ k, accN r l k < pP
  | 0 => by show 0 < pP; decide
  | k + 1 => Nat.mod_lt _ (by decide)
end Go.Proofs.Ytkikdhjckjmolaa
