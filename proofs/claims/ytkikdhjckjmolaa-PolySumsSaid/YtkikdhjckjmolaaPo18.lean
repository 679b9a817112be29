/- Poly: plain laws of tags. -/
import Derived.Test.YtkikdhjckjmolaaPo17
namespace Go.Proofs.Ytkikdhjckjmolaa
open Go.RowKit

theorem leB_succ (n v : Nat) : leB (n + 1) v = UInt8.ofNat v :: leB n (v / 256) := by
  unfold leB
  rw [List.range_succ_eq_map, List.map_cons, List.map_map]
  simp only [Nat.pow_zero, Nat.div_one]
  congr 1
  apply List.map_congr_left
  intro i _
  simp only [Function.comp]
  rw [Nat.pow_succ, Nat.mul_comm, Nat.div_div_eq_div_mul]
theorem leN_leB (n v : Nat) : leN (leB n v) = v % 256 ^ n := by
  induction n generalizing v with
  | zero => rw [Nat.pow_zero, Nat.mod_one]; rfl
  | succ n ih =>
    rw [leB_succ]
    show (UInt8.ofNat v).toNat + 256 * leN (leB n (v / 256)) = _
    have e : (UInt8.ofNat v).toNat = v % 256 := UInt8.toNat_ofNat'
    rw [ih, e, Nat.pow_succ, Nat.mul_comm (256 ^ n) 256, Nat.mod_mul]
theorem leB_leN : ∀ l : List UInt8, leB l.length (leN l) = l
  | [] => rfl
  | u :: l => by
    show leB (l.length + 1) (u.toNat + 256 * leN l) = _
    have hu := u.toNat_lt
    rw [leB_succ, show (u.toNat + 256 * leN l) / 256 = leN l by omega, leB_leN l]
    congr 1
    apply UInt8.toNat_inj.1
    have e : (UInt8.ofNat (u.toNat + 256 * leN l)).toNat = (u.toNat + 256 * leN l) % 256 := UInt8.toNat_ofNat'
    rw [e]; omega
theorem leB_mod (n v : Nat) : leB n (v % 256 ^ n) = leB n v := by
  have h := leB_leN (leB n v)
  rw [leB_len, leN_leB] at h; exact h
theorem leB_eq {n v w : Nat} (h : v % 256 ^ n = w % 256 ^ n) : leB n v = leB n w := by rw [← leB_mod n v, h, leB_mod]
theorem leB16 {l : List UInt8} (h : l.length = 16) : leB 16 (leN l) = l := by
  have := leB_leN l
  rw [h] at this; exact this

theorem clampL_get (K : List UInt8) (i : Nat) (h : i < 16) : (clampL K)[i]'(by rw [clampL_len]; exact h) = if i % 4 = 0 ∧ 4 ≤ i then K.getD i 0 &&& 252 else if i % 4 = 3 then K.getD i 0 &&& 15 else K.getD i 0 := by
  simp only [clampL, List.getElem_take, clampS, List.getElem_map, List.getElem_range]
  have e : (List.map (fun i => if i % 4 = 3 ∧ 3 ≤ i ∧ i < 19 then K.getD i 0 &&& 15 else K.getD i 0) (List.range 32)).getD i 0 = if i % 4 = 3 then K.getD i 0 &&& 15 else K.getD i 0 := by
    rw [List.getD_eq_getElem?_getD, List.getElem?_map, List.getElem?_range (by omega)]
    simp only [Option.map_some, Option.getD_some]
    by_cases h3 : i % 4 = 3
    · rw [if_pos ⟨h3, by omega, by omega⟩, if_pos h3]
    · rw [if_neg (fun e => h3 e.1), if_neg h3]
  rw [e]
  by_cases h0 : i % 4 = 0 ∧ 4 ≤ i
  · rw [if_pos ⟨h0.1, h0.2, h⟩, if_pos h0, if_neg (by omega)]
  · rw [if_neg (fun e => h0 ⟨e.1, e.2.1⟩), if_neg h0]
theorem clampL_congr {K K' : List UInt8} (h : ∀ i, i < 16 → K.getD i 0 = K'.getD i 0) : clampL K = clampL K' := by
  apply List.ext_getElem
  · rw [clampL_len, clampL_len]
  · intro i h1 h2
    rw [clampL_len] at h1
    rw [clampL_get K i h1, clampL_get K' i h1, h i h1]
theorem clampL_take {K K' : List UInt8} (h : K.take 16 = K'.take 16) : clampL K = clampL K' := clampL_congr fun i hi => by
  have e : ∀ L : List UInt8, L.getD i 0 = (L.take 16).getD i 0 := fun L => by simp [List.getD, hi]
  rw [e K, e K', h]
theorem accN_0 (l : List UInt8) (k : Nat) : accN 0 l k = 0 := by
  cases k with
  | zero => rfl
  | succ k => show (accN 0 l k + blkN l k) * 0 % pP = 0; rw [Nat.mul_zero]; rfl
theorem tag_none {s : List UInt8} (hs : s.length = 16) (l : List UInt8) : tagL (List.replicate 16 0 ++ s) l = s := by
  have e : clampL (List.replicate 16 0 ++ s) = List.replicate 16 0 := by
    rw [clampL_take (K' := List.replicate 32 0) (by rw [List.take_left' (by simp)]; rfl)]; rfl
  unfold tagL
  rw [e, show leN (List.replicate 16 0) = 0 from rfl, accN_0, Nat.zero_add, List.drop_left' (by simp)]
  exact leB16 hs
theorem tag_nil {K : List UInt8} (hK : K.length = 32) : tagL K [] = K.drop 16 := by
  unfold tagL
  show leB 16 (0 + leN (K.drop 16)) = _
  rw [Nat.zero_add]
  exact leB16 (by rw [List.length_drop, hK])
theorem tag_moved {K by' : List UInt8} (hK : K.length = 32) (l : List UInt8) : tagL (K.take 16 ++ sumL (K.drop 16) by') l = sumL (tagL K l) by' := by
  have h16 : (K.take 16).length = 16 := by rw [List.length_take, hK]; rfl
  have e : clampL (K.take 16 ++ sumL (K.drop 16) by') = clampL K := clampL_take (by rw [List.take_left' h16])
  unfold tagL
  rw [e, List.drop_left' h16]
  unfold sumL
  apply leB_eq
  rw [leN_leB, leN_leB]
  omega
theorem leN_one (l : List UInt8) : leN (l ++ [1]) = leN l + 256 ^ l.length := by
  rw [leN_append]; show _ + 256 ^ l.length * 1 = _; rw [Nat.mul_one]
/-- one block as a tag -/
def oneT (l : List UInt8) : List UInt8 := if 0 < l.length ∧ l.length < 16 then l ++ [1] ++ List.replicate (15 - l.length) 0 else l ++ List.replicate (16 - l.length) 0
theorem oneT_len (l : List UInt8) (h : l.length ≤ 16) : (oneT l).length = 16 := by
  unfold oneT
  split <;> simp <;> omega
theorem clamp_one (s : List UInt8) : leN (clampL ((1 :: List.replicate 15 0) ++ s)) = 1 := by
  rw [clampL_take (K' := (1 :: List.replicate 15 0) ++ List.replicate 16 0) (by rw [List.take_left' (by simp), List.take_left' (by simp)])]
  decide
theorem tag_one {s : List UInt8} (hs : s.length = 16) (l : List UInt8) (h : l.length ≤ 16) : tagL ((1 :: List.replicate 15 0) ++ s) l = sumL (oneT l) s := by
  unfold tagL sumL
  rw [clamp_one, List.drop_left' (by simp)]
  apply leB_eq
  rcases Nat.eq_zero_or_pos l.length with h0 | h0
  · have : l = [] := List.eq_nil_of_length_eq_zero h0
    subst this
    rfl
  · have hk : (l.length + 15) / 16 = 1 := by omega
    have hb := blkN_lt l 0
    rw [hk]
    show (((0 + blkN l 0) * 1 % pP) + leN s) % _ = _
    have e : blkN l 0 = leN l + 256 ^ l.length := by
      unfold blkN
      rw [Nat.mul_zero, List.drop_zero, List.take_of_length_le h, leN_one]
    have hl := leN_lt l
    have hp : 256 ^ l.length ≤ 256 ^ 16 := Nat.pow_le_pow_right (by decide) h
    have h16 : (256 : Nat) ^ 16 = 340282366920938463463374607431768211456 := by decide
    rw [h16] at hp
    have hlt : leN l + 256 ^ l.length < pP := by
      have : pP = 1361129467683753853853498429727072845819 := rfl
      omega
    rw [Nat.zero_add, Nat.mul_one, e, Nat.mod_eq_of_lt (a := leN l + 256 ^ l.length) (b := pP) hlt]
    unfold oneT
    split
    · rw [leN_zeros, leN_one]
    · have : l.length = 16 := by omega
      rw [leN_zeros, this]
      omega
end Go.Proofs.Ytkikdhjckjmolaa
