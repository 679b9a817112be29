/- Poly: bits that are let go. -/
import Derived.Test.YtkikdhjckjmolaaPo20
namespace Go.Proofs.Ytkikdhjckjmolaa
open Go.RowKit
attribute [local go_sem] yld yldUpon_value

theorem and_gone {x y m : UInt8} (h : y &&& m = 0) : (x ^^^ y) &&& m = x &&& m := by
  apply UInt8.toNat_inj.1
  have h' : y.toNat &&& m.toNat = 0 := by rw [← UInt8.toNat_and, h]; rfl
  rw [UInt8.toNat_and, UInt8.toNat_xor, UInt8.toNat_and, Nat.and_xor_distrib_right, h', Nat.xor_zero]
/-- what a key's byte is turned by -/
def hi4 (t : UInt8) : UInt8 := UInt8.ofNat (t.toNat / 16 * 16)
def lo2 (t : UInt8) : UInt8 := UInt8.ofNat (t.toNat % 4)
theorem hi4_nat (t : UInt8) : (hi4 t).toNat = t.toNat / 16 * 16 := by
  have h : (UInt8.ofNat (t.toNat / 16 * 16)).toNat = t.toNat / 16 * 16 % 256 := UInt8.toNat_ofNat'
  have := t.toNat_lt
  unfold hi4
  rw [h]; omega
theorem lo2_nat (t : UInt8) : (lo2 t).toNat = t.toNat % 4 := by
  have h : (UInt8.ofNat (t.toNat % 4)).toNat = t.toNat % 4 % 256 := UInt8.toNat_ofNat'
  unfold lo2
  rw [h]; omega
set_option maxRecDepth 100000 in
theorem hi4_gone (t : UInt8) : hi4 t &&& 15 = 0 := by
  apply UInt8.toNat_inj.1
  rw [UInt8.toNat_and, hi4_nat]
  have key : ∀ n, n < 256 → n / 16 * 16 &&& 15 = 0 := by decide
  exact key _ t.toNat_lt
set_option maxRecDepth 100000 in
theorem lo2_gone (t : UInt8) : lo2 t &&& 252 = 0 := by
  apply UInt8.toNat_inj.1
  rw [UInt8.toNat_and, lo2_nat]
  have key : ∀ n, n < 256 → n % 4 &&& 252 = 0 := by decide
  exact key _ t.toNat_lt
def goB (K t : List UInt8) (i : Nat) : UInt8 := if i % 4 = 3 then K.getD i 0 ^^^ hi4 (t.getD i 0) else if i % 4 = 0 ∧ 0 < i then K.getD i 0 ^^^ lo2 (t.getD i 0) else K.getD i 0
def goS (K t : List UInt8) (n : Nat) : List UInt8 := (List.range 32).map fun i => if i < n then goB K t i else K.getD i 0
theorem goS_len (K t : List UInt8) (n : Nat) : (goS K t n).length = 32 := by simp [goS]
theorem goS_0 {K : List UInt8} (h : K.length = 32) (t : List UInt8) : goS K t 0 = K := by
  apply List.ext_getElem
  · rw [goS_len, h]
  · intro i h1 h2
    simp [goS, List.getD, h2]
theorem goS_get (K t : List UInt8) (n i : Nat) (h : i < 32) (hn : n ≤ i) : (goS K t n)[i]'(by rw [goS_len]; exact h) = K.getD i 0 := by
  simp only [goS, List.getElem_map, List.getElem_range]
  rw [if_neg (by omega)]
theorem goS_set (K t : List UInt8) (n : Nat) (_ : n < 32) : (goS K t n).set n (goB K t n) = goS K t (n + 1) := by
  apply List.ext_getElem
  · simp [goS_len]
  · intro i h1 h2
    rw [List.getElem_set]
    simp only [goS, List.getElem_map, List.getElem_range]
    by_cases e : n = i
    · subst e
      rw [if_pos rfl, if_pos (by omega)]
    · rw [if_neg e]
      by_cases h3 : i < n
      · rw [if_pos h3, if_pos (by omega)]
      · rw [if_neg h3, if_neg (by omega)]
theorem goS_skip (K t : List UInt8) (n : Nat) (h : goB K t n = K.getD n 0) : goS K t (n + 1) = goS K t n := by
  apply List.map_congr_left
  intro i _
  by_cases e : i = n
  · subst e
    rw [if_pos (by omega), if_neg (by omega), h]
  · by_cases h3 : i < n
    · rw [if_pos h3, if_pos (by omega)]
    · rw [if_neg h3, if_neg (by omega)]
theorem goS_getD (K t : List UInt8) (n i : Nat) (h : i < 32) : (goS K t n).getD i 0 = if i < n then goB K t i else K.getD i 0 := by
  rw [goS, List.getD_eq_getElem?_getD, List.getElem?_map, List.getElem?_range h]; rfl
theorem go_clamp {K : List UInt8} (_ : K.length = 32) (t : List UInt8) : clampL (goS K t 16) = clampL K := by
  apply List.ext_getElem
  · rw [clampL_len, clampL_len]
  · intro i h1 h2
    rw [clampL_len] at h1
    rw [clampL_get _ i h1, clampL_get _ i h1, goS_getD K t 16 i (by omega), if_pos h1]
    by_cases h3 : i % 4 = 3
    · have e : goB K t i = K.getD i 0 ^^^ hi4 (t.getD i 0) := by unfold goB; rw [if_pos h3]
      have h0 : ¬ (i % 4 = 0 ∧ 4 ≤ i) := by omega
      rw [e, if_neg h0, if_neg h0, if_pos h3, if_pos h3]
      exact and_gone (hi4_gone _)
    · by_cases h0 : i % 4 = 0 ∧ 0 < i
      · have e : goB K t i = K.getD i 0 ^^^ lo2 (t.getD i 0) := by unfold goB; rw [if_neg h3, if_pos h0]
        have h4 : i % 4 = 0 ∧ 4 ≤ i := by omega
        rw [e, if_pos h4, if_pos h4]
        exact and_gone (lo2_gone _)
      · have e : goB K t i = K.getD i 0 := by unfold goB; rw [if_neg h3, if_neg h0]
        rw [e]
theorem go_drop {K : List UInt8} (hK : K.length = 32) (t : List UInt8) : (goS K t 16).drop 16 = K.drop 16 := by
  apply List.ext_getElem
  · rw [List.length_drop, List.length_drop, goS_len, hK]
  · intro i h1 h2
    rw [List.getElem_drop, List.getElem_drop]
    rw [List.length_drop, goS_len] at h1
    rw [goS_get K t 16 (16 + i) (by omega) (by omega)]
    have : 16 + i < K.length := by omega
    simp [List.getD, this]
theorem tag_go {K : List UInt8} (hK : K.length = 32) (t l : List UInt8) : tagL (goS K t 16) l = tagL K l := by
  unfold tagL
  rw [go_clamp hK, go_drop hK]
end Go.Proofs.Ytkikdhjckjmolaa
