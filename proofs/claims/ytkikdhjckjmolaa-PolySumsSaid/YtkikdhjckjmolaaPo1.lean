/- Poly: plain arithmetic of five limbs of 26 bits. -/
import Derived.Test.YtkikdhjckjmolaaBase
namespace Go.Proofs.Ytkikdhjckjmolaa
open Go.RowKit

/-- 2^130 - 5 -/
def pP : Nat := 1361129467683753853853498429727072845819
/-- the number of five limbs -/
def valL (l : List Nat) : Nat := l.getD 0 0 + 67108864 * (l.getD 1 0 + 67108864 * (l.getD 2 0 + 67108864 * (l.getD 3 0 + 67108864 * l.getD 4 0)))
/-- what is carried out of the first k limbs -/
def carryL (l : List Nat) : Nat → Nat
  | 0 => 0
  | k + 1 => (l.getD k 0 + carryL l k) / 67108864
/-- k limbs are made right -/
def midL (l : List Nat) (k : Nat) : List Nat := (List.range 5).map fun i => if i < k then (l.getD i 0 + carryL l i) % 67108864 else l.getD i 0
def passL (l : List Nat) : List Nat := (midL l 5).set 0 ((midL l 5).getD 0 0 + 5 * carryL l 5)
def settleL (l : List Nat) : List Nat := passL (passL l)
def addL (l m : List Nat) : List Nat := (List.range 5).map fun i => l.getD i 0 + m.getD i 0

theorem five {l : List Nat} (h : l.length = 5) : ∃ a b c d e, l = [a, b, c, d, e] := by
  match l, h with
  | [a, b, c, d, e], _ => exact ⟨a, b, c, d, e, rfl⟩
theorem midL_len (l : List Nat) (k : Nat) : (midL l k).length = 5 := by simp [midL]
theorem passL_len (l : List Nat) : (passL l).length = 5 := by simp [passL, midL_len]
theorem settleL_len (l : List Nat) : (settleL l).length = 5 := passL_len _
theorem addL_len (l m : List Nat) : (addL l m).length = 5 := by simp [addL]
theorem midL_0 {l : List Nat} (h : l.length = 5) : midL l 0 = l := by
  obtain ⟨a, b, c, d, e, rfl⟩ := five h
  simp [midL, List.range_succ]
theorem midL_get (l : List Nat) (k i : Nat) (h : i < 5) : (midL l k).getD i 0 = if i < k then (l.getD i 0 + carryL l i) % 67108864 else l.getD i 0 := by
  simp only [midL, List.getD_eq_getElem?_getD, List.getElem?_map, List.getElem?_range h, Option.map_some, Option.getD_some]
theorem midL_set (l : List Nat) (k : Nat) (h : k < 5) : (midL l k).set k ((l.getD k 0 + carryL l k) % 67108864) = midL l (k + 1) := by
  apply List.ext_getElem?
  intro i
  rw [List.getElem?_set, midL_len]
  by_cases e : k = i
  · subst e
    rw [if_pos rfl, if_pos h]
    simp [midL, h]
  · rw [if_neg e]
    by_cases hi : i < 5
    · simp only [midL, List.getElem?_map, List.getElem?_range hi, Option.map_some]
      by_cases h1 : i < k
      · rw [if_pos h1, if_pos (by omega)]
      · rw [if_neg h1, if_neg (by omega)]
    · rw [List.getElem?_eq_none (by rw [midL_len]; omega), List.getElem?_eq_none (by rw [midL_len]; omega)]
theorem passL_eq (a b c d e : Nat) : ∃ c0 c1 c2 c3 c4 m0 m1 m2 m3 m4, passL [a, b, c, d, e] = [m0 + 5 * c4, m1, m2, m3, m4] ∧ a = m0 + 67108864 * c0 ∧ b + c0 = m1 + 67108864 * c1 ∧ c + c1 = m2 + 67108864 * c2 ∧ d + c2 = m3 + 67108864 * c3 ∧ e + c3 = m4 + 67108864 * c4 ∧
    m0 < 67108864 ∧ m1 < 67108864 ∧ m2 < 67108864 ∧ m3 < 67108864 ∧ m4 < 67108864 ∧ carryL [a, b, c, d, e] 5 = c4 := by
  refine ⟨carryL [a, b, c, d, e] 1, carryL [a, b, c, d, e] 2, carryL [a, b, c, d, e] 3, carryL [a, b, c, d, e] 4, carryL [a, b, c, d, e] 5, (a + 0) % 67108864, (b + carryL [a, b, c, d, e] 1) % 67108864, (c + carryL [a, b, c, d, e] 2) % 67108864, (d + carryL [a, b, c, d, e] 3) % 67108864, (e + carryL [a, b, c, d, e] 4) % 67108864, rfl, ?_⟩
  refine ⟨?_, ?_, ?_, ?_, ?_, ?_, ?_, ?_, ?_, ?_, rfl⟩ <;> (try simp only [carryL, List.getD_cons_zero, List.getD_cons_succ]) <;> omega
theorem val_pass {l : List Nat} (h : l.length = 5) : valL l = valL (passL l) + pP * carryL l 5 := by
  obtain ⟨a, b, c, d, e, rfl⟩ := five h
  obtain ⟨c0, c1, c2, c3, c4, m0, m1, m2, m3, m4, hp, h0, h1, h2, h3, h4, _, _, _, _, _, hc⟩ := passL_eq a b c d e
  rw [hp, hc]
  simp only [valL, List.getD_cons_zero, List.getD_cons_succ, pP]
  omega
theorem val_settle {l : List Nat} (h : l.length = 5) : valL (settleL l) % pP = valL l % pP := by
  have h1 := val_pass h
  have h2 := val_pass (passL_len l)
  unfold settleL
  rw [h1, h2, Nat.add_mul_mod_self_left, Nat.add_mul_mod_self_left]
/-- limbs that are no greater -/
def LeL (l : List Nat) (B : Nat) : Prop := ∀ x ∈ l, x ≤ B
theorem pass_bound {l : List Nat} (h : l.length = 5) (hb : LeL l 1152921504606846976) : (passL l).getD 0 0 ≤ 67108863 + 5 * 17179869700 ∧ ∀ i, 1 ≤ i → i < 5 → (passL l).getD i 0 ≤ 67108863 := by
  obtain ⟨a, b, c, d, e, rfl⟩ := five h
  obtain ⟨c0, c1, c2, c3, c4, m0, m1, m2, m3, m4, hp, h0, h1, h2, h3, h4, _, _, _, _, _, hc⟩ := passL_eq a b c d e
  have ha := hb a (by simp); have hb' := hb b (by simp); have hc' := hb c (by simp); have hd' := hb d (by simp); have he' := hb e (by simp)
  rw [hp]
  refine ⟨by simp only [List.getD_cons_zero]; omega, fun i h1 h2 => ?_⟩
  have : i = 1 ∨ i = 2 ∨ i = 3 ∨ i = 4 := by omega
  rcases this with rfl | rfl | rfl | rfl <;> simp only [List.getD_cons_zero, List.getD_cons_succ] <;> omega
theorem settle_bound {l : List Nat} (h : l.length = 5) (hb : LeL l 1152921504606846976) : (settleL l).getD 0 0 ≤ 67108868 ∧ ∀ i, 1 ≤ i → i < 5 → (settleL l).getD i 0 ≤ 67108863 := by
  have h1 := pass_bound h hb
  unfold settleL
  obtain ⟨a, b, c, d, e, he⟩ := five (passL_len l)
  rw [he] at h1 ⊢
  have hA := h1.1; have hB := h1.2 1 (by decide) (by decide); have hC := h1.2 2 (by decide) (by decide); have hD := h1.2 3 (by decide) (by decide); have hE := h1.2 4 (by decide) (by decide)
  simp only [List.getD_cons_zero, List.getD_cons_succ] at hA hB hC hD hE
  obtain ⟨c0, c1, c2, c3, c4, m0, m1, m2, m3, m4, hp, h0, h1, h2, h3, h4, _, _, _, _, _, hc⟩ := passL_eq a b c d e
  rw [hp]
  refine ⟨by simp only [List.getD_cons_zero]; omega, fun i h1 h2 => ?_⟩
  have : i = 1 ∨ i = 2 ∨ i = 3 ∨ i = 4 := by omega
  rcases this with rfl | rfl | rfl | rfl <;> simp only [List.getD_cons_zero, List.getD_cons_succ] <;> omega
/-- settled twice: each limb below 2^26 -/
theorem settle_again {l : List Nat} (h : l.length = 5) (h0 : l.getD 0 0 ≤ 67108868) (hi : ∀ i, 1 ≤ i → i < 5 → l.getD i 0 ≤ 67108863) : LeL (settleL l) 67108863 := by
  obtain ⟨a, b, c, d, e, rfl⟩ := five h
  have hA := h0; have hB := hi 1 (by decide) (by decide); have hC := hi 2 (by decide) (by decide); have hD := hi 3 (by decide) (by decide); have hE := hi 4 (by decide) (by decide)
  simp only [List.getD_cons_zero, List.getD_cons_succ] at hA hB hC hD hE
  obtain ⟨c0, c1, c2, c3, c4, m0, m1, m2, m3, m4, hp, h0, h1, h2, h3, h4, _, _, _, _, _, hc⟩ := passL_eq a b c d e
  unfold settleL
  rw [hp]
  obtain ⟨d0, d1, d2, d3, d4, n0, n1, n2, n3, n4, hq, g0, g1, g2, g3, g4, _, _, _, _, _, hd⟩ := passL_eq (m0 + 5 * c4) m1 m2 m3 m4
  rw [hq]
  intro x hx
  simp only [List.mem_cons, List.not_mem_nil, or_false] at hx
  rcases hx with rfl | rfl | rfl | rfl | rfl <;> omega
/-- what least comes to -/
def overL (l : List Nat) : List Nat := midL (l.set 0 (l.getD 0 0 + 5)) 5
def leastL (l : List Nat) : List Nat := if 0 < carryL (l.set 0 (l.getD 0 0 + 5)) 5 then overL l else l
theorem least_val {l : List Nat} (h : l.length = 5) (hb : LeL l 67108863) : valL (leastL l) = valL l % pP ∧ (leastL l).length = 5 ∧ LeL (leastL l) 67108863 := by
  obtain ⟨a, b, c, d, e, rfl⟩ := five h
  have ha := hb a (by simp); have hb' := hb b (by simp); have hc' := hb c (by simp); have hd' := hb d (by simp); have he' := hb e (by simp)
  obtain ⟨c0, c1, c2, c3, c4, m0, m1, m2, m3, m4, hp, h0, h1, h2, h3, h4, _, _, _, _, _, hc⟩ := passL_eq (a + 5) b c d e
  have hov : overL [a, b, c, d, e] = [m0, m1, m2, m3, m4] := by
    have e1 : passL [a + 5, b, c, d, e] = (overL [a, b, c, d, e]).set 0 ((overL [a, b, c, d, e]).getD 0 0 + 5 * carryL [a + 5, b, c, d, e] 5) := rfl
    rw [e1, hc] at hp
    obtain ⟨x0, x1, x2, x3, x4, hx⟩ := five (show (overL [a, b, c, d, e]).length = 5 from midL_len _ _)
    rw [hx] at hp ⊢
    simp only [List.getD_cons_zero, List.set_cons_zero, List.cons.injEq, and_true] at hp
    simp only [List.cons.injEq, and_true]
    omega
  have hcc : carryL ([a, b, c, d, e].set 0 ([a, b, c, d, e].getD 0 0 + 5)) 5 = c4 := hc
  unfold leastL
  rw [hcc, hov]
  split
  · refine ⟨?_, rfl, ?_⟩
    · have e1 : valL [a, b, c, d, e] = pP + valL [m0, m1, m2, m3, m4] := by
        simp only [valL, List.getD_cons_zero, List.getD_cons_succ, pP]
        omega
      have e2 : valL [m0, m1, m2, m3, m4] < pP := by
        simp only [valL, List.getD_cons_zero, List.getD_cons_succ, pP]
        omega
      rw [e1, Nat.add_mod_left, Nat.mod_eq_of_lt e2]
    · intro x hx
      simp only [List.mem_cons, List.not_mem_nil, or_false] at hx
      rcases hx with rfl | rfl | rfl | rfl | rfl <;> omega
  · refine ⟨?_, rfl, hb⟩
    rw [Nat.mod_eq_of_lt]
    simp only [valL, List.getD_cons_zero, List.getD_cons_succ, pP]
    omega
end Go.Proofs.Ytkikdhjckjmolaa
