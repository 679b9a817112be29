/- Poly: products of limbs. -/
import Derived.Test.YtkikdhjckjmolaaPo1
namespace Go.Proofs.Ytkikdhjckjmolaa
open Go.RowKit

/-- what step t adds -/
def incr (l m : List Nat) (t : Nat) : Nat := if t / 5 + t % 5 < 5 then l.getD (t / 5) 0 * m.getD (t % 5) 0 else 5 * l.getD (t / 5) 0 * m.getD (t % 5) 0
/-- t steps of a product -/
def mulS (l m : List Nat) : Nat → List Nat
  | 0 => List.replicate 5 0
  | t + 1 => (mulS l m t).set ((t / 5 + t % 5) % 5) ((mulS l m t).getD ((t / 5 + t % 5) % 5) 0 + incr l m t)
def mulL (l m : List Nat) : List Nat := mulS l m 25
theorem mulS_len (l m : List Nat) (t : Nat) : (mulS l m t).length = 5 := by
  induction t with
  | zero => rfl
  | succ t ih => rw [mulS, List.length_set, ih]
theorem mulL_eq (a0 a1 a2 a3 a4 b0 b1 b2 b3 b4 : Nat) : mulL [a0, a1, a2, a3, a4] [b0, b1, b2, b3, b4] =
    [0 + a0 * b0 + 5 * a1 * b4 + 5 * a2 * b3 + 5 * a3 * b2 + 5 * a4 * b1, 0 + a0 * b1 + a1 * b0 + 5 * a2 * b4 + 5 * a3 * b3 + 5 * a4 * b2, 0 + a0 * b2 + a1 * b1 + a2 * b0 + 5 * a3 * b4 + 5 * a4 * b3,
     0 + a0 * b3 + a1 * b2 + a2 * b1 + a3 * b0 + 5 * a4 * b4, 0 + a0 * b4 + a1 * b3 + a2 * b2 + a3 * b1 + a4 * b0] := by kernel_rfl
theorem row5 (x b0 b1 b2 b3 b4 : Nat) : x * valL [b0, b1, b2, b3, b4] = valL [x * b0, x * b1, x * b2, x * b3, x * b4] := by
  simp only [valL, List.getD_cons_zero, List.getD_cons_succ, Nat.mul_add, Nat.mul_left_comm x 67108864]
theorem mul_val (a0 a1 a2 a3 a4 b0 b1 b2 b3 b4 : Nat) : ∃ q, valL [a0, a1, a2, a3, a4] * valL [b0, b1, b2, b3, b4] = valL (mulL [a0, a1, a2, a3, a4] [b0, b1, b2, b3, b4]) + pP * q := by
  have e : valL [a0, a1, a2, a3, a4] * valL [b0, b1, b2, b3, b4] = a0 * valL [b0, b1, b2, b3, b4] + 67108864 * (a1 * valL [b0, b1, b2, b3, b4] + 67108864 * (a2 * valL [b0, b1, b2, b3, b4] + 67108864 * (a3 * valL [b0, b1, b2, b3, b4] + 67108864 * (a4 * valL [b0, b1, b2, b3, b4])))) := by
    generalize valL [b0, b1, b2, b3, b4] = v
    simp only [valL, List.getD_cons_zero, List.getD_cons_succ, Nat.add_mul, Nat.mul_assoc]
  rw [e, row5, row5, row5, row5, row5, mulL_eq]
  refine ⟨(a1 * b4 + a2 * b3 + a3 * b2 + a4 * b1) + 67108864 * ((a2 * b4 + a3 * b3 + a4 * b2) + 67108864 * ((a3 * b4 + a4 * b3) + 67108864 * (a4 * b4))), ?_⟩
  simp only [valL, List.getD_cons_zero, List.getD_cons_succ, pP, Nat.mul_assoc]
  omega
theorem mul_mod {l m : List Nat} (hl : l.length = 5) (hm : m.length = 5) : valL (mulL l m) % pP = valL l * valL m % pP := by
  obtain ⟨a0, a1, a2, a3, a4, rfl⟩ := five hl
  obtain ⟨b0, b1, b2, b3, b4, rfl⟩ := five hm
  obtain ⟨q, hq⟩ := mul_val a0 a1 a2 a3 a4 b0 b1 b2 b3 b4
  rw [hq, Nat.add_mul_mod_self_left]
theorem prod_le {a b A B : Nat} (h1 : a ≤ A) (h2 : b ≤ B) : a * b ≤ A * B := Nat.mul_le_mul h1 h2
def BB : Nat := 45035996944793580
/-- no step goes over -/
theorem mulS_bound {l m : List Nat} (hl : LeL l 134217732) (hm : LeL m 67108863) (h5 : l.length = 5) (h5' : m.length = 5) : ∀ t, t ≤ 25 → ∀ j, (mulS l m t).getD j 0 ≤ t * BB := by
  have hg : ∀ (l : List Nat) B, LeL l B → ∀ i, l.getD i 0 ≤ B := fun l B h i => by
    rw [List.getD_eq_getElem?_getD]
    cases e : l[i]? with
    | none => exact Nat.zero_le _
    | some x => exact h x (List.mem_of_getElem? e)
  intro t
  induction t with
  | zero => intro _ j; rw [mulS, List.getD_eq_getElem?_getD, List.getElem?_replicate]; split <;> simp
  | succ t ih =>
    intro ht j
    have h1 : l.getD (t / 5) 0 * m.getD (t % 5) 0 ≤ 9007199388958716 := Nat.le_trans (prod_le (hg l _ hl (t / 5)) (hg m _ hm (t % 5))) (by decide)
    have h2 : incr l m t ≤ BB := by
      unfold incr
      split
      · unfold BB; omega
      · rw [Nat.mul_assoc]; unfold BB; omega
    rw [mulS]
    have hj := ih (by omega) j
    have hk := ih (by omega) ((t / 5 + t % 5) % 5)
    rw [List.getD_eq_getElem?_getD, List.getElem?_set]
    split
    · rename_i e
      split
      · rw [Option.getD_some]
        generalize (mulS l m t).getD ((t / 5 + t % 5) % 5) 0 = x at hk ⊢
        generalize incr l m t = y at h2 ⊢
        rw [Nat.succ_mul]
        exact Nat.add_le_add hk h2
      · exact Nat.zero_le _
    · rw [← List.getD_eq_getElem?_getD]; exact Nat.le_trans hj (Nat.mul_le_mul_right _ (Nat.le_succ t))
theorem mulS_le {l m : List Nat} (hl : LeL l 134217732) (hm : LeL m 67108863) (h5 : l.length = 5) (h5' : m.length = 5) (t : Nat) (ht : t ≤ 25) : LeL (mulS l m t) 1152921504606846976 := by
  intro x hx
  obtain ⟨j, hj, rfl⟩ := List.getElem_of_mem hx
  have h1 := mulS_bound hl hm h5 h5' t ht j
  rw [List.getD_eq_getElem?_getD, List.getElem?_eq_getElem hj, Option.getD_some] at h1
  generalize (mulS l m t)[j] = y at h1 ⊢
  unfold BB at h1
  omega
theorem mulL_le {l m : List Nat} (hl : LeL l 134217732) (hm : LeL m 67108863) (h5 : l.length = 5) (h5' : m.length = 5) : LeL (mulL l m) 1152921504606846976 := by
  unfold mulL
  generalize ht : 25 = t
  exact mulS_le hl hm h5 h5' t (by omega)
theorem mulL_len (l m : List Nat) : (mulL l m).length = 5 := by unfold mulL; generalize 25 = t; exact mulS_len l m t
theorem add_val {l m : List Nat} (hl : l.length = 5) (hm : m.length = 5) : valL (addL l m) = valL l + valL m := by
  obtain ⟨a0, a1, a2, a3, a4, rfl⟩ := five hl
  obtain ⟨b0, b1, b2, b3, b4, rfl⟩ := five hm
  simp only [addL, List.range_succ, List.range_zero, List.nil_append, List.cons_append, List.map_cons, List.map_nil, valL, List.getD_cons_zero, List.getD_cons_succ]
  omega
/-- the limbs of a number -/
def limbsN (v : Nat) : List Nat := (List.range 5).map fun i => v / 2 ^ (26 * i) % 67108864
theorem limbsN_len (v : Nat) : (limbsN v).length = 5 := by simp [limbsN]
theorem limbsN_le (v : Nat) : LeL (limbsN v) 67108863 := by
  intro x hx
  simp only [limbsN, List.mem_map] at hx
  obtain ⟨i, _, rfl⟩ := hx
  omega
theorem limbsN_eq (v : Nat) : limbsN v = [v % 67108864, v / 67108864 % 67108864, v / 4503599627370496 % 67108864, v / 302231454903657293676544 % 67108864, v / 20282409603651670423947251286016 % 67108864] := by
  unfold limbsN
  simp only [List.range_succ, List.range_zero, List.nil_append, List.cons_append, List.map_cons, List.map_nil]
  simp only [Nat.mul_zero, Nat.pow_zero, Nat.div_one]
theorem limbsN_val (v : Nat) (h : v < 1361129467683753853853498429727072845824) : valL (limbsN v) = v := by
  rw [limbsN_eq]
  simp only [valL, List.getD_cons_zero, List.getD_cons_succ]
  omega
end Go.Proofs.Ytkikdhjckjmolaa
