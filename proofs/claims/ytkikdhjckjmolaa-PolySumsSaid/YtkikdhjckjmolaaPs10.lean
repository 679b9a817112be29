/- The reference's Sum, plainly. -/
import Derived.Test.YtkikdhjckjmolaaPs9
namespace Go.Proofs.Ytkikdhjckjmolaa
open Go.RowKit

theorem PP_pP : PP = pP := rfl
theorem byte_digits {a : List Nat} (h : D4 a) (i : Nat) : a.getD (4 * i) 0 + 4 * a.getD (4 * i + 1) 0 + 16 * a.getD (4 * i + 2) 0 + 64 * a.getD (4 * i + 3) 0 = dgval a / 256 ^ i % 256 := by
  have h1 := dgval_take_lt h.le (4 * i)
  have e4 : (4 : Nat) ^ (4 * i) = 256 ^ i := by rw [Nat.pow_mul]
  have g : ∀ m, dgval (a.drop m) = a.getD m 0 + 4 * dgval (a.drop (m + 1)) := by
    intro m
    by_cases hm : m < a.length
    · rw [dgval_drop a m hm, List.getD_eq_getElem?_getD, List.getElem?_eq_getElem hm]; rfl
    · rw [List.drop_eq_nil_of_le (by omega), List.drop_eq_nil_of_le (by omega), List.getD_eq_getElem?_getD, List.getElem?_eq_none (by omega)]; rfl
  have h2 : dgval a = dgval (a.take (4 * i)) + 4 ^ (4 * i) * dgval (a.drop (4 * i)) := by
    by_cases hm : 4 * i ≤ a.length
    · exact dgval_take_drop a _ hm
    · rw [List.take_of_length_le (by omega), List.drop_eq_nil_of_le (by omega)]; simp [dgval]
  have h3 : dgval a / 256 ^ i = dgval (a.drop (4 * i)) := by
    rw [h2, e4, Nat.add_mul_div_left _ _ (Nat.pow_pos (by decide)), Nat.div_eq_of_lt (by rw [← e4]; exact h1), Nat.zero_add]
  rw [h3, g (4 * i), g (4 * i + 1), show 4 * i + 1 + 1 = 4 * i + 2 from rfl, g (4 * i + 2), show 4 * i + 2 + 1 = 4 * i + 3 from rfl, g (4 * i + 3)]
  have hd : ∀ m, a.getD m 0 ≤ 3 := fun m => getD_leD h.le m
  have d0 := hd (4 * i); have d1 := hd (4 * i + 1); have d2 := hd (4 * i + 2); have d3 := hd (4 * i + 3)
  omega
/-- the tag while it is written -/
def tagK (T : List UInt8) (k : Nat) : List UInt8 := T.take k ++ List.replicate (16 - k) 0
theorem tagK_len {T : List UInt8} (h : T.length = 16) {k : Nat} (hk : k ≤ 16) : (tagK T k).length = 16 := by
  unfold tagK; rw [List.length_append, List.length_take, List.length_replicate]; omega
theorem tagK_set {T : List UInt8} (h : T.length = 16) {k : Nat} (hk : k < 16) : (tagK T k).set k (T[k]'(by omega)) = tagK T (k + 1) := by
  unfold tagK
  rw [List.set_append_right _ _ (by rw [List.length_take]; omega), List.length_take, show k - min k T.length = 0 by omega, show 16 - k = (16 - (k + 1)) + 1 by omega, List.replicate_succ, List.set_cons_zero, List.take_succ_eq_append_getElem (by omega), List.append_assoc]
  rfl
end Go.Proofs.Ytkikdhjckjmolaa
