/- What the reference's Get asks, plain. -/
import Derived.Test.YtmdnlgfngpgfnaaDoorFrSc4
namespace Go.Proofs.YtmdnlgfngpgfnaaDoor

def numP (l : List UInt8) (j : Nat) : Nat := (l.take j).foldl (fun a b => a * 256 + b.toNat) 0
theorem numP_succ (l : List UInt8) {j : Nat} (h : j < l.length) : numP l (j + 1) = numP l j * 256 + l[j].toNat := by
  unfold numP
  rw [List.take_succ_eq_append_getElem h, List.foldl_append]; rfl
theorem numP_lt (l : List UInt8) : ∀ j, j ≤ l.length → numP l j < 256 ^ j
  | 0, _ => by simp [numP]
  | j + 1, h => by
    rw [numP_succ l (by omega)]
    have h1 := numP_lt l j (by omega)
    have h2 := (l[j]'(by omega)).toNat_lt
    rw [Nat.pow_succ]
    simp only [Nat.reducePow] at h2
    omega
theorem numP_four {l : List UInt8} (h : 4 ≤ l.length) : numP l 4 = num4 l := by
  match l, h with
  | a :: b :: c :: d :: r, _ =>
    simp only [numP, num4, List.take_succ_cons, List.take_zero, List.foldl_cons, List.foldl_nil]
    omega
theorem getP_e {l : List UInt8} {x : Int} (h : (wholeP l).1 = x) (hx : x ≠ 0) : getP l = ⟨x, 0, [], 0⟩ := by
  unfold getP
  rw [if_pos (by rw [h]; exact hx), h]
/-- good just where it is what would be put -/
theorem getP_ok {k : UInt8} {r : List UInt8} {N : Nat} (hw : wholeP (k :: r) = (0, N)) (hN : N ≤ 2039) (hf : N + 9 ≤ (k :: r).length) :
    getP (k :: r) = if (k :: r).take (N + 9) = frameB k ((r.drop 4).take N) then ⟨0, (k.toNat : Nat), (r.drop 4).take N, N + 9⟩ else ⟨6, 0, [], 0⟩ := by
  have hbl : ((r.drop 4).take N).length = N := by rw [List.length_take, List.length_drop]; rw [List.length_cons] at hf; omega
  have hk : k ≠ 0 := by
    rintro rfl
    have : (wholeP (0 :: r)).1 = 2 ∨ (wholeP (0 :: r)).1 = 4 := by
      unfold wholeP
      split
      · right; rfl
      · left; simp
    rw [hw] at this
    rcases this with h | h <;> cases h
  split
  · rename_i he
    have h1 := get_frame k hk ((r.drop 4).take N) ((k :: r).drop (N + 9)) (by omega)
    rw [← he, List.take_append_drop, hbl] at h1
    exact h1
  · rename_i hne
    have hd : getP (k :: r) = ⟨6, 0, [], 0⟩ ∨ (getP (k :: r)).e = 0 := by
      unfold getP
      rw [hw]
      simp only [ne_eq, not_true_eq_false, if_false]
      split
      · left; rfl
      · right; rfl
    rcases hd with h | h
    · exact h
    · have hp := put_got _ h
      have hg : (getP (k :: r)).n = N + 9 ∧ (getP (k :: r)).k = (k.toNat : Nat) ∧ (getP (k :: r)).body = (r.drop 4).take N := by
        unfold getP at h ⊢
        rw [hw] at h ⊢
        simp only [ne_eq, not_true_eq_false, if_false] at h ⊢
        split at h
        · cases h
        · rename_i hx
          rw [if_neg hx]
          exact ⟨rfl, rfl, rfl⟩
      rw [hg.1, hg.2.1, hg.2.2] at hp
      exact absurd (by rw [← hp]; simp) hne
end Go.Proofs.YtmdnlgfngpgfnaaDoor
