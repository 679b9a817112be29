/- Digits to the base 4, plainly; in memory. -/
import Derived.Test.YtkikdhjckjmolaaReg
import Derived.Test.YtkikdhjckjmolaaHas
namespace Go.Proofs.Ytkikdhjckjmolaa
open Go.RowKit

/-- the number of digits -/
def dgval : List Nat → Nat
  | [] => 0
  | x :: l => x + 4 * dgval l
theorem dgval_append (a b : List Nat) : dgval (a ++ b) = dgval a + 4 ^ a.length * dgval b := by
  induction a with
  | nil => simp [dgval]
  | cons x a ih =>
    simp only [List.cons_append, dgval, ih, List.length_cons, Nat.pow_succ, Nat.mul_add]
    rw [show 4 ^ a.length * 4 * dgval b = 4 * (4 ^ a.length * dgval b) by rw [Nat.mul_comm (4 ^ a.length) 4, Nat.mul_assoc]]
    omega
def D4 (l : List Nat) : Prop := ∀ d ∈ l, d < 4
theorem dgval_lt {l : List Nat} (h : D4 l) : dgval l < 4 ^ l.length := by
  induction l with
  | nil => simp [dgval]
  | cons x l ih =>
    have h1 := ih (fun d hd => h d (List.mem_cons_of_mem _ hd))
    have h2 := h x List.mem_cons_self
    simp only [dgval, List.length_cons, Nat.pow_succ]
    omega
theorem dgval_set (l : List Nat) (j : Nat) (hj : j < l.length) (x : Nat) : dgval (l.set j (l[j] + x)) = dgval l + x * 4 ^ j := by
  induction l generalizing j with
  | nil => cases hj
  | cons y l ih =>
    cases j with
    | zero => simp [dgval]; omega
    | succ j =>
      have h := ih j (by simpa using hj)
      simp only [List.set_cons_succ, List.getElem_cons_succ, dgval, h, Nat.pow_succ]
      rw [Nat.mul_add, ← Nat.mul_assoc, ← Nat.mul_assoc, Nat.mul_comm 4 x, Nat.mul_assoc x 4, Nat.mul_comm 4 (4 ^ j), Nat.mul_assoc x]
      omega
theorem dgval_drop (l : List Nat) (i : Nat) (hi : i < l.length) : dgval (l.drop i) = l[i] + 4 * dgval (l.drop (i + 1)) := by
  rw [List.drop_eq_getElem_cons hi]; rfl
theorem dgval_take_drop (l : List Nat) (i : Nat) (hi : i ≤ l.length) : dgval l = dgval (l.take i) + 4 ^ i * dgval (l.drop i) := by
  have h := dgval_append (l.take i) (l.drop i)
  rw [List.take_append_drop, List.length_take, Nat.min_eq_left hi] at h
  exact h
theorem dgval_zero (l : List Nat) (h : ∀ d ∈ l, d = 0) : dgval l = 0 := by
  induction l with
  | nil => rfl
  | cons x l ih =>
    simp only [dgval]
    rw [h x List.mem_cons_self, ih (fun d hd => h d (List.mem_cons_of_mem _ hd))]
theorem dgval_replicate (n : Nat) : dgval (List.replicate n 0) = 0 := dgval_zero _ (fun _ h => (List.mem_replicate.1 h).2)

/-- digits as cells -/
def dg (l : List Nat) : List Value := l.map fun x : Nat => .int .i64 (x : Int)
theorem dg_len (l : List Nat) : (dg l).length = l.length := by simp [dg]
theorem dg_get {l : List Nat} {j : Nat} (h : j < l.length) : (dg l)[j]? = some (.int .i64 (l[j] : Int)) := by simp [dg, h]
theorem dg_append (a b : List Nat) : dg (a ++ b) = dg a ++ dg b := by simp [dg]
theorem dg_set (l : List Nat) (j v : Nat) : (dg l).set j (.int .i64 (v : Int)) = dg (l.set j v) := by simp [dg, List.map_set]
/-- a slice of digits; its block is one of F -/
structure Dg (w : World) (F : Nat → Prop) (A : Option Addr) (n c : Nat) (l : List Nat) : Prop where
  len : l.length = n
  cap : n ≤ c
  at_ : ∀ (j : Nat) (h : j < l.length), ∃ b o, A = some ⟨b, o, none⟩ ∧ F b ∧ w.cell? ⟨b, o + j, none⟩ = some (.int .i64 (l[j] : Int))
theorem Dg.fr {w w' : World} {F M : Nat → Prop} {A : Option Addr} {n c : Nat} {l : List Nat} (h : Dg w F A n c l) (hf : Fr M w w') (hF : ∀ k, F k → k < w.heap.size ∧ ¬ M k) : Dg w' F A n c l :=
  ⟨h.len, h.cap, fun j hj => by
    obtain ⟨b, o, e, hF1, hc⟩ := h.at_ j hj
    exact ⟨b, o, e, hF1, cell_fr hc hf (hF b hF1).2⟩⟩
theorem Dg.belF {w w' : World} {F : Nat → Prop} {A : Option Addr} {n c : Nat} {l : List Nat} (h : Dg w F A n c l) (hb : Below w.heap.size w w') : Dg w' F A n c l :=
  ⟨h.len, h.cap, fun j hj => by
    obtain ⟨b, o, e, hF1, hc⟩ := h.at_ j hj
    exact ⟨b, o, e, hF1, cell_bel hc hb⟩⟩
theorem Dg.mono {w : World} {F G : Nat → Prop} {A : Option Addr} {n c : Nat} {l : List Nat} (h : Dg w F A n c l) (hG : ∀ k, F k → G k) : Dg w G A n c l :=
  ⟨h.len, h.cap, fun j hj => by
    obtain ⟨b, o, e, hF1, hc⟩ := h.at_ j hj
    exact ⟨b, o, e, hG _ hF1, hc⟩⟩
theorem Dg.nil (w : World) (F : Nat → Prop) : Dg w F none 0 0 [] := ⟨rfl, Nat.le_refl _, fun j h => by cases h⟩
theorem Dg.of_own {w : World} {base n c : Nat} {A : Option Addr} {l : List Nat} (h : w.ownsRow base 3 1 (.slice A n c) n (dg l)) :
    Dg w (fun k => base ≤ k ∧ k < w.heap.size) A n c l := by
  have hlen : l.length = n := by have := h.1; rw [dg_len] at this; omega
  rcases h.2 with ⟨h1, _, _⟩ | ⟨g, cap, cur, hv, hb, hh, hn, _⟩
  · injection h1 with h1 h4 h5
    subst h1; subst h5
    have : l = [] := List.eq_nil_of_length_eq_zero (by omega)
    subst this
    exact ⟨hlen, by omega, fun j hj => by cases hj⟩
  · injection hv with h1 _ h5
    subst h1 h5
    refine ⟨hlen, hn, fun j hj => ⟨g, 0, rfl, ⟨hb, (Array.getElem?_eq_some_iff.1 hh).1⟩, ?_⟩⟩
    have hc := h.cellAt j (by omega)
    rw [dg_get hj] at hc
    rw [Nat.zero_add]; exact hc
theorem Dg.take {w : World} {F : Nat → Prop} {A : Option Addr} {n c m : Nat} {l : List Nat} (h : Dg w F A n c l) (hm : m ≤ n) : Dg w F A m c (l.take m) :=
  ⟨by rw [List.length_take, h.len]; omega, by have := h.cap; omega, fun j hj => by
    have hj2 : j < l.length := by rw [List.length_take] at hj; omega
    obtain ⟨b, o, e, hF1, hc⟩ := h.at_ j hj2
    exact ⟨b, o, e, hF1, by rw [List.getElem_take]; exact hc⟩⟩
theorem Dg.drop {w : World} {F : Nat → Prop} {b o n c m : Nat} {l : List Nat} (h : Dg w F (some ⟨b, o, none⟩) n c l) (hm : m ≤ n) : Dg w F (some ⟨b, o + m, none⟩) (n - m) (c - m) (l.drop m) :=
  ⟨by rw [List.length_drop, h.len], by have := h.cap; omega, fun j hj => by
    have hj2 : m + j < l.length := by rw [List.length_drop] at hj; omega
    obtain ⟨b', o', e, hF1, hc⟩ := h.at_ (m + j) hj2
    injection e with e; injection e with e1 e2 _
    subst e1; subst e2
    exact ⟨b, o + m, rfl, hF1, by rw [List.getElem_drop, Nat.add_assoc]; exact hc⟩⟩
theorem Dg.some_ {w : World} {F : Nat → Prop} {A : Option Addr} {n c : Nat} {l : List Nat} (h : Dg w F A n c l) (hn : 0 < n) : ∃ b o, A = some ⟨b, o, none⟩ ∧ F b := by
  obtain ⟨b, o, e, hF, _⟩ := h.at_ 0 (by have := h.len; omega)
  exact ⟨b, o, e, hF⟩
end Go.Proofs.Ytkikdhjckjmolaa
