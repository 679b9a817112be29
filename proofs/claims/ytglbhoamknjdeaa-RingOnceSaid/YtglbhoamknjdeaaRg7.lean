/- RingOnce: plain words. -/
import Derived.Test.YtglbhoamknjdeaaRg4
import Derived.Test.YtglbhoamknjdeaaOpnI
namespace Go.Proofs.Ytglbhoamknjdeaa
open Go.RowKit

/-- the ring of the two subjects -/
def LL (u : Nat) (sh : Bool) : List (Wk × Hd) := [((ann, sS), ⟨1, (u : Int), sh⟩), ((ann, tT), ⟨2, 0, false⟩)]
theorem st_ne : ¬ ((ann, sS) : Wk) = (ann, tT) := by decide +kernel
theorem ts_ne : ¬ ((ann, tT) : Wk) = (ann, sS) := by decide +kernel
theorem look_s (u : Nat) (sh : Bool) : look (LL u sh) (ann, sS) = some ⟨1, (u : Int), sh⟩ := by simp [look, LL]
theorem look_t (u : Nat) (sh : Bool) : look (LL u sh) (ann, tT) = some ⟨2, 0, false⟩ := by simp [look, LL]
theorem put_s (u v : Nat) (sh s2 : Bool) : putR (LL u sh) (ann, sS) ⟨1, (v : Int), s2⟩ = LL v s2 := by
  unfold putR
  rw [look_s]
  simp [LL]
theorem mkA : makeR [] (ann, sS) 1 = (0, [((ann, sS), ⟨1, 0, false⟩)]) := by decide +kernel
theorem mkB : makeR [((ann, sS), ⟨1, 0, false⟩)] (ann, tT) 2 = (0, LL 0 false) := by decide +kernel
theorem use_1 (u : Nat) (sh : Bool) (x : Int) (h : x < 1) : useR (LL u sh) (ann, sS) x = (1, LL u sh) := by unfold useR; rw [if_pos h]
theorem use_17 (u : Nat) (x : Int) (h : ¬ x < 1) : useR (LL u true) (ann, sS) x = (17, LL u true) := by unfold useR; rw [if_neg h, look_s]; rfl
theorem use_16 (u : Nat) (x : Int) (h : ¬ x < 1) (h2 : 200 - (u : Int) < x) : useR (LL u false) (ann, sS) x = (16, LL u false) := by unfold useR; rw [if_neg h, look_s]; simp only [Bool.false_eq_true, if_false]; rw [if_pos h2]
theorem use_0 (u X : Nat) (h : ¬ (X : Int) < 1) (h2 : ¬ 200 - (u : Int) < (X : Int)) : useR (LL u false) (ann, sS) (X : Int) = (0, LL (u + X) false) := by
  unfold useR; rw [if_neg h, look_s]; simp only [Bool.false_eq_true, if_false]; rw [if_neg h2, ← put_s u (u + X) false false]; simp
theorem shr_t (u : Nat) : shredR (LL u true) (ann, sS) = (17, LL u true) := by unfold shredR; rw [look_s]; rfl
theorem shr_f (u : Nat) : shredR (LL u false) (ann, sS) = (0, LL u true) := by unfold shredR; rw [look_s]; simp only [Bool.false_eq_true, if_false]; rw [put_s]
/-- which numbers are taken -/
def tk (u : Nat) : List Value := (List.range 201).map fun i => .bool (decide (1 ≤ i ∧ i ≤ u))
theorem tk_len (u : Nat) : (tk u).length = 201 := by simp [tk]
theorem tk_get (u i : Nat) (h : i < 201) : (tk u)[i]? = some (.bool (decide (1 ≤ i ∧ i ≤ u))) := by simp [tk, h]
theorem tk_set (u : Nat) (h : u < 200) : (tk u).set (u + 1) (.bool true) = tk (u + 1) := by
  apply List.ext_getElem?
  intro i
  rw [List.getElem?_set, tk_len]
  by_cases e : u + 1 = i
  · subst e
    rw [if_pos rfl, if_pos (by omega), tk_get _ _ (by omega)]
    simp
  · rw [if_neg e]
    by_cases hi : i < 201
    · rw [tk_get _ _ hi, tk_get _ _ hi]
      have : (1 ≤ i ∧ i ≤ u) ↔ (1 ≤ i ∧ i ≤ u + 1) := by omega
      simp only [this]
    · rw [List.getElem?_eq_none (by rw [tk_len]; omega), List.getElem?_eq_none (by rw [tk_len]; omega)]
theorem Try.infoT : (Try.prog.info? 27).map (fun i => (i.zero, i.size)) = some (some (.agg (tk 0).toArray), 201) := by kernel_rfl
end Go.Proofs.Ytglbhoamknjdeaa
