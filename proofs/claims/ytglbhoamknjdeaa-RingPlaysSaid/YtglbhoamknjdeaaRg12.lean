/- RingApart: plainly. -/
import Derived.Test.YtglbhoamknjdeaaRg11
namespace Go.Proofs.Ytglbhoamknjdeaa
open Go.RowKit

abbrev e0S : ByteArray := ⟨#[]⟩
def S1 (t s : ByteArray) (sl : Int) : List (Wk × Hd) := [((t, s), ⟨sl, 0, false⟩)]
def S2 (t s o : ByteArray) (sl u : Int) (sh : Bool) : List (Wk × Hd) := [((t, s), ⟨sl, 0, false⟩), ((t, o), ⟨sl + 1, u, sh⟩)]
theorem look_S1 (t s : ByteArray) (sl : Int) (k : Wk) : look (S1 t s sl) k = if (t, s) = k then some ⟨sl, 0, false⟩ else none := by
  unfold look S1
  by_cases h : (t, s) = k
  · rw [if_pos h]; simp [h]
  · rw [if_neg h]; simp [h]
theorem look_S2o {t s o : ByteArray} (h : ¬ o = s) (sl u : Int) (sh : Bool) : look (S2 t s o sl u sh) (t, o) = some ⟨sl + 1, u, sh⟩ := by
  unfold look S2
  have h1 : ¬ ((t, s) : Wk) = (t, o) := fun e => h (by injection e with _ e; exact e.symm)
  simp [h1]
theorem look_S2s (t s o : ByteArray) (sl u : Int) (sh : Bool) : look (S2 t s o sl u sh) (t, s) = some ⟨sl, 0, false⟩ := by
  unfold look S2; simp
theorem put_S2 {t s o : ByteArray} (h : ¬ o = s) (sl u v : Int) (sh sh2 : Bool) : putR (S2 t s o sl u sh) (t, o) ⟨sl + 1, v, sh2⟩ = S2 t s o sl v sh2 := by
  unfold putR
  rw [look_S2o h]
  have h1 : ¬ ((t, s) : Wk) = (t, o) := fun e => h (by injection e with _ e; exact e.symm)
  simp [S2]
  intro e; exact absurd e.symm h
theorem make_S1 (t s : ByteArray) {sl : Int} (h1 : 1 ≤ sl) (h2 : sl ≤ 63) : makeR [] (t, s) sl = (0, S1 t s sl) := by
  unfold makeR; rw [if_neg (by omega)]; rfl
theorem make_S1s (t s : ByteArray) {sl : Int} (h1 : 1 ≤ sl) (h2 : sl ≤ 63) : makeR (S1 t s sl) (t, s) (sl + 1) = (13, S1 t s sl) := by
  unfold makeR; rw [if_neg (by omega), look_S1, if_pos rfl]
theorem make_S1o {t s o : ByteArray} (h : ¬ o = s) {sl : Int} (h1 : 1 ≤ sl) (h2 : sl ≤ 63) : makeR (S1 t s sl) (t, o) (sl + 1) = (0, S2 t s o sl 0 false) := by
  have h3 : ¬ ((t, s) : Wk) = (t, o) := fun e => h (by injection e with _ e; exact e.symm)
  unfold makeR; rw [if_neg (by omega), look_S1, if_neg h3]
  simp only [putR, look_S1, if_neg h3]
  rfl
theorem use_lo {t s o : ByteArray} {sl n : Int} (hn : n < 1) : useR (S2 t s o sl 0 false) (t, o) n = (1, S2 t s o sl 0 false) := by
  unfold useR; rw [if_pos hn]
theorem use_hi {t s o : ByteArray} (h : ¬ o = s) {sl n : Int} (hn : ¬ n < 1) (h2 : 200 < n) : useR (S2 t s o sl 0 false) (t, o) n = (16, S2 t s o sl 0 false) := by
  unfold useR; rw [if_neg hn, look_S2o h]; simp [h2]
theorem use_in {t s o : ByteArray} (h : ¬ o = s) {sl n : Int} (hn : ¬ n < 1) (h2 : ¬ 200 < n) : useR (S2 t s o sl 0 false) (t, o) n = (0, S2 t s o sl n false) := by
  unfold useR; rw [if_neg hn, look_S2o h]
  simp only [Int.sub_zero, if_neg h2, Bool.false_eq_true, if_false, Int.zero_add]
  rw [put_S2 h]
theorem shred_S2 {t s o : ByteArray} (h : ¬ o = s) (sl u : Int) : shredR (S2 t s o sl u false) (t, o) = (0, S2 t s o sl u true) := by
  unfold shredR; rw [look_S2o h]; simp only [Bool.false_eq_true, if_false]; rw [put_S2 h]
theorem one_of {l : List Int} {x : Int} (hp : l.Pairwise (· < ·)) (h : ∀ z, z ∈ l ↔ z = x) : l = [x] := by
  cases l with
  | nil => have := (h x).2 rfl; cases this
  | cons a r =>
    have ha : a = x := (h a).1 List.mem_cons_self
    obtain ⟨h1, _⟩ := List.pairwise_cons.1 hp
    cases r with
    | nil => rw [ha]
    | cons b r =>
      have hb : b = x := (h b).1 (by simp)
      have := h1 b (by simp)
      omega
theorem ok_S2 {t s o : ByteArray} {sl u : Int} {sh : Bool} (h1 : 1 ≤ sl) (h2 : sl ≤ 63) : SlotsOk (S2 t s o sl u sh) := by
  intro p hp
  simp [S2] at hp
  rcases hp with rfl | rfl
  · exact ⟨h1, by show sl ≤ 64; omega⟩
  · exact ⟨by show 1 ≤ sl + 1; omega, by show sl + 1 ≤ 64; omega⟩
theorem live_S2 {t s o : ByteArray} {sl u : Int} (h1 : 1 ≤ sl) (h2 : sl ≤ 63) : slotsL (S2 t s o sl u true) false = [sl] := by
  refine one_of (slotsL_lt _ _) fun z => ?_
  rw [slotsL_mem (ok_S2 h1 h2)]
  simp [S2]
  exact eq_comm
theorem dead_S2 {t s o : ByteArray} {sl u : Int} (h1 : 1 ≤ sl) (h2 : sl ≤ 63) : slotsL (S2 t s o sl u true) true = [sl + 1] := by
  refine one_of (slotsL_lt _ _) fun z => ?_
  rw [slotsL_mem (ok_S2 h1 h2)]
  simp [S2]
  exact eq_comm
end Go.Proofs.Ytglbhoamknjdeaa
