/- The reference: Places. (Printed by gen_pl.py.) -/
import Derived.Test.YtobbcnajmocpfaaCh16
namespace Go.Proofs.Ytobbcnajmocpfaa
open Go.RowKit

/-- the eight rows of places, in memory -/
structure PlOk (w : World) (g : Nat) (base : Nat) : Prop where
  lo : base ≤ g
  hi : g < w.heap.size
  row : ∀ i, i < 8 → ∃ gi, base ≤ gi ∧ gi < w.heap.size ∧ w.cell? ⟨g, i, none⟩ = some (.slice (some ⟨gi, 0, none⟩) 4 4) ∧
    w.cell? ⟨gi, 0, none⟩ = some (.int .i64 (plA i : Nat)) ∧ w.cell? ⟨gi, 1, none⟩ = some (.int .i64 (plB i : Nat)) ∧ w.cell? ⟨gi, 2, none⟩ = some (.int .i64 (plC i : Nat)) ∧ w.cell? ⟨gi, 3, none⟩ = some (.int .i64 (plD i : Nat))
theorem PlOk.below {w w' : World} {g base : Nat} (h : PlOk w g base) {M : Nat → Prop} (hf : Fr M w w') (hM : ∀ j, base ≤ j → j < w.heap.size → ¬ M j) : PlOk w' g base := by
  have hz := hf.size
  have hlo := h.lo
  have hhi := h.hi
  refine ⟨h.lo, by omega, fun i hi => ?_⟩
  obtain ⟨gi, b1, b2, c, c0, c1, c2, c3⟩ := h.row i hi
  exact ⟨gi, b1, by omega, cell_fr c hf (hM _ hlo hhi), cell_fr c0 hf (hM _ b1 b2), cell_fr c1 hf (hM _ b1 b2), cell_fr c2 hf (hM _ b1 b2), cell_fr c3 hf (hM _ b1 b2)⟩

set_option maxHeartbeats 4000000 in
theorem Places_any (w : World) :
    Calls Try.prog 27 #[] w fun e w' => ∃ g, e = .returned (.slice (some ⟨g, 0, none⟩) 8 8) ∧ PlOk w' g w.heap.size ∧ Below w.heap.size w w' := by
  go_enter Try.func27, Try.ntmps27
  go_wp2
  go_ret
  refine ⟨_, rfl, ?_⟩
  have a1 := heap_alloc_new w (.cells #[.int .i64 0, .int .i64 4, .int .i64 8, .int .i64 12] 3)
  have b1 : Below w.heap.size w (w.alloc (.cells #[.int .i64 0, .int .i64 4, .int .i64 8, .int .i64 12] 3)) := (Below.refl _ _).alloc (Nat.le_refl _) _
  have z1 : (w.alloc (.cells #[.int .i64 0, .int .i64 4, .int .i64 8, .int .i64 12] 3)).heap.size = w.heap.size + 1 := by simp
  generalize w.alloc (.cells #[.int .i64 0, .int .i64 4, .int .i64 8, .int .i64 12] 3) = w1 at a1 b1 z1 ⊢
  have a2 := heap_alloc_new w1 (.cells #[.int .i64 1, .int .i64 5, .int .i64 9, .int .i64 13] 3)
  have b2 : Below w1.heap.size w1 (w1.alloc (.cells #[.int .i64 1, .int .i64 5, .int .i64 9, .int .i64 13] 3)) := (Below.refl _ _).alloc (Nat.le_refl _) _
  have z2 : (w1.alloc (.cells #[.int .i64 1, .int .i64 5, .int .i64 9, .int .i64 13] 3)).heap.size = w1.heap.size + 1 := by simp
  generalize w1.alloc (.cells #[.int .i64 1, .int .i64 5, .int .i64 9, .int .i64 13] 3) = w2 at a2 b2 z2 ⊢
  have a3 := heap_alloc_new w2 (.cells #[.int .i64 2, .int .i64 6, .int .i64 10, .int .i64 14] 3)
  have b3 : Below w2.heap.size w2 (w2.alloc (.cells #[.int .i64 2, .int .i64 6, .int .i64 10, .int .i64 14] 3)) := (Below.refl _ _).alloc (Nat.le_refl _) _
  have z3 : (w2.alloc (.cells #[.int .i64 2, .int .i64 6, .int .i64 10, .int .i64 14] 3)).heap.size = w2.heap.size + 1 := by simp
  generalize w2.alloc (.cells #[.int .i64 2, .int .i64 6, .int .i64 10, .int .i64 14] 3) = w3 at a3 b3 z3 ⊢
  have a4 := heap_alloc_new w3 (.cells #[.int .i64 3, .int .i64 7, .int .i64 11, .int .i64 15] 3)
  have b4 : Below w3.heap.size w3 (w3.alloc (.cells #[.int .i64 3, .int .i64 7, .int .i64 11, .int .i64 15] 3)) := (Below.refl _ _).alloc (Nat.le_refl _) _
  have z4 : (w3.alloc (.cells #[.int .i64 3, .int .i64 7, .int .i64 11, .int .i64 15] 3)).heap.size = w3.heap.size + 1 := by simp
  generalize w3.alloc (.cells #[.int .i64 3, .int .i64 7, .int .i64 11, .int .i64 15] 3) = w4 at a4 b4 z4 ⊢
  have a5 := heap_alloc_new w4 (.cells #[.int .i64 0, .int .i64 5, .int .i64 10, .int .i64 15] 3)
  have b5 : Below w4.heap.size w4 (w4.alloc (.cells #[.int .i64 0, .int .i64 5, .int .i64 10, .int .i64 15] 3)) := (Below.refl _ _).alloc (Nat.le_refl _) _
  have z5 : (w4.alloc (.cells #[.int .i64 0, .int .i64 5, .int .i64 10, .int .i64 15] 3)).heap.size = w4.heap.size + 1 := by simp
  generalize w4.alloc (.cells #[.int .i64 0, .int .i64 5, .int .i64 10, .int .i64 15] 3) = w5 at a5 b5 z5 ⊢
  have a6 := heap_alloc_new w5 (.cells #[.int .i64 1, .int .i64 6, .int .i64 11, .int .i64 12] 3)
  have b6 : Below w5.heap.size w5 (w5.alloc (.cells #[.int .i64 1, .int .i64 6, .int .i64 11, .int .i64 12] 3)) := (Below.refl _ _).alloc (Nat.le_refl _) _
  have z6 : (w5.alloc (.cells #[.int .i64 1, .int .i64 6, .int .i64 11, .int .i64 12] 3)).heap.size = w5.heap.size + 1 := by simp
  generalize w5.alloc (.cells #[.int .i64 1, .int .i64 6, .int .i64 11, .int .i64 12] 3) = w6 at a6 b6 z6 ⊢
  have a7 := heap_alloc_new w6 (.cells #[.int .i64 2, .int .i64 7, .int .i64 8, .int .i64 13] 3)
  have b7 : Below w6.heap.size w6 (w6.alloc (.cells #[.int .i64 2, .int .i64 7, .int .i64 8, .int .i64 13] 3)) := (Below.refl _ _).alloc (Nat.le_refl _) _
  have z7 : (w6.alloc (.cells #[.int .i64 2, .int .i64 7, .int .i64 8, .int .i64 13] 3)).heap.size = w6.heap.size + 1 := by simp
  generalize w6.alloc (.cells #[.int .i64 2, .int .i64 7, .int .i64 8, .int .i64 13] 3) = w7 at a7 b7 z7 ⊢
  have a8 := heap_alloc_new w7 (.cells #[.int .i64 3, .int .i64 4, .int .i64 9, .int .i64 14] 3)
  have b8 : Below w7.heap.size w7 (w7.alloc (.cells #[.int .i64 3, .int .i64 4, .int .i64 9, .int .i64 14] 3)) := (Below.refl _ _).alloc (Nat.le_refl _) _
  have z8 : (w7.alloc (.cells #[.int .i64 3, .int .i64 4, .int .i64 9, .int .i64 14] 3)).heap.size = w7.heap.size + 1 := by simp
  generalize w7.alloc (.cells #[.int .i64 3, .int .i64 4, .int .i64 9, .int .i64 14] 3) = w8 at a8 b8 z8 ⊢
  have a9 := heap_alloc_new w8 (.cells #[.slice (some ⟨w.heap.size, 0, none⟩) 4 4, .slice (some ⟨w.heap.size + 1, 0, none⟩) 4 4, .slice (some ⟨w.heap.size + 1 + 1, 0, none⟩) 4 4, .slice (some ⟨w.heap.size + 1 + 1 + 1, 0, none⟩) 4 4, .slice (some ⟨w.heap.size + 1 + 1 + 1 + 1, 0, none⟩) 4 4, .slice (some ⟨w.heap.size + 1 + 1 + 1 + 1 + 1, 0, none⟩) 4 4, .slice (some ⟨w.heap.size + 1 + 1 + 1 + 1 + 1 + 1, 0, none⟩) 4 4, .slice (some ⟨w.heap.size + 1 + 1 + 1 + 1 + 1 + 1 + 1, 0, none⟩) 4 4] 51)
  have b9 : Below w8.heap.size w8 (w8.alloc (.cells #[.slice (some ⟨w.heap.size, 0, none⟩) 4 4, .slice (some ⟨w.heap.size + 1, 0, none⟩) 4 4, .slice (some ⟨w.heap.size + 1 + 1, 0, none⟩) 4 4, .slice (some ⟨w.heap.size + 1 + 1 + 1, 0, none⟩) 4 4, .slice (some ⟨w.heap.size + 1 + 1 + 1 + 1, 0, none⟩) 4 4, .slice (some ⟨w.heap.size + 1 + 1 + 1 + 1 + 1, 0, none⟩) 4 4, .slice (some ⟨w.heap.size + 1 + 1 + 1 + 1 + 1 + 1, 0, none⟩) 4 4, .slice (some ⟨w.heap.size + 1 + 1 + 1 + 1 + 1 + 1 + 1, 0, none⟩) 4 4] 51)) := (Below.refl _ _).alloc (Nat.le_refl _) _
  have z9 : (w8.alloc (.cells #[.slice (some ⟨w.heap.size, 0, none⟩) 4 4, .slice (some ⟨w.heap.size + 1, 0, none⟩) 4 4, .slice (some ⟨w.heap.size + 1 + 1, 0, none⟩) 4 4, .slice (some ⟨w.heap.size + 1 + 1 + 1, 0, none⟩) 4 4, .slice (some ⟨w.heap.size + 1 + 1 + 1 + 1, 0, none⟩) 4 4, .slice (some ⟨w.heap.size + 1 + 1 + 1 + 1 + 1, 0, none⟩) 4 4, .slice (some ⟨w.heap.size + 1 + 1 + 1 + 1 + 1 + 1, 0, none⟩) 4 4, .slice (some ⟨w.heap.size + 1 + 1 + 1 + 1 + 1 + 1 + 1, 0, none⟩) 4 4] 51)).heap.size = w8.heap.size + 1 := by simp
  generalize w8.alloc (.cells #[.slice (some ⟨w.heap.size, 0, none⟩) 4 4, .slice (some ⟨w.heap.size + 1, 0, none⟩) 4 4, .slice (some ⟨w.heap.size + 1 + 1, 0, none⟩) 4 4, .slice (some ⟨w.heap.size + 1 + 1 + 1, 0, none⟩) 4 4, .slice (some ⟨w.heap.size + 1 + 1 + 1 + 1, 0, none⟩) 4 4, .slice (some ⟨w.heap.size + 1 + 1 + 1 + 1 + 1, 0, none⟩) 4 4, .slice (some ⟨w.heap.size + 1 + 1 + 1 + 1 + 1 + 1, 0, none⟩) 4 4, .slice (some ⟨w.heap.size + 1 + 1 + 1 + 1 + 1 + 1 + 1, 0, none⟩) 4 4] 51) = w9 at a9 b9 z9 ⊢
  have e8 : w8.heap.size = w.heap.size + 1 + 1 + 1 + 1 + 1 + 1 + 1 + 1 := by omega
  have d8 : Below w8.heap.size w8 w9 := b9
  have d7 : Below w7.heap.size w7 w9 := b8.trans (d8.mono (by omega))
  have d6 : Below w6.heap.size w6 w9 := b7.trans (d7.mono (by omega))
  have d5 : Below w5.heap.size w5 w9 := b6.trans (d6.mono (by omega))
  have d4 : Below w4.heap.size w4 w9 := b5.trans (d5.mono (by omega))
  have d3 : Below w3.heap.size w3 w9 := b4.trans (d4.mono (by omega))
  have d2 : Below w2.heap.size w2 w9 := b3.trans (d3.mono (by omega))
  have d1 : Below w1.heap.size w1 w9 := b2.trans (d2.mono (by omega))
  have d0 : Below w.heap.size w w9 := b1.trans (d1.mono (by omega))
  have h0 : w9.heap[w.heap.size]? = some (.cells #[.int .i64 0, .int .i64 4, .int .i64 8, .int .i64 12] 3 (0, 0)) := by
    rw [show w.heap.size = w.heap.size by omega]; exact (d1.block _ (by omega)).trans a1
  have h1 : w9.heap[w.heap.size + 1]? = some (.cells #[.int .i64 1, .int .i64 5, .int .i64 9, .int .i64 13] 3 (0, 0)) := by
    rw [show w.heap.size + 1 = w1.heap.size by omega]; exact (d2.block _ (by omega)).trans a2
  have h2 : w9.heap[w.heap.size + 1 + 1]? = some (.cells #[.int .i64 2, .int .i64 6, .int .i64 10, .int .i64 14] 3 (0, 0)) := by
    rw [show w.heap.size + 1 + 1 = w2.heap.size by omega]; exact (d3.block _ (by omega)).trans a3
  have h3 : w9.heap[w.heap.size + 1 + 1 + 1]? = some (.cells #[.int .i64 3, .int .i64 7, .int .i64 11, .int .i64 15] 3 (0, 0)) := by
    rw [show w.heap.size + 1 + 1 + 1 = w3.heap.size by omega]; exact (d4.block _ (by omega)).trans a4
  have h4 : w9.heap[w.heap.size + 1 + 1 + 1 + 1]? = some (.cells #[.int .i64 0, .int .i64 5, .int .i64 10, .int .i64 15] 3 (0, 0)) := by
    rw [show w.heap.size + 1 + 1 + 1 + 1 = w4.heap.size by omega]; exact (d5.block _ (by omega)).trans a5
  have h5 : w9.heap[w.heap.size + 1 + 1 + 1 + 1 + 1]? = some (.cells #[.int .i64 1, .int .i64 6, .int .i64 11, .int .i64 12] 3 (0, 0)) := by
    rw [show w.heap.size + 1 + 1 + 1 + 1 + 1 = w5.heap.size by omega]; exact (d6.block _ (by omega)).trans a6
  have h6 : w9.heap[w.heap.size + 1 + 1 + 1 + 1 + 1 + 1]? = some (.cells #[.int .i64 2, .int .i64 7, .int .i64 8, .int .i64 13] 3 (0, 0)) := by
    rw [show w.heap.size + 1 + 1 + 1 + 1 + 1 + 1 = w6.heap.size by omega]; exact (d7.block _ (by omega)).trans a7
  have h7 : w9.heap[w.heap.size + 1 + 1 + 1 + 1 + 1 + 1 + 1]? = some (.cells #[.int .i64 3, .int .i64 4, .int .i64 9, .int .i64 14] 3 (0, 0)) := by
    rw [show w.heap.size + 1 + 1 + 1 + 1 + 1 + 1 + 1 = w7.heap.size by omega]; exact (d8.block _ (by omega)).trans a8
  rw [e8] at a9
  refine ⟨⟨by omega, by omega, fun i hi => ?_⟩, d0⟩
  match i, hi with
  | 0, _ => exact ⟨w.heap.size, by omega, by omega, (by rw [cell_of_row w9 _ 0 _ _ _ a9]; rfl), (by rw [cell_of_row w9 _ 0 _ _ _ h0]; rfl), (by rw [cell_of_row w9 _ 1 _ _ _ h0]; rfl), (by rw [cell_of_row w9 _ 2 _ _ _ h0]; rfl), (by rw [cell_of_row w9 _ 3 _ _ _ h0]; rfl)⟩
  | 1, _ => exact ⟨w.heap.size + 1, by omega, by omega, (by rw [cell_of_row w9 _ 1 _ _ _ a9]; rfl), (by rw [cell_of_row w9 _ 0 _ _ _ h1]; rfl), (by rw [cell_of_row w9 _ 1 _ _ _ h1]; rfl), (by rw [cell_of_row w9 _ 2 _ _ _ h1]; rfl), (by rw [cell_of_row w9 _ 3 _ _ _ h1]; rfl)⟩
  | 2, _ => exact ⟨w.heap.size + 1 + 1, by omega, by omega, (by rw [cell_of_row w9 _ 2 _ _ _ a9]; rfl), (by rw [cell_of_row w9 _ 0 _ _ _ h2]; rfl), (by rw [cell_of_row w9 _ 1 _ _ _ h2]; rfl), (by rw [cell_of_row w9 _ 2 _ _ _ h2]; rfl), (by rw [cell_of_row w9 _ 3 _ _ _ h2]; rfl)⟩
  | 3, _ => exact ⟨w.heap.size + 1 + 1 + 1, by omega, by omega, (by rw [cell_of_row w9 _ 3 _ _ _ a9]; rfl), (by rw [cell_of_row w9 _ 0 _ _ _ h3]; rfl), (by rw [cell_of_row w9 _ 1 _ _ _ h3]; rfl), (by rw [cell_of_row w9 _ 2 _ _ _ h3]; rfl), (by rw [cell_of_row w9 _ 3 _ _ _ h3]; rfl)⟩
  | 4, _ => exact ⟨w.heap.size + 1 + 1 + 1 + 1, by omega, by omega, (by rw [cell_of_row w9 _ 4 _ _ _ a9]; rfl), (by rw [cell_of_row w9 _ 0 _ _ _ h4]; rfl), (by rw [cell_of_row w9 _ 1 _ _ _ h4]; rfl), (by rw [cell_of_row w9 _ 2 _ _ _ h4]; rfl), (by rw [cell_of_row w9 _ 3 _ _ _ h4]; rfl)⟩
  | 5, _ => exact ⟨w.heap.size + 1 + 1 + 1 + 1 + 1, by omega, by omega, (by rw [cell_of_row w9 _ 5 _ _ _ a9]; rfl), (by rw [cell_of_row w9 _ 0 _ _ _ h5]; rfl), (by rw [cell_of_row w9 _ 1 _ _ _ h5]; rfl), (by rw [cell_of_row w9 _ 2 _ _ _ h5]; rfl), (by rw [cell_of_row w9 _ 3 _ _ _ h5]; rfl)⟩
  | 6, _ => exact ⟨w.heap.size + 1 + 1 + 1 + 1 + 1 + 1, by omega, by omega, (by rw [cell_of_row w9 _ 6 _ _ _ a9]; rfl), (by rw [cell_of_row w9 _ 0 _ _ _ h6]; rfl), (by rw [cell_of_row w9 _ 1 _ _ _ h6]; rfl), (by rw [cell_of_row w9 _ 2 _ _ _ h6]; rfl), (by rw [cell_of_row w9 _ 3 _ _ _ h6]; rfl)⟩
  | 7, _ => exact ⟨w.heap.size + 1 + 1 + 1 + 1 + 1 + 1 + 1, by omega, by omega, (by rw [cell_of_row w9 _ 7 _ _ _ a9]; rfl), (by rw [cell_of_row w9 _ 0 _ _ _ h7]; rfl), (by rw [cell_of_row w9 _ 1 _ _ _ h7]; rfl), (by rw [cell_of_row w9 _ 2 _ _ _ h7]; rfl), (by rw [cell_of_row w9 _ 3 _ _ _ h7]; rfl)⟩
end Go.Proofs.Ytobbcnajmocpfaa
