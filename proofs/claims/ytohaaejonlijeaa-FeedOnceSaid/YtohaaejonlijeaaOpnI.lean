/- Slices of whole numbers that were handed in. -/
import Derived.Test.YtohaaejonlijeaaOpn
namespace Go.Proofs.Ytohaaejonlijeaa
open Go.RowKit Go.ChangeShapes Go.WideShapes Go.Deep

structure IntSl (w : World) (F : Nat → Prop) (A : Option Addr) (n c : Nat) (l : List Int) : Prop where
  len : l.length = n
  cap : n ≤ c
  wf : ∀ x ∈ l, (Lit.int .i64 x).wf = true
  at_ : ∀ (j : Nat) (h : j < l.length), ∃ ad, A = some ad ∧ F ad.block ∧ w.cell? (ad.add j) = some (.int .i64 l[j])
theorem IntSl.fr {w w' : World} {F M : Nat → Prop} {A : Option Addr} {n c : Nat} {l : List Int} (h : IntSl w F A n c l) (hf : Fr M w w') (hF : ∀ k, F k → k < w.heap.size ∧ ¬ M k) : IntSl w' F A n c l :=
  ⟨h.len, h.cap, h.wf, fun j hj => by
    obtain ⟨ad, e, hF1, hc⟩ := h.at_ j hj
    refine ⟨ad, e, hF1, ?_⟩
    rw [World.cell?_of_block (w := w)]
    · exact hc
    · rw [addr_add_block]; exact hf.block _ (hF _ hF1).1 (hF _ hF1).2⟩
section
variable {H : Type} {enc : TypeId × Value → H} {w : World} {base : Nat} {spare : Nat → Bool} {held : Bool} {fuel : Nat} {cs : List Value} {x : DataW H × List MemPlace}
theorem open_isl (h : DataW.trod enc Try.prog w base spare held fuel 22 cs = some x) :
    ∃ A n c l, cs = [.slice A n c] ∧ IntSl w (Old w) A n c l ∧ (n = 0 ∨ ∃ e s, x.1 = .slice e s ∧ e.length = n) := by
  rcases open_ints Try.underlying22 Try.underlying3 (by kernel_rfl) h with ⟨rfl, rfl⟩ | ⟨a, len, cap, zs, rfl, _, hl, hm, hz, hx, hcell, hwz⟩
  · exact ⟨none, 0, 0, [], rfl, ⟨rfl, Nat.le_refl _, fun _ h => (by cases h), fun j h => (by cases h)⟩, .inl rfl⟩
  · have hzl : len ≤ zs.length := by rw [hz]; split <;> omega
    refine ⟨some a, len, cap, zs.take len, rfl, ⟨by simp; omega, hl, fun x hx => hwz x (List.mem_of_mem_take hx), fun j hj => ?_⟩, .inr ⟨_, _, congrArg Prod.fst hx, by simp [lits]; omega⟩⟩
    have hjl : j < len := by simp at hj; omega
    have hc := hcell j (by omega)
    have hzj : zs[j]? = some zs[j] := List.getElem?_eq_getElem (by omega)
    have hc2 : w.cell? (a.add j) = some (.int .i64 (zs.take len)[j]) := by
      rw [hc]; simp [List.getD, hzj]
    have hb := block_of_cell hc2
    rw [addr_add_block] at hb
    exact ⟨a, rfl, hb, hc2⟩
end
theorem isl_sized {H : Type} {ts : List TypeId} {ds : List (DataW H)} (h : (DataW.weightsEach Try.prog ts ds).all (· ≤ reachBytes) = true) {j n : Nat} {d : DataW H} (ht : ts[j]? = some 22) (hd : ds[j]? = some d)
    (hn : n = 0 ∨ ∃ e s, d = .slice e s ∧ e.length = n) : n ≤ 140737488351232 := by
  rcases hn with rfl | ⟨e, s, rfl, rfl⟩
  · omega
  · have := sized_slice h ht hd Try.underlying22
    have hb : Try.prog.bytesOf 3 = 8 := by kernel_rfl
    rw [hb] at this
    simp only [reachBytes] at this
    omega
end Go.Proofs.Ytohaaejonlijeaa
