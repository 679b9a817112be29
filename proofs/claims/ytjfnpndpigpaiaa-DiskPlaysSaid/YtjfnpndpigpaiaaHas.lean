/- Blocks that are known, all new since a world: one fact for them all. -/
import Derived.Test.YtjfnpndpigpaiaaByb
namespace Go.Proofs.Ytjfnpndpigpaiaa
open Go.RowKit

structure Has (w wr : World) (L : List (Nat × Obj)) : Prop where
  at_ : ∀ p ∈ L, wr.heap[p.1]? = some p.2 ∧ w.heap.size ≤ p.1
  nd : L.Pairwise (fun p q => p.1 ≠ q.1)
  bel : Below w.heap.size w wr
theorem Has.start {w wr : World} (h : Below w.heap.size w wr) : Has w wr [] := ⟨(fun _ h => by cases h), List.Pairwise.nil, h⟩
theorem Has.bl {w wr wx : World} {L : List (Nat × Obj)} (h : Has w wr L) (hb : Below wr.heap.size wr wx) : Has w wx L :=
  ⟨fun p hp => ⟨heap_bel (h.at_ p hp).1 hb, (h.at_ p hp).2⟩, h.nd, Below.tr h.bel hb⟩
theorem Has.get {w wr : World} {L : List (Nat × Obj)} (h : Has w wr L) {g : Nat} {o : Obj} (hm : (g, o) ∈ L) : wr.heap[g]? = some o := (h.at_ _ hm).1
theorem Has.ge {w wr : World} {L : List (Nat × Obj)} (h : Has w wr L) {g : Nat} {o : Obj} (hm : (g, o) ∈ L) : w.heap.size ≤ g := (h.at_ _ hm).2
theorem Has.lt {w wr : World} {L : List (Nat × Obj)} (h : Has w wr L) {g : Nat} {o : Obj} (hm : (g, o) ∈ L) : g < wr.heap.size := (Array.getElem?_eq_some_iff.1 (h.get hm)).1
/-- a block is new -/
theorem Has.new {w wr wx : World} {L : List (Nat × Obj)} (h : Has w wr L) {g : Nat} {o : Obj} (hb : Below wr.heap.size wr wx) (hg : wr.heap.size ≤ g) (ho : wx.heap[g]? = some o) : Has w wx ((g, o) :: L) := by
  refine ⟨fun p hp => ?_, List.Pairwise.cons (fun p hp e => ?_) h.nd, Below.tr h.bel hb⟩
  · rcases List.mem_cons.1 hp with rfl | hp
    · exact ⟨ho, Nat.le_trans h.bel.size hg⟩
    · exact (h.bl hb).at_ p hp
  · have := h.lt (g := p.1) (o := p.2) hp
    have e' : g = p.1 := e
    omega
/-- one block is written -/
theorem Has.wr {w wr wx : World} {L M : List (Nat × Obj)} {g : Nat} {o o' : Obj} (h : Has w wr (L ++ (g, o) :: M)) (hf : wr.grownBy wx (some g)) (ho : wx.heap[g]? = some o') : Has w wx (L ++ (g, o') :: M) := by
  have hn := List.pairwise_append.1 h.nd
  have hn2 := List.pairwise_cons.1 hn.2.1
  have hmem : (g, o) ∈ L ++ (g, o) :: M := by simp
  have hk : ∀ p : Nat × Obj, p ∈ L ++ (g, o) :: M → p.1 ≠ g → wx.heap[p.1]? = some p.2 := fun p hp hne => (hf.block p.1 (h.lt (g := p.1) (o := p.2) hp) (fun e => hne (by injection e))).trans (h.at_ p hp).1
  refine ⟨fun p hp => ?_, ?_, ?_⟩
  · rcases List.mem_append.1 hp with hp | hp
    · exact ⟨hk p (by simp [hp]) (hn.2.2 p hp (g, o) (by simp)), (h.at_ p (by simp [hp])).2⟩
    · rcases List.mem_cons.1 hp with rfl | hp
      · exact ⟨ho, h.ge hmem⟩
      · exact ⟨hk p (by simp [hp]) (fun e => hn2.1 p hp e.symm), (h.at_ p (by simp [hp])).2⟩
  · refine List.pairwise_append.2 ⟨hn.1, List.Pairwise.cons (fun p hp => hn2.1 p hp) hn2.2, fun p hp q hq => ?_⟩
    rcases List.mem_cons.1 hq with rfl | hq
    · exact hn.2.2 p hp (g, o) (by simp)
    · exact hn.2.2 p hp q (by simp [hq])
  · exact h.bel.grown hf h.bel.size (fun j hj => by injection hj with hj; subst hj; exact h.ge hmem)
theorem grown_set (w : World) (g i : Nat) (v : Value) : w.grownBy (w.setCell ⟨g, i, none⟩ v) (some g) := by
  have hf : Fr (fun j => j = g) w (w.setCell ⟨g, i, none⟩ v) := (Fr.refl (fun j => j = g) w).setCell (p := ⟨g, i, none⟩) (.inl rfl) v
  exact ⟨hf.os, hf.tape, hf.output, hf.size, fun k hk hne => hf.block k hk (fun e => hne (by rw [e]))⟩
theorem Has.fr {w wr wx : World} {L : List (Nat × Obj)} {M : Nat → Prop} (h : Has w wr L) (hf : Fr M wr wx) (hM : ∀ p ∈ L, ¬ M p.1) (hM2 : ∀ k, M k → w.heap.size ≤ k) : Has w wx L :=
  ⟨fun p hp => ⟨(hf.block p.1 (h.lt (g := p.1) (o := p.2) hp) (hM p hp)).trans (h.at_ p hp).1, (h.at_ p hp).2⟩, h.nd,
    ((Fr.of_below h.bel).trans hf (fun i _ h => h)).to_below (fun i hi e => by have := hM2 i e; omega)⟩
theorem own_fr {w w' : World} {M : Nat → Prop} {base e size n : Nat} {v : Value} {xs : List Value} (h : w.ownsRow base e size v n xs) (hf : Fr M w w') (hM : ∀ k, v.ownBlock = some k → ¬ M k) : w'.ownsRow base e size v n xs := by
  refine ⟨h.1, ?_⟩
  rcases h.2 with hn | ⟨g, cap, cur, hv, hb, hh, r⟩
  · exact .inl hn
  · refine .inr ⟨g, cap, cur, hv, hb, ?_, r⟩
    rw [hf.block g (Array.getElem?_eq_some_iff.1 hh).1 (hM g (by rw [hv]; rfl))]; exact hh
theorem Fr.of_none {w w' : World} (hg : w.grownBy w' none) (M : Nat → Prop) : Fr M w w' := (Fr.of_grown hg).mono (fun k _ e => by cases e)
theorem Fr.of_set (w : World) (g i : Nat) (v : Value) {M : Nat → Prop} (h : M g) : Fr M w (w.setCell ⟨g, i, none⟩ v) := (Fr.refl M w).setCell (p := ⟨g, i, none⟩) (.inl h) v
end Go.Proofs.Ytjfnpndpigpaiaa
