/- Slices of whole numbers that were handed in. -/
import Derived.Test.YtnejcciociinmaaOpn
namespace Go.Proofs.Ytnejcciociinmaa
open Go.RowKit Go.ChangeShapes Go.WideShapes Go.Deep

structure IntSl (w : World) (F : Nat → Prop) (A : Option Addr) (n c : Nat) (l : List Int) : Prop where
  len : l.length = n
  cap : n ≤ c
  wf : ∀ x ∈ l, (Lit.int .i64 x).wf = true
  at_ : ∀ (j : Nat) (h : j < l.length), ∃ ad, A = some ad ∧ F ad.block ∧ w.cell? (ad.add j) = some (.int .i64 l[j])
theorem IntSl.fr {w w' : World} {F M : Nat → Prop} {A : Option Addr} {n c : Nat} {l : List Int} (h : IntSl w F A n c l) (hf : Fr M w w') (hF : ∀ k, F k → k < w.heap.size ∧ ¬ M k) : IntSl w' F A n c l :=
  ⟨h.len, h.cap, h.wf, fun j hj => by
    obtain ⟨ad, e, hF1, hc⟩ := h.at_ j hj
    refine ⟨ad, e, hF1, ?_⟩
    rw [World.cell?_of_block (w := w)]
    · exact hc
    · rw [addr_add_block]; exact hf.block _ (hF _ hF1).1 (hF _ hF1).2⟩
section
variable {H : Type} {enc : TypeId × Value → H} {w : World} {base : Nat} {spare : Nat → Bool} {held : Bool} {fuel : Nat} {cs : List Value} {x : DataW H × List MemPlace}
end
end Go.Proofs.Ytnejcciociinmaa
