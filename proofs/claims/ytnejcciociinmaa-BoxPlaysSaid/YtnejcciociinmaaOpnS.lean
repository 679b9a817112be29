/- Words for openings of slices of structs. -/
import Derived.Test.YtnejcciociinmaaOpn
import Derived.Test.YtnejcciociinmaaOpnI
import Derived.Test.YtnejcciociinmaaReg
namespace Go.Proofs.Ytnejcciociinmaa
open Go.RowKit Go.ChangeShapes Go.WideShapes Go.Deep

theorem spot_of {w : World} {a : Addr} {v : Value} (h : w.cell? a = some v) : a = ⟨a.block, a.off, none⟩ := by
  obtain ⟨b, o, s⟩ := a
  unfold World.cell? at h
  simp only at h
  split at h
  · cases s with
    | none => rfl
    | some _ => simp at h
  · cases h
theorem cut_cs (cs : List Value) (o s : Nat) : cs.drop o = (cs.drop o).take s ++ cs.drop (o + s) := by
  rw [← List.drop_drop, List.take_append_drop]
theorem IntSl.fr2 {w w' : World} {F M : Nat → Prop} {A : Option Addr} {n c : Nat} {l : List Int} (h : IntSl w F A n c l) (hf : Fr M w w') (hF : ∀ k, F k → k < w.heap.size ∧ ¬ M k) : IntSl w' F A n c l := h.fr hf hF
end Go.Proofs.Ytnejcciociinmaa
