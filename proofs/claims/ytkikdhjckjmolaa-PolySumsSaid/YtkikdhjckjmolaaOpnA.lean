/- Arrays of bytes and words read as arguments. -/
import Derived.Test.YtkikdhjckjmolaaOpn
import Derived.Test.YtkikdhjckjmolaaW32
namespace Go.Proofs.Ytkikdhjckjmolaa
open Go.RowKit Go.ChangeShapes Go.WideShapes
theorem okWide_arr {P : Program} {w : World} {r : Reach} {base : Nat} {t : TypeId} {v : Value} {n : Nat} {e : TypeId} (ht : P.underlying t = some (.array n e)) (h : Value.okWide P w r base t v) : ∃ cs, v = .agg cs := by
  simp only [Value.okWide, ht] at h
  obtain ⟨cs, h1, _⟩ := h
  exact ⟨cs, h1⟩
/-- a number of 32 bits is a word's -/
theorem word_of_wf {z : Int} (h : (Lit.int .u32 z).wf = true) : z = wv (BitVec.ofInt 32 z) := by
  have h2 := bounds_u32 h
  unfold wv
  rw [BitVec.toNat_ofInt]
  have : ((2 ^ 32 : Nat) : Int) = 4294967296 := rfl
  rw [this]; omega
end Go.Proofs.Ytkikdhjckjmolaa
