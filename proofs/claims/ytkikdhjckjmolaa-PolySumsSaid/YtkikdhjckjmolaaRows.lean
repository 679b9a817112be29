/-
  No cell of these rows narrows 'for every input' (looked for: loops, veiled, ifaces, maps, wideKeys, modest, calm, conditions, laid).
  DERIVED. THE GIVEN ROWS OF THIS SEAT. 5 by the template 'for every input the law returns true; each argument reads behind the call as it read before'; 0 by the template 'total and deterministic' (their statements: YtkikdhjckjmolaaTotals.lean).
  GIVEN WITH THE SEED: the statements are not yours to turn. If you find one false, say at which input.
  Laid BY PROGRAM, IN A SANDBOX (cutbox-rows.mjs): the forced cells as the released guide's own fill.sh prints them over the translation fc4e2fa5a90a5bc1… (all of the seat's roots in one cut). By AI agents, Wed Nov 11 2026. No macro, syntax, notation, axiom, sorry.
-/
import Derived.Test.YtkikdhjckjmolaaChecked
import GoSem.Claim
import GoSem.ClaimJoined
import GoSem.ClaimMapViews
import Derived.JoinedTies
import Derived.KernelRfl
namespace Go.Proofs.Ytkikdhjckjmolaa
/- THE CELL 'sum', in the pinned program and in every row, IS THE sha256 OF THE DUMP (.gsa) THAT YtkikdhjckjmolaaProg.lean LOADS. Nothing in Lean hashes anything: it is a label: what it is worth is what the hold of that sum in a sandbox is worth. -/
noncomputable def Try.pinned : Pinned := { name := "ytkikdhjckjmolaa", sum := "fc4e2fa5a90a5bc1d95893df998a9b7c1fbdf8f696156d930259f2cc850fb8f9", checked := Try.checked }
namespace Rows
def none {H : Type} : Left H := { results := [], args := [] }

/-- 'sealerylaw04.PolySums': WHATEVER THE INPUT: true; the input reads as it did. -/
def polySumsSpec : ChangeSpec := { name := "polySums", fn := fun _ => fun
  | [d1, d2] => { results := [.lit (.bool true)], args := [d1, d2] }
  | _ => none }
def polySumsRow : OpenClaim := { program := "ytkikdhjckjmolaa", sum := "fc4e2fa5a90a5bc1d95893df998a9b7c1fbdf8f696156d930259f2cc850fb8f9", func := "sealery/sealerylaw04.PolySums", spec := "polySums", inPlace := ["math/bits.Add64"], apart := false }
def PolySumsSaid : Prop := polySumsRow.holds Try.pinned (OpenSpec.ofChange polySumsSpec)

/-- ITS FALSE NEIGHBOUR: 'it returns false'. Refute it at one input. -/
def polySumsWrong : ChangeSpec := { name := "polySums", fn := fun _ => fun
  | [d1, d2] => { results := [.lit (.bool false)], args := [d1, d2] }
  | _ => none }
def PolySumsWrongFalsely : Prop := polySumsRow.holds Try.pinned (OpenSpec.ofChange polySumsWrong)

/-- 'sealerylaw04.PolyMoves': WHATEVER THE INPUT: true; the input reads as it did. -/
def polyMovesSpec : ChangeSpec := { name := "polyMoves", fn := fun _ => fun
  | [d1, d2, d3] => { results := [.lit (.bool true)], args := [d1, d2, d3] }
  | _ => none }
def polyMovesRow : OpenClaim := { program := "ytkikdhjckjmolaa", sum := "fc4e2fa5a90a5bc1d95893df998a9b7c1fbdf8f696156d930259f2cc850fb8f9", func := "sealery/sealerylaw04.PolyMoves", spec := "polyMoves", inPlace := ["math/bits.Add64"], apart := false }
def PolyMovesSaid : Prop := polyMovesRow.holds Try.pinned (OpenSpec.ofChange polyMovesSpec)

/-- ITS FALSE NEIGHBOUR: 'it returns false'. Refute it at one input. -/
def polyMovesWrong : ChangeSpec := { name := "polyMoves", fn := fun _ => fun
  | [d1, d2, d3] => { results := [.lit (.bool false)], args := [d1, d2, d3] }
  | _ => none }
def PolyMovesWrongFalsely : Prop := polyMovesRow.holds Try.pinned (OpenSpec.ofChange polyMovesWrong)

/-- 'sealerylaw04.PolyGoes': WHATEVER THE INPUT: true; the input reads as it did. -/
def polyGoesSpec : ChangeSpec := { name := "polyGoes", fn := fun _ => fun
  | [d1, d2, d3] => { results := [.lit (.bool true)], args := [d1, d2, d3] }
  | _ => none }
def polyGoesRow : OpenClaim := { program := "ytkikdhjckjmolaa", sum := "fc4e2fa5a90a5bc1d95893df998a9b7c1fbdf8f696156d930259f2cc850fb8f9", func := "sealery/sealerylaw04.PolyGoes", spec := "polyGoes", inPlace := ["math/bits.Add64"], apart := false }
def PolyGoesSaid : Prop := polyGoesRow.holds Try.pinned (OpenSpec.ofChange polyGoesSpec)

/-- ITS FALSE NEIGHBOUR: 'it returns false'. Refute it at one input. -/
def polyGoesWrong : ChangeSpec := { name := "polyGoes", fn := fun _ => fun
  | [d1, d2, d3] => { results := [.lit (.bool false)], args := [d1, d2, d3] }
  | _ => none }
def PolyGoesWrongFalsely : Prop := polyGoesRow.holds Try.pinned (OpenSpec.ofChange polyGoesWrong)

/-- 'sealerylaw04.PolyOne': WHATEVER THE INPUT: true; the input reads as it did. -/
def polyOneSpec : ChangeSpec := { name := "polyOne", fn := fun _ => fun
  | [d1, d2] => { results := [.lit (.bool true)], args := [d1, d2] }
  | _ => none }
def polyOneRow : OpenClaim := { program := "ytkikdhjckjmolaa", sum := "fc4e2fa5a90a5bc1d95893df998a9b7c1fbdf8f696156d930259f2cc850fb8f9", func := "sealery/sealerylaw04.PolyOne", spec := "polyOne", inPlace := ["math/bits.Add64"], apart := false }
def PolyOneSaid : Prop := polyOneRow.holds Try.pinned (OpenSpec.ofChange polyOneSpec)

/-- ITS FALSE NEIGHBOUR: 'it returns false'. Refute it at one input. -/
def polyOneWrong : ChangeSpec := { name := "polyOne", fn := fun _ => fun
  | [d1, d2] => { results := [.lit (.bool false)], args := [d1, d2] }
  | _ => none }
def PolyOneWrongFalsely : Prop := polyOneRow.holds Try.pinned (OpenSpec.ofChange polyOneWrong)

/-- 'sealerylaw04.PolyKnown': WHATEVER THE INPUT: true; the input reads as it did. -/
def polyKnownSpec : ChangeSpec := { name := "polyKnown", fn := fun _ => fun
  | [] => { results := [.lit (.bool true)], args := [] }
  | _ => none }
def polyKnownRow : OpenClaim := { program := "ytkikdhjckjmolaa", sum := "fc4e2fa5a90a5bc1d95893df998a9b7c1fbdf8f696156d930259f2cc850fb8f9", func := "sealery/sealerylaw04.PolyKnown", spec := "polyKnown", inPlace := ["math/bits.Add64"], apart := false }
def PolyKnownSaid : Prop := polyKnownRow.holds Try.pinned (OpenSpec.ofChange polyKnownSpec)

/-- ITS FALSE NEIGHBOUR: 'it returns false'. Refute it at one input. -/
def polyKnownWrong : ChangeSpec := { name := "polyKnown", fn := fun _ => fun
  | [] => { results := [.lit (.bool false)], args := [] }
  | _ => none }
def PolyKnownWrongFalsely : Prop := polyKnownRow.holds Try.pinned (OpenSpec.ofChange polyKnownWrong)

/- THE SECOND FORM. 'bulk': how many values and letters a reading holds, each counted each time it is reached (what is shared counts as often as it is met; a slice's spare places count too). A statement '..UptoSaid' is the law's where the arguments, and the package variables that the reading takes, are together of bulk at most 1048576: NARROWER than '..Said'. Prove '..Said' where nothing that the law and all that it calls make is longer than what came in: it says more and counts as full. Else prove '..UptoSaid'. A law counts once. -/
mutual
def uptoBulk {H : Type} : DataW H → Nat
  | .lit (.string bytes) => bytes.length + 1
  | .lit _ => 1
  | .nil => 1
  | .ptr d => uptoBulk d + 1
  | .slice elems spare => uptoBulkAll elems + uptoBulkAll spare + 1
  | .agg parts => uptoBulkAll parts + 1
  | .iface _ d => uptoBulk d + 1
  | .map entries => uptoBulkEntries entries + 1
  | .held _ => 1
def uptoBulkAll {H : Type} : List (DataW H) → Nat
  | [] => 0
  | d :: r => uptoBulk d + uptoBulkAll r
def uptoBulkEntries {H : Type} : List (Lit × DataW H) → Nat
  | [] => 0
  | x :: r => uptoBulkEntry x + uptoBulkEntries r
def uptoBulkEntry {H : Type} : Lit × DataW H → Nat
  | (.string bytes, d) => bytes.length + uptoBulk d + 1
  | (_, d) => uptoBulk d + 1
 end
def uptoSmall : (H : Type) → List (DataW H) → Bool := fun _ ds => decide (uptoBulkAll ds ≤ 1048576)
def OpenSpec.upto (s : _root_.Go.ChangeSpec) : _root_.Go.OpenSpec := { _root_.Go.OpenSpec.ofChange s with cond := some uptoSmall }

/-- 'sealerylaw04.PolySums', WHERE WHAT IT READS IS OF BULK AT MOST 1048576: true; the input reads as it did. -/
def polySumsUptoRow : OpenClaim := { program := "ytkikdhjckjmolaa", sum := "fc4e2fa5a90a5bc1d95893df998a9b7c1fbdf8f696156d930259f2cc850fb8f9", func := "sealery/sealerylaw04.PolySums", spec := "polySums", inPlace := ["math/bits.Add64"], apart := false, narrowed := true }
def PolySumsUptoSaid : Prop := polySumsUptoRow.holds Try.pinned (OpenSpec.upto polySumsSpec)

/-- 'sealerylaw04.PolyMoves', WHERE WHAT IT READS IS OF BULK AT MOST 1048576: true; the input reads as it did. -/
def polyMovesUptoRow : OpenClaim := { program := "ytkikdhjckjmolaa", sum := "fc4e2fa5a90a5bc1d95893df998a9b7c1fbdf8f696156d930259f2cc850fb8f9", func := "sealery/sealerylaw04.PolyMoves", spec := "polyMoves", inPlace := ["math/bits.Add64"], apart := false, narrowed := true }
def PolyMovesUptoSaid : Prop := polyMovesUptoRow.holds Try.pinned (OpenSpec.upto polyMovesSpec)

/-- 'sealerylaw04.PolyGoes', WHERE WHAT IT READS IS OF BULK AT MOST 1048576: true; the input reads as it did. -/
def polyGoesUptoRow : OpenClaim := { program := "ytkikdhjckjmolaa", sum := "fc4e2fa5a90a5bc1d95893df998a9b7c1fbdf8f696156d930259f2cc850fb8f9", func := "sealery/sealerylaw04.PolyGoes", spec := "polyGoes", inPlace := ["math/bits.Add64"], apart := false, narrowed := true }
def PolyGoesUptoSaid : Prop := polyGoesUptoRow.holds Try.pinned (OpenSpec.upto polyGoesSpec)

/-- 'sealerylaw04.PolyOne', WHERE WHAT IT READS IS OF BULK AT MOST 1048576: true; the input reads as it did. -/
def polyOneUptoRow : OpenClaim := { program := "ytkikdhjckjmolaa", sum := "fc4e2fa5a90a5bc1d95893df998a9b7c1fbdf8f696156d930259f2cc850fb8f9", func := "sealery/sealerylaw04.PolyOne", spec := "polyOne", inPlace := ["math/bits.Add64"], apart := false, narrowed := true }
def PolyOneUptoSaid : Prop := polyOneUptoRow.holds Try.pinned (OpenSpec.upto polyOneSpec)

/-- 'sealerylaw04.PolyKnown', WHERE WHAT IT READS IS OF BULK AT MOST 1048576: true; the input reads as it did. -/
def polyKnownUptoRow : OpenClaim := { program := "ytkikdhjckjmolaa", sum := "fc4e2fa5a90a5bc1d95893df998a9b7c1fbdf8f696156d930259f2cc850fb8f9", func := "sealery/sealerylaw04.PolyKnown", spec := "polyKnown", inPlace := ["math/bits.Add64"], apart := false, narrowed := true }
def PolyKnownUptoSaid : Prop := polyKnownUptoRow.holds Try.pinned (OpenSpec.upto polyKnownSpec)

end Rows
end Go.Proofs.Ytkikdhjckjmolaa
