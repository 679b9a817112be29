/-
  No cell of these rows narrows 'for every input' (looked for: loops, veiled, ifaces, maps, wideKeys, modest, calm, conditions, laid).
  DERIVED. THE GIVEN ROWS OF THIS SEAT. 4 by the template 'for every input the law returns true; each argument reads behind the call as it read before'; 0 by the template 'total and deterministic' (their statements: YtohaaejonlijeaaTotals.lean).
  GIVEN WITH THE SEED: the statements are not yours to turn. If you find one false, say at which input.
  Laid BY PROGRAM, IN A SANDBOX (cutbox-rows.mjs): the forced cells as the released guide's own fill.sh prints them over the translation 0a50dfa543cce61b… (all of the seat's roots in one cut). By AI agents, Wed Nov 11 2026. No macro, syntax, notation, axiom, sorry.
-/
import Derived.Test.YtohaaejonlijeaaChecked
import GoSem.Claim
import GoSem.ClaimJoined
import GoSem.ClaimMapViews
import Derived.JoinedTies
import Derived.KernelRfl
namespace Go.Proofs.Ytohaaejonlijeaa
/- THE CELL 'sum', in the pinned program and in every row, IS THE sha256 OF THE DUMP (.gsa) THAT YtohaaejonlijeaaProg.lean LOADS. Nothing in Lean hashes anything: it is a label: what it is worth is what the hold of that sum in a sandbox is worth. -/
noncomputable def Try.pinned : Pinned := { name := "ytohaaejonlijeaa", sum := "0a50dfa543cce61b410d312c58f3886519a40d1cd042bfaddaae678f9b03067c", checked := Try.checked }
namespace Rows
def none {H : Type} : Left H := { results := [], args := [] }

/-- 'sealerylaw19.FeedOnce': WHATEVER THE INPUT: true; the input reads as it did. -/
def feedOnceSpec : ChangeSpec := { name := "feedOnce", fn := fun _ => fun
  | [d1, d2, d3] => { results := [.lit (.bool true)], args := [d1, d2, d3] }
  | _ => none }
def feedOnceRow : OpenClaim := { program := "ytohaaejonlijeaa", sum := "0a50dfa543cce61b410d312c58f3886519a40d1cd042bfaddaae678f9b03067c", func := "sealery/sealerylaw19.FeedOnce", spec := "feedOnce", unfollowed := true, recurses := true, apart := false }
def FeedOnceSaid : Prop := feedOnceRow.holds Try.pinned (OpenSpec.ofChange feedOnceSpec)

/-- ITS FALSE NEIGHBOUR: 'it returns false'. Refute it at one input. -/
def feedOnceWrong : ChangeSpec := { name := "feedOnce", fn := fun _ => fun
  | [d1, d2, d3] => { results := [.lit (.bool false)], args := [d1, d2, d3] }
  | _ => none }
def FeedOnceWrongFalsely : Prop := feedOnceRow.holds Try.pinned (OpenSpec.ofChange feedOnceWrong)

/-- 'sealerylaw19.FeedRuns': WHATEVER THE INPUT: true; the input reads as it did. -/
def feedRunsSpec : ChangeSpec := { name := "feedRuns", fn := fun _ => fun
  | [d] => { results := [.lit (.bool true)], args := [d] }
  | _ => none }
def feedRunsRow : OpenClaim := { program := "ytohaaejonlijeaa", sum := "0a50dfa543cce61b410d312c58f3886519a40d1cd042bfaddaae678f9b03067c", func := "sealery/sealerylaw19.FeedRuns", spec := "feedRuns", unfollowed := true, recurses := true, apart := false }
def FeedRunsSaid : Prop := feedRunsRow.holds Try.pinned (OpenSpec.ofChange feedRunsSpec)

/-- ITS FALSE NEIGHBOUR: 'it returns false'. Refute it at one input. -/
def feedRunsWrong : ChangeSpec := { name := "feedRuns", fn := fun _ => fun
  | [d] => { results := [.lit (.bool false)], args := [d] }
  | _ => none }
def FeedRunsWrongFalsely : Prop := feedRunsRow.holds Try.pinned (OpenSpec.ofChange feedRunsWrong)

/-- 'sealerylaw19.FeedApart': WHATEVER THE INPUT: true; the input reads as it did. -/
def feedApartSpec : ChangeSpec := { name := "feedApart", fn := fun _ => fun
  | [d1, d2] => { results := [.lit (.bool true)], args := [d1, d2] }
  | _ => none }
def feedApartRow : OpenClaim := { program := "ytohaaejonlijeaa", sum := "0a50dfa543cce61b410d312c58f3886519a40d1cd042bfaddaae678f9b03067c", func := "sealery/sealerylaw19.FeedApart", spec := "feedApart", unfollowed := true, recurses := true, apart := false }
def FeedApartSaid : Prop := feedApartRow.holds Try.pinned (OpenSpec.ofChange feedApartSpec)

/-- ITS FALSE NEIGHBOUR: 'it returns false'. Refute it at one input. -/
def feedApartWrong : ChangeSpec := { name := "feedApart", fn := fun _ => fun
  | [d1, d2] => { results := [.lit (.bool false)], args := [d1, d2] }
  | _ => none }
def FeedApartWrongFalsely : Prop := feedApartRow.holds Try.pinned (OpenSpec.ofChange feedApartWrong)

/-- 'sealerylaw19.FeedKnown': WHATEVER THE INPUT: true; the input reads as it did. -/
def feedKnownSpec : ChangeSpec := { name := "feedKnown", fn := fun _ => fun
  | [] => { results := [.lit (.bool true)], args := [] }
  | _ => none }
def feedKnownRow : OpenClaim := { program := "ytohaaejonlijeaa", sum := "0a50dfa543cce61b410d312c58f3886519a40d1cd042bfaddaae678f9b03067c", func := "sealery/sealerylaw19.FeedKnown", spec := "feedKnown", unfollowed := true, recurses := true, apart := false }
def FeedKnownSaid : Prop := feedKnownRow.holds Try.pinned (OpenSpec.ofChange feedKnownSpec)

/-- ITS FALSE NEIGHBOUR: 'it returns false'. Refute it at one input. -/
def feedKnownWrong : ChangeSpec := { name := "feedKnown", fn := fun _ => fun
  | [] => { results := [.lit (.bool false)], args := [] }
  | _ => none }
def FeedKnownWrongFalsely : Prop := feedKnownRow.holds Try.pinned (OpenSpec.ofChange feedKnownWrong)

/- THE SECOND FORM. 'bulk': how many values and letters a reading holds, each counted each time it is reached (what is shared counts as often as it is met; a slice's spare places count too). A statement '..UptoSaid' is the law's where the arguments, and the package variables that the reading takes, are together of bulk at most 1048576: NARROWER than '..Said'. Prove '..Said' where nothing that the law and all that it calls make is longer than what came in: it says more and counts as full. Else prove '..UptoSaid'. A law counts once. -/
mutual
def uptoBulk {H : Type} : DataW H → Nat
  | .lit (.string bytes) => bytes.length + 1
  | .lit _ => 1
  | .nil => 1
  | .ptr d => uptoBulk d + 1
  | .slice elems spare => uptoBulkAll elems + uptoBulkAll spare + 1
  | .agg parts => uptoBulkAll parts + 1
  | .iface _ d => uptoBulk d + 1
  | .map entries => uptoBulkEntries entries + 1
  | .held _ => 1
def uptoBulkAll {H : Type} : List (DataW H) → Nat
  | [] => 0
  | d :: r => uptoBulk d + uptoBulkAll r
def uptoBulkEntries {H : Type} : List (Lit × DataW H) → Nat
  | [] => 0
  | x :: r => uptoBulkEntry x + uptoBulkEntries r
def uptoBulkEntry {H : Type} : Lit × DataW H → Nat
  | (.string bytes, d) => bytes.length + uptoBulk d + 1
  | (_, d) => uptoBulk d + 1
 end
def uptoSmall : (H : Type) → List (DataW H) → Bool := fun _ ds => decide (uptoBulkAll ds ≤ 1048576)
def OpenSpec.upto (s : _root_.Go.ChangeSpec) : _root_.Go.OpenSpec := { _root_.Go.OpenSpec.ofChange s with cond := some uptoSmall }

/-- 'sealerylaw19.FeedOnce', WHERE WHAT IT READS IS OF BULK AT MOST 1048576: true; the input reads as it did. -/
def feedOnceUptoRow : OpenClaim := { program := "ytohaaejonlijeaa", sum := "0a50dfa543cce61b410d312c58f3886519a40d1cd042bfaddaae678f9b03067c", func := "sealery/sealerylaw19.FeedOnce", spec := "feedOnce", unfollowed := true, recurses := true, apart := false, narrowed := true }
def FeedOnceUptoSaid : Prop := feedOnceUptoRow.holds Try.pinned (OpenSpec.upto feedOnceSpec)

/-- 'sealerylaw19.FeedRuns', WHERE WHAT IT READS IS OF BULK AT MOST 1048576: true; the input reads as it did. -/
def feedRunsUptoRow : OpenClaim := { program := "ytohaaejonlijeaa", sum := "0a50dfa543cce61b410d312c58f3886519a40d1cd042bfaddaae678f9b03067c", func := "sealery/sealerylaw19.FeedRuns", spec := "feedRuns", unfollowed := true, recurses := true, apart := false, narrowed := true }
def FeedRunsUptoSaid : Prop := feedRunsUptoRow.holds Try.pinned (OpenSpec.upto feedRunsSpec)

/-- 'sealerylaw19.FeedApart', WHERE WHAT IT READS IS OF BULK AT MOST 1048576: true; the input reads as it did. -/
def feedApartUptoRow : OpenClaim := { program := "ytohaaejonlijeaa", sum := "0a50dfa543cce61b410d312c58f3886519a40d1cd042bfaddaae678f9b03067c", func := "sealery/sealerylaw19.FeedApart", spec := "feedApart", unfollowed := true, recurses := true, apart := false, narrowed := true }
def FeedApartUptoSaid : Prop := feedApartUptoRow.holds Try.pinned (OpenSpec.upto feedApartSpec)

/-- 'sealerylaw19.FeedKnown', WHERE WHAT IT READS IS OF BULK AT MOST 1048576: true; the input reads as it did. -/
def feedKnownUptoRow : OpenClaim := { program := "ytohaaejonlijeaa", sum := "0a50dfa543cce61b410d312c58f3886519a40d1cd042bfaddaae678f9b03067c", func := "sealery/sealerylaw19.FeedKnown", spec := "feedKnown", unfollowed := true, recurses := true, apart := false, narrowed := true }
def FeedKnownUptoSaid : Prop := feedKnownUptoRow.holds Try.pinned (OpenSpec.upto feedKnownSpec)

end Rows
end Go.Proofs.Ytohaaejonlijeaa
