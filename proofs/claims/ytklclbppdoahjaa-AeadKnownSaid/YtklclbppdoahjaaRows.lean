/-
  No cell of these rows narrows 'for every input' (looked for: loops, veiled, ifaces, maps, wideKeys, modest, calm, conditions, laid).
  DERIVED. THE GIVEN ROWS OF THIS SEAT. 6 by the template 'for every input the law returns true; each argument reads behind the call as it read before'; 0 by the template 'total and deterministic' (their statements: YtklclbppdoahjaaTotals.lean).
  GIVEN WITH THE SEED: the statements are not yours to turn. If you find one false, say at which input.
  Laid BY PROGRAM, IN A SANDBOX (cutbox-rows.mjs): the forced cells as the released guide's own fill.sh prints them over the translation 0203f00ab5376196… (all of the seat's roots in one cut). By AI agents, Wed Nov 11 2026. No macro, syntax, notation, axiom, sorry.
-/
import Derived.Test.YtklclbppdoahjaaChecked
import GoSem.Claim
import GoSem.ClaimJoined
import GoSem.ClaimMapViews
import Derived.JoinedTies
import Derived.KernelRfl
namespace Go.Proofs.Ytklclbppdoahjaa
/- THE CELL 'sum', in the pinned program and in every row, IS THE sha256 OF THE DUMP (.gsa) THAT YtklclbppdoahjaaProg.lean LOADS. Nothing in Lean hashes anything: it is a label: what it is worth is what the hold of that sum in a sandbox is worth. -/
noncomputable def Try.pinned : Pinned := { name := "ytklclbppdoahjaa", sum := "0203f00ab53761966baf5d149ac780c208fe83f299c193081ff10a9e00b7774a", checked := Try.checked }
namespace Rows
def none {H : Type} : Left H := { results := [], args := [] }

/-- 'sealerylaw05.AeadSeals': WHATEVER THE INPUT: true; the input reads as it did. -/
def aeadSealsSpec : ChangeSpec := { name := "aeadSeals", fn := fun _ => fun
  | [d1, d2, d3, d4] => { results := [.lit (.bool true)], args := [d1, d2, d3, d4] }
  | _ => none }
def aeadSealsRow : OpenClaim := { program := "ytklclbppdoahjaa", sum := "0203f00ab53761966baf5d149ac780c208fe83f299c193081ff10a9e00b7774a", func := "sealery/sealerylaw05.AeadSeals", spec := "aeadSeals", inPlace := ["math/bits.Add64"], unfollowed := true, recurses := true, apart := false }
def AeadSealsSaid : Prop := aeadSealsRow.holds Try.pinned (OpenSpec.ofChange aeadSealsSpec)

/-- ITS FALSE NEIGHBOUR: 'it returns false'. Refute it at one input. -/
def aeadSealsWrong : ChangeSpec := { name := "aeadSeals", fn := fun _ => fun
  | [d1, d2, d3, d4] => { results := [.lit (.bool false)], args := [d1, d2, d3, d4] }
  | _ => none }
def AeadSealsWrongFalsely : Prop := aeadSealsRow.holds Try.pinned (OpenSpec.ofChange aeadSealsWrong)

/-- 'sealerylaw05.AeadOpens': WHATEVER THE INPUT: true; the input reads as it did. -/
def aeadOpensSpec : ChangeSpec := { name := "aeadOpens", fn := fun _ => fun
  | [d1, d2, d3, d4, d5, d6] => { results := [.lit (.bool true)], args := [d1, d2, d3, d4, d5, d6] }
  | _ => none }
def aeadOpensRow : OpenClaim := { program := "ytklclbppdoahjaa", sum := "0203f00ab53761966baf5d149ac780c208fe83f299c193081ff10a9e00b7774a", func := "sealery/sealerylaw05.AeadOpens", spec := "aeadOpens", inPlace := ["math/bits.Add64"], unfollowed := true, recurses := true, apart := false }
def AeadOpensSaid : Prop := aeadOpensRow.holds Try.pinned (OpenSpec.ofChange aeadOpensSpec)

/-- ITS FALSE NEIGHBOUR: 'it returns false'. Refute it at one input. -/
def aeadOpensWrong : ChangeSpec := { name := "aeadOpens", fn := fun _ => fun
  | [d1, d2, d3, d4, d5, d6] => { results := [.lit (.bool false)], args := [d1, d2, d3, d4, d5, d6] }
  | _ => none }
def AeadOpensWrongFalsely : Prop := aeadOpensRow.holds Try.pinned (OpenSpec.ofChange aeadOpensWrong)

/-- 'sealerylaw05.AeadBack': WHATEVER THE INPUT: true; the input reads as it did. -/
def aeadBackSpec : ChangeSpec := { name := "aeadBack", fn := fun _ => fun
  | [d1, d2, d3, d4] => { results := [.lit (.bool true)], args := [d1, d2, d3, d4] }
  | _ => none }
def aeadBackRow : OpenClaim := { program := "ytklclbppdoahjaa", sum := "0203f00ab53761966baf5d149ac780c208fe83f299c193081ff10a9e00b7774a", func := "sealery/sealerylaw05.AeadBack", spec := "aeadBack", inPlace := ["math/bits.Add64"], unfollowed := true, recurses := true, apart := false }
def AeadBackSaid : Prop := aeadBackRow.holds Try.pinned (OpenSpec.ofChange aeadBackSpec)

/-- ITS FALSE NEIGHBOUR: 'it returns false'. Refute it at one input. -/
def aeadBackWrong : ChangeSpec := { name := "aeadBack", fn := fun _ => fun
  | [d1, d2, d3, d4] => { results := [.lit (.bool false)], args := [d1, d2, d3, d4] }
  | _ => none }
def AeadBackWrongFalsely : Prop := aeadBackRow.holds Try.pinned (OpenSpec.ofChange aeadBackWrong)

/-- 'sealerylaw05.AeadTags': WHATEVER THE INPUT: true; the input reads as it did. -/
def aeadTagsSpec : ChangeSpec := { name := "aeadTags", fn := fun _ => fun
  | [d1, d2, d3, d4, d5] => { results := [.lit (.bool true)], args := [d1, d2, d3, d4, d5] }
  | _ => none }
def aeadTagsRow : OpenClaim := { program := "ytklclbppdoahjaa", sum := "0203f00ab53761966baf5d149ac780c208fe83f299c193081ff10a9e00b7774a", func := "sealery/sealerylaw05.AeadTags", spec := "aeadTags", inPlace := ["math/bits.Add64"], unfollowed := true, recurses := true, apart := false }
def AeadTagsSaid : Prop := aeadTagsRow.holds Try.pinned (OpenSpec.ofChange aeadTagsSpec)

/-- ITS FALSE NEIGHBOUR: 'it returns false'. Refute it at one input. -/
def aeadTagsWrong : ChangeSpec := { name := "aeadTags", fn := fun _ => fun
  | [d1, d2, d3, d4, d5] => { results := [.lit (.bool false)], args := [d1, d2, d3, d4, d5] }
  | _ => none }
def AeadTagsWrongFalsely : Prop := aeadTagsRow.holds Try.pinned (OpenSpec.ofChange aeadTagsWrong)

/-- 'sealerylaw05.AeadStream': WHATEVER THE INPUT: true; the input reads as it did. -/
def aeadStreamSpec : ChangeSpec := { name := "aeadStream", fn := fun _ => fun
  | [d1, d2, d3, d4, d5] => { results := [.lit (.bool true)], args := [d1, d2, d3, d4, d5] }
  | _ => none }
def aeadStreamRow : OpenClaim := { program := "ytklclbppdoahjaa", sum := "0203f00ab53761966baf5d149ac780c208fe83f299c193081ff10a9e00b7774a", func := "sealery/sealerylaw05.AeadStream", spec := "aeadStream", inPlace := ["math/bits.Add64"], unfollowed := true, recurses := true, apart := false }
def AeadStreamSaid : Prop := aeadStreamRow.holds Try.pinned (OpenSpec.ofChange aeadStreamSpec)

/-- ITS FALSE NEIGHBOUR: 'it returns false'. Refute it at one input. -/
def aeadStreamWrong : ChangeSpec := { name := "aeadStream", fn := fun _ => fun
  | [d1, d2, d3, d4, d5] => { results := [.lit (.bool false)], args := [d1, d2, d3, d4, d5] }
  | _ => none }
def AeadStreamWrongFalsely : Prop := aeadStreamRow.holds Try.pinned (OpenSpec.ofChange aeadStreamWrong)

/-- 'sealerylaw05.AeadKnown': WHATEVER THE INPUT: true; the input reads as it did. -/
def aeadKnownSpec : ChangeSpec := { name := "aeadKnown", fn := fun _ => fun
  | [] => { results := [.lit (.bool true)], args := [] }
  | _ => none }
def aeadKnownRow : OpenClaim := { program := "ytklclbppdoahjaa", sum := "0203f00ab53761966baf5d149ac780c208fe83f299c193081ff10a9e00b7774a", func := "sealery/sealerylaw05.AeadKnown", spec := "aeadKnown", inPlace := ["math/bits.Add64"], unfollowed := true, recurses := true, apart := false }
def AeadKnownSaid : Prop := aeadKnownRow.holds Try.pinned (OpenSpec.ofChange aeadKnownSpec)

/-- ITS FALSE NEIGHBOUR: 'it returns false'. Refute it at one input. -/
def aeadKnownWrong : ChangeSpec := { name := "aeadKnown", fn := fun _ => fun
  | [] => { results := [.lit (.bool false)], args := [] }
  | _ => none }
def AeadKnownWrongFalsely : Prop := aeadKnownRow.holds Try.pinned (OpenSpec.ofChange aeadKnownWrong)

/- THE SECOND FORM. 'bulk': how many values and letters a reading holds, each counted each time it is reached (what is shared counts as often as it is met; a slice's spare places count too). A statement '..UptoSaid' is the law's where the arguments, and the package variables that the reading takes, are together of bulk at most 1048576: NARROWER than '..Said'. Prove '..Said' where nothing that the law and all that it calls make is longer than what came in: it says more and counts as full. Else prove '..UptoSaid'. A law counts once. -/
mutual
def uptoBulk {H : Type} : DataW H → Nat
  | .lit (.string bytes) => bytes.length + 1
  | .lit _ => 1
  | .nil => 1
  | .ptr d => uptoBulk d + 1
  | .slice elems spare => uptoBulkAll elems + uptoBulkAll spare + 1
  | .agg parts => uptoBulkAll parts + 1
  | .iface _ d => uptoBulk d + 1
  | .map entries => uptoBulkEntries entries + 1
  | .held _ => 1
def uptoBulkAll {H : Type} : List (DataW H) → Nat
  | [] => 0
  | d :: r => uptoBulk d + uptoBulkAll r
def uptoBulkEntries {H : Type} : List (Lit × DataW H) → Nat
  | [] => 0
  | x :: r => uptoBulkEntry x + uptoBulkEntries r
def uptoBulkEntry {H : Type} : Lit × DataW H → Nat
  | (.string bytes, d) => bytes.length + uptoBulk d + 1
  | (_, d) => uptoBulk d + 1
 end
def uptoSmall : (H : Type) → List (DataW H) → Bool := fun _ ds => decide (uptoBulkAll ds ≤ 1048576)
def OpenSpec.upto (s : _root_.Go.ChangeSpec) : _root_.Go.OpenSpec := { _root_.Go.OpenSpec.ofChange s with cond := some uptoSmall }

/-- 'sealerylaw05.AeadSeals', WHERE WHAT IT READS IS OF BULK AT MOST 1048576: true; the input reads as it did. -/
def aeadSealsUptoRow : OpenClaim := { program := "ytklclbppdoahjaa", sum := "0203f00ab53761966baf5d149ac780c208fe83f299c193081ff10a9e00b7774a", func := "sealery/sealerylaw05.AeadSeals", spec := "aeadSeals", inPlace := ["math/bits.Add64"], unfollowed := true, recurses := true, apart := false, narrowed := true }
def AeadSealsUptoSaid : Prop := aeadSealsUptoRow.holds Try.pinned (OpenSpec.upto aeadSealsSpec)

/-- 'sealerylaw05.AeadOpens', WHERE WHAT IT READS IS OF BULK AT MOST 1048576: true; the input reads as it did. -/
def aeadOpensUptoRow : OpenClaim := { program := "ytklclbppdoahjaa", sum := "0203f00ab53761966baf5d149ac780c208fe83f299c193081ff10a9e00b7774a", func := "sealery/sealerylaw05.AeadOpens", spec := "aeadOpens", inPlace := ["math/bits.Add64"], unfollowed := true, recurses := true, apart := false, narrowed := true }
def AeadOpensUptoSaid : Prop := aeadOpensUptoRow.holds Try.pinned (OpenSpec.upto aeadOpensSpec)

/-- 'sealerylaw05.AeadBack', WHERE WHAT IT READS IS OF BULK AT MOST 1048576: true; the input reads as it did. -/
def aeadBackUptoRow : OpenClaim := { program := "ytklclbppdoahjaa", sum := "0203f00ab53761966baf5d149ac780c208fe83f299c193081ff10a9e00b7774a", func := "sealery/sealerylaw05.AeadBack", spec := "aeadBack", inPlace := ["math/bits.Add64"], unfollowed := true, recurses := true, apart := false, narrowed := true }
def AeadBackUptoSaid : Prop := aeadBackUptoRow.holds Try.pinned (OpenSpec.upto aeadBackSpec)

/-- 'sealerylaw05.AeadTags', WHERE WHAT IT READS IS OF BULK AT MOST 1048576: true; the input reads as it did. -/
def aeadTagsUptoRow : OpenClaim := { program := "ytklclbppdoahjaa", sum := "0203f00ab53761966baf5d149ac780c208fe83f299c193081ff10a9e00b7774a", func := "sealery/sealerylaw05.AeadTags", spec := "aeadTags", inPlace := ["math/bits.Add64"], unfollowed := true, recurses := true, apart := false, narrowed := true }
def AeadTagsUptoSaid : Prop := aeadTagsUptoRow.holds Try.pinned (OpenSpec.upto aeadTagsSpec)

/-- 'sealerylaw05.AeadStream', WHERE WHAT IT READS IS OF BULK AT MOST 1048576: true; the input reads as it did. -/
def aeadStreamUptoRow : OpenClaim := { program := "ytklclbppdoahjaa", sum := "0203f00ab53761966baf5d149ac780c208fe83f299c193081ff10a9e00b7774a", func := "sealery/sealerylaw05.AeadStream", spec := "aeadStream", inPlace := ["math/bits.Add64"], unfollowed := true, recurses := true, apart := false, narrowed := true }
def AeadStreamUptoSaid : Prop := aeadStreamUptoRow.holds Try.pinned (OpenSpec.upto aeadStreamSpec)

/-- 'sealerylaw05.AeadKnown', WHERE WHAT IT READS IS OF BULK AT MOST 1048576: true; the input reads as it did. -/
def aeadKnownUptoRow : OpenClaim := { program := "ytklclbppdoahjaa", sum := "0203f00ab53761966baf5d149ac780c208fe83f299c193081ff10a9e00b7774a", func := "sealery/sealerylaw05.AeadKnown", spec := "aeadKnown", inPlace := ["math/bits.Add64"], unfollowed := true, recurses := true, apart := false, narrowed := true }
def AeadKnownUptoSaid : Prop := aeadKnownUptoRow.holds Try.pinned (OpenSpec.upto aeadKnownSpec)

end Rows
end Go.Proofs.Ytklclbppdoahjaa
