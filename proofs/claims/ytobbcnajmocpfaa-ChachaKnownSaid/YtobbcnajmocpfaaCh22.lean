/- ChachaKnown's numbers. -/
import Derived.Test.YtobbcnajmocpfaaCh21
import Derived.Test.YtobbcnajmocpfaaCh14
import Derived.Test.YtobbcnajmocpfaaKRow
namespace Go.Proofs.Ytobbcnajmocpfaa
open Go.RowKit
attribute [local go_sem] yld yldUpon_value

def qL : List (BitVec 32) := [286331153, 16909060, 2609737539, 19088743]
theorem qL_done : quarterP qL 0 1 2 3 = [3928658676, 3407673550, 1166100270, 1484899515] := by kernel_rfl
set_option maxRecDepth 100000 in
theorem zero_block : (blockP (List.replicate 32 0) 0 (List.replicate 12 0)).take 16 = beL [1991827629, 2700164496, 1079864037, 1401339176] := by kernel_rfl
def nonceS : List UInt8 := [0, 0, 0, 0, 0, 0, 0, 74, 0, 0, 0, 0]
def ladies : List UInt8 := [76, 97, 100, 105, 101, 115, 32, 97, 110, 100, 32, 71, 101, 110, 116, 108]
set_option maxRecDepth 100000 in
theorem ladies_done : xorP countedL 1 nonceS ladies = beL [1848522138, 627636608, 1102710568, 3708643713] := by kernel_rfl
end Go.Proofs.Ytobbcnajmocpfaa
