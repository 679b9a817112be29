/- PolyKnown: the closed facts. -/
import Derived.Test.YtkikdhjckjmolaaPo18
import Derived.Test.YtkikdhjckjmolaaHas
namespace Go.Proofs.Ytkikdhjckjmolaa
open Go.RowKit

def z15 : List UInt8 := List.replicate 15 0
def z16 : List UInt8 := List.replicate 16 0
def onesL : List UInt8 := List.replicate 16 255
def nearL : List UInt8 := onesL ++ (0xF0 :: List.replicate 15 255)
set_option maxRecDepth 100000 in
theorem pk_a : tagL ((2 :: z15) ++ z16) onesL = 3 :: z15 := by kernel_rfl
set_option maxRecDepth 100000 in
theorem pk_b : tagL ((2 :: z15) ++ onesL) (2 :: z15) = 3 :: z15 := by kernel_rfl
set_option maxRecDepth 100000 in
theorem pk_c : tagL ((1 :: z15) ++ z16) (nearL ++ (0x11 :: z15)) = 5 :: z15 := by kernel_rfl
set_option maxRecDepth 100000 in
theorem pk_d : tagL (List.replicate 32 0) onesL = z16 := by kernel_rfl
end Go.Proofs.Ytkikdhjckjmolaa
