/- Row: so many bytes. -/
import Derived.Test.YtglbhoamknjdeaaMem
namespace Go.Proofs.Ytglbhoamknjdeaa
open Go.RowKit

def rowL (n : Nat) : List UInt8 := (List.range n).map fun i => UInt8.ofNat ((7 + i) % 251)
theorem rowL_len (n : Nat) : (rowL n).length = n := by simp [rowL]
theorem rowL_succ (n : Nat) : bs (rowL (n + 1)) = bs (rowL n) ++ [.int .u8 (((7 + n) % 251 : Nat) : Int)] := by
  simp only [rowL, List.range_succ, List.map_append, List.map_cons, List.map_nil, bs, bv]
  congr 3
  rw [UInt8.toNat_ofNat', Nat.mod_eq_of_lt (by simp; omega)]

end Go.Proofs.Ytglbhoamknjdeaa
