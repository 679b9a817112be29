/- Poly: Add64, clamp. -/
import Derived.Test.YtkikdhjckjmolaaPo8
import Derived.Laws.Externs
namespace Go.Proofs.Ytkikdhjckjmolaa
open Go.RowKit
attribute [local go_sem] yld yldUpon_value

theorem run_call_add64 (w : World) (x y c : Nat) (hc : c ≤ 1) :
    (callFunc 25 #[.int .u64 (x : Int), .int .u64 (y : Int), .int .u64 (c : Int)]).run Try.prog w = .ok (.value (.tuple #[.int .u64 (((x + y + c) % 18446744073709551616 : Nat) : Int), .int .u64 (((x + y + c) / 18446744073709551616 : Nat) : Int)])) w := by
  rw [run_callFunc_extern (e := add64Entry) Try.func25 (by kernel_rfl) (by kernel_rfl) (by kernel_rfl) (by kernel_rfl),
    run_add64 (x : Int) (y : Int) (c : Int) (by omega) (by omega) (by omega) (by omega) w]
  simp
end Go.Proofs.Ytkikdhjckjmolaa
