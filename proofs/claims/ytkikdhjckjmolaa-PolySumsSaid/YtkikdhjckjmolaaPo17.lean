/- Poly: known. -/
import Derived.Test.YtkikdhjckjmolaaPo16
import Derived.Lib.SlBytesConst
namespace Go.Proofs.Ytkikdhjckjmolaa
open Go.RowKit
attribute [local go_sem] yld yldUpon_value

def forumL : List UInt8 := [67, 114, 121, 112, 116, 111, 103, 114, 97, 112, 104, 105, 99, 32, 70, 111, 114, 117, 109, 32, 82, 101, 115, 101, 97, 114, 99, 104, 32, 71, 114, 111, 117, 112]
def knownT : List UInt8 := [168, 6, 29, 193, 48, 81, 54, 198, 194, 43, 139, 175, 12, 1, 39, 169]
set_option maxRecDepth 100000 in
theorem known_tag : tagL pubL forumL = knownT := by kernel_rfl
set_option maxRecDepth 100000 in
set_option maxHeartbeats 8000000 in
theorem known_any (w : World) :
    Calls Try.prog 8 #[] w fun e w' => e = .returned (.bool true) ∧ Below w.heap.size w w' := by
  go_enter Try.func8, Try.ntmps8
  go_wp2_with fail
  refine (published_any w).mono ?_
  rintro e w1 ⟨rfl, hb1⟩
  have B1 := Lib.hid hb1
  clear hb1
  have q3 := Lib.run_convert_bytes_const (P := Try.prog) w1 24 5 #[.int .u8 67, .int .u8 114, .int .u8 121, .int .u8 112, .int .u8 116, .int .u8 111, .int .u8 103, .int .u8 114, .int .u8 97, .int .u8 112, .int .u8 104, .int .u8 105, .int .u8 99, .int .u8 32, .int .u8 70, .int .u8 111, .int .u8 114, .int .u8 117, .int .u8 109, .int .u8 32, .int .u8 82, .int .u8 101, .int .u8 115, .int .u8 101, .int .u8 97, .int .u8 114, .int .u8 99, .int .u8 104, .int .u8 32, .int .u8 71, .int .u8 114, .int .u8 111, .int .u8 117, .int .u8 112] 34 34 Try.underlying24 Try.underlying5
  go_wp2_with fail
  clear q3
  have S2' : Hid (Sl (w1.alloc (.cells (bs forumL).toArray 5 (34, 35))) (fun k => k = w1.heap.size) (some ⟨w1.heap.size, 0, none⟩) 34 34 forumL) := Sl.of_block (heap_alloc_new w1 _) rfl 34 rfl
  have S2 : Hid (Sl (w1.alloc (.cells #[.int .u8 67, .int .u8 114, .int .u8 121, .int .u8 112, .int .u8 116, .int .u8 111, .int .u8 103, .int .u8 114, .int .u8 97, .int .u8 112, .int .u8 104, .int .u8 105, .int .u8 99, .int .u8 32, .int .u8 70, .int .u8 111, .int .u8 114, .int .u8 117, .int .u8 109, .int .u8 32, .int .u8 82, .int .u8 101, .int .u8 115, .int .u8 101, .int .u8 97, .int .u8 114, .int .u8 99, .int .u8 104, .int .u8 32, .int .u8 71, .int .u8 114, .int .u8 111, .int .u8 117, .int .u8 112] 5 (34, 35))) (fun k => k = w1.heap.size) (some ⟨w1.heap.size, 0, none⟩) 34 34 forumL) := S2'
  clear S2'
  have B2 : Hid (Below w1.heap.size w1 (w1.alloc (.cells #[.int .u8 67, .int .u8 114, .int .u8 121, .int .u8 112, .int .u8 116, .int .u8 111, .int .u8 103, .int .u8 114, .int .u8 97, .int .u8 112, .int .u8 104, .int .u8 105, .int .u8 99, .int .u8 32, .int .u8 70, .int .u8 111, .int .u8 114, .int .u8 117, .int .u8 109, .int .u8 32, .int .u8 82, .int .u8 101, .int .u8 115, .int .u8 101, .int .u8 97, .int .u8 114, .int .u8 99, .int .u8 104, .int .u8 32, .int .u8 71, .int .u8 114, .int .u8 111, .int .u8 117, .int .u8 112] 5 (34, 35)))) := Below.al _ _
  have Z2 : Hid (w1.heap.size < (w1.alloc (.cells #[.int .u8 67, .int .u8 114, .int .u8 121, .int .u8 112, .int .u8 116, .int .u8 111, .int .u8 103, .int .u8 114, .int .u8 97, .int .u8 112, .int .u8 104, .int .u8 105, .int .u8 99, .int .u8 32, .int .u8 70, .int .u8 111, .int .u8 114, .int .u8 117, .int .u8 109, .int .u8 32, .int .u8 82, .int .u8 101, .int .u8 115, .int .u8 101, .int .u8 97, .int .u8 114, .int .u8 99, .int .u8 104, .int .u8 32, .int .u8 71, .int .u8 114, .int .u8 111, .int .u8 117, .int .u8 112] 5 (34, 35))).heap.size) := by show _ < _; simp
  generalize w1.alloc (.cells #[.int .u8 67, .int .u8 114, .int .u8 121, .int .u8 112, .int .u8 116, .int .u8 111, .int .u8 103, .int .u8 114, .int .u8 97, .int .u8 112, .int .u8 104, .int .u8 105, .int .u8 99, .int .u8 32, .int .u8 70, .int .u8 111, .int .u8 114, .int .u8 117, .int .u8 109, .int .u8 32, .int .u8 82, .int .u8 101, .int .u8 115, .int .u8 101, .int .u8 97, .int .u8 114, .int .u8 99, .int .u8 104, .int .u8 32, .int .u8 71, .int .u8 114, .int .u8 111, .int .u8 117, .int .u8 112] 5 (34, 35)) = w2 at S2 B2 Z2 ⊢
  refine (Sum_any S2.out (fun k hk => by rw [hk]; exact Z2.out) (by decide) (show pubL.length = 32 from rfl)).mono ?_
  rintro e w3 ⟨rfl, hb3⟩
  rw [known_tag]
  have B3 : Hid (Below w.heap.size w w3) := Below.tr B1.out (Below.tr B2.out hb3)
  clear hb3 S2 B2 Z2 B1
  go_wp2_with (
    (refine lst_eql_arr 28 (.tmp 4) (.tmp 5) _ rfl 16 knownT knownT rfl rfl Try.underlying28 (by kernel_rfl) rfl rfl true (by simp) rfl ?_))
  go_ret
  exact ⟨rfl, B3.out⟩
end Go.Proofs.Ytkikdhjckjmolaa
