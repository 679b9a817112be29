/- Aead: the published row in numbers. -/
import Derived.Test.YtklclbppdoahjaaAe7
namespace Go.Proofs.Ytklclbppdoahjaa
set_option maxRecDepth 100000
open Go.RowKit

def pubB0 : List UInt8 := [123, 172, 43, 37, 45, 180, 71, 175, 9, 182, 122, 85, 164, 233, 85, 132, 10, 225, 214, 115, 16, 117, 217, 235, 42, 147, 117, 120, 62, 213, 83, 255, 162, 126, 204, 222, 173, 219, 77, 180, 209, 23, 156, 228, 201, 11, 67, 216, 188, 183, 148, 140, 75, 75, 125, 139, 125, 246, 39, 57, 50, 164, 105, 22]
def pubB1 : List UInt8 := [159, 123, 233, 93, 1, 253, 64, 186, 21, 226, 143, 251, 54, 129, 10, 174, 193, 192, 136, 63, 9, 1, 110, 222, 221, 138, 208, 135, 85, 130, 3, 165, 78, 158, 203, 56, 172, 142, 94, 43, 184, 218, 178, 15, 250, 219, 82, 232, 117, 4, 178, 110, 190, 105, 109, 79, 96, 164, 133, 207, 17, 184, 27, 89]
def pubB2 : List UInt8 := [252, 177, 196, 95, 66, 25, 238, 172, 236, 106, 222, 195, 78, 102, 105, 120, 142, 219, 65, 196, 156, 163, 1, 225, 39, 224, 172, 171, 59, 68, 185, 207, 92, 134, 187, 149, 224, 107, 13, 242, 144, 26, 182, 69, 228, 171, 230, 34, 21, 56, 12, 3, 206, 53, 108, 215, 166, 118, 99, 251, 221, 239, 255, 100]
def pubC : List UInt8 := [211, 26, 141, 52, 100, 142, 96, 219, 123, 134, 175, 188, 83, 239, 126, 194, 164, 173, 237, 81, 41, 110, 8, 254, 169, 226, 181, 167, 54, 238, 98, 214, 61, 190, 164, 94, 140, 169, 103, 18, 130, 250, 251, 105, 218, 146, 114, 139, 26, 113, 222, 10, 158, 6, 11, 41, 5, 214, 165, 182, 126, 205, 59, 54, 146, 221, 189, 127, 45, 119, 139, 140, 152, 3, 174, 227, 40, 9, 27, 88, 250, 179, 36, 228, 250, 214, 117, 148, 85, 133, 128, 139, 72, 49, 215, 188, 63, 244, 222, 240, 142, 75, 122, 157, 229, 118, 210, 101, 134, 206, 198, 75, 97, 22]
def pubX : List UInt8 := [80, 81, 82, 83, 192, 193, 194, 195, 196, 197, 198, 199, 0, 0, 0, 0, 211, 26, 141, 52, 100, 142, 96, 219, 123, 134, 175, 188, 83, 239, 126, 194, 164, 173, 237, 81, 41, 110, 8, 254, 169, 226, 181, 167, 54, 238, 98, 214, 61, 190, 164, 94, 140, 169, 103, 18, 130, 250, 251, 105, 218, 146, 114, 139, 26, 113, 222, 10, 158, 6, 11, 41, 5, 214, 165, 182, 126, 205, 59, 54, 146, 221, 189, 127, 45, 119, 139, 140, 152, 3, 174, 227, 40, 9, 27, 88, 250, 179, 36, 228, 250, 214, 117, 148, 85, 133, 128, 139, 72, 49, 215, 188, 63, 244, 222, 240, 142, 75, 122, 157, 229, 118, 210, 101, 134, 206, 198, 75, 97, 22, 0, 0, 0, 0, 0, 0, 0, 0, 0, 0, 0, 0, 0, 0, 12, 0, 0, 0, 0, 0, 0, 0, 114, 0, 0, 0, 0, 0, 0, 0]
def pubG : List UInt8 := [26, 225, 11, 89, 79, 9, 226, 106, 126, 144, 46, 203, 208, 96, 6, 145]
set_option maxRecDepth 100000 in
theorem pub_b0 : blockP pubK 0 pubN = pubB0 := by kernel_rfl
set_option maxRecDepth 100000 in
theorem pub_b1 : blockP pubK 1 pubN = pubB1 := by kernel_rfl
set_option maxRecDepth 100000 in
theorem pub_b2 : blockP pubK 2 pubN = pubB2 := by kernel_rfl
/-- bytes by exclusive or with others -/
def xorB (b B : List UInt8) : List UInt8 := (List.range b.length).map fun j => b.getD j 0 ^^^ B.getD j 0
theorem xorP_two {ky nc B1 B2 b : List UInt8} {c : BitVec 32} (h1 : blockP ky c nc = B1) (h2 : blockP ky (c + 1) nc = B2) (hl : B1.length = 64) (hb : b.length ≤ 128) : xorP ky c nc b = xorB b (B1 ++ B2) := by
  unfold xorP xorB
  apply List.map_congr_left
  intro j hj
  rw [List.mem_range] at hj
  congr 1
  unfold ksP
  by_cases h : j < 64
  · have e : j / 64 = 0 := by omega
    have e2 : j % 64 = j := by omega
    rw [e, e2, show c + BitVec.ofNat 32 0 = c by simp, h1]
    simp only [List.getD_eq_getElem?_getD]
    rw [List.getElem?_append_left (by omega)]
  · have e : j / 64 = 1 := by omega
    have e2 : j % 64 = j - 64 := by omega
    rw [e, e2, show c + BitVec.ofNat 32 1 = c + 1 from rfl, h2]
    simp only [List.getD_eq_getElem?_getD]
    rw [List.getElem?_append_right (by omega), hl]
set_option maxRecDepth 100000 in
theorem pub_xor : xorB pubT (pubB1 ++ pubB2) = pubC := by kernel_rfl
theorem pub_stream : streamL pubK pubN pubT = pubC := by
  unfold streamL
  rw [xorP_two pub_b1 pub_b2 rfl (by rw [pubT_len]; decide), pub_xor]
theorem pub_once : onceL pubK pubN = pubB0.take 32 := by unfold onceL; rw [pub_b0]
set_option maxRecDepth 100000 in
theorem pub_text : aeadT pubH pubC = pubX := by kernel_rfl
set_option maxRecDepth 100000 in
theorem pub_sum : tagL (pubB0.take 32) pubX = pubG := by kernel_rfl
theorem pub_tag : aeadTag pubK pubN pubH pubC = pubG := by unfold aeadTag; rw [pub_once, pub_text, pub_sum]
theorem pub_seal : sealL pubK pubN pubH pubT = pubC ++ pubG := by unfold sealL; rw [pub_stream, pub_tag]
theorem xorP_get2 {key nonce : List UInt8} {ctr : BitVec 32} {b : List UInt8} {j : Nat} (h : j < b.length) : (xorP key ctr nonce b)[j]? = some (b[j] ^^^ ksP key ctr nonce j) := by
  unfold xorP
  rw [List.getElem?_map, List.getElem?_range h]
  simp only [Option.map_some]
  rw [getD_eq h]
theorem xorP_back2 (key nonce : List UInt8) (ctr : BitVec 32) (b : List UInt8) : xorP key ctr nonce (xorP key ctr nonce b) = b := by
  apply List.ext_getElem?
  intro j
  rcases Nat.lt_or_ge j b.length with h | h
  · have h1 : j < (xorP key ctr nonce b).length := by rw [xorP_len]; exact h
    rw [xorP_get2 h1, List.getElem?_eq_getElem h]
    have e := xorP_get2 (key := key) (nonce := nonce) (ctr := ctr) h
    rw [List.getElem?_eq_getElem h1] at e
    rw [Option.some.inj e]
    congr 1
    rw [UInt8.xor_assoc, UInt8.xor_self, UInt8.xor_zero]
  · rw [List.getElem?_eq_none (by rw [xorP_len, xorP_len]; exact h), List.getElem?_eq_none h]
/-- what was sealed opens -/
theorem open_seal (ky nc head b : List UInt8) : openL ky nc head (sealL ky nc head b) = some b := by
  unfold openL
  rw [if_neg (by rw [sealL_len]; omega), sealL_len, Nat.add_sub_cancel]
  unfold sealL
  rw [List.take_left' (streamL_len _ _ _), List.drop_left' (streamL_len _ _ _), if_pos rfl]
  unfold streamL
  rw [xorP_back2]
/-- what opens is sealed to the same -/
theorem seal_open {ky nc head s p : List UInt8} (h : openL ky nc head s = some p) : sealL ky nc head p = s := by
  unfold openL at h
  split at h
  · cases h
  · split at h
    · rename_i h1 h2
      injection h with h; subst h
      unfold sealL streamL
      rw [xorP_back2, ← h2, List.take_append_drop]
    · cases h
end Go.Proofs.Ytklclbppdoahjaa
