/- A frame's bytes. -/
import Derived.Test.YtmdnlgfngpgfnaaDoorFr1
import Derived.Test.YtmdnlgfngpgfnaaDoorArr
namespace Go.Proofs.YtmdnlgfngpgfnaaDoor
open Go.RowKit

/-- four bytes, the highest first -/
def be4 (n : BitVec 32) : List UInt8 := [UInt8.ofNat (n.toNat / 16777216), UInt8.ofNat (n.toNat / 65536), UInt8.ofNat (n.toNat / 256), UInt8.ofNat n.toNat]

theorem be4_cells (n : BitVec 32) : bs (be4 n) = [.int .u8 (wv n / 16777216 % 256), .int .u8 (wv n / 65536 % 256), .int .u8 (wv n / 256 % 256), .int .u8 (wv n % 256)] := by
  have e : ∀ x : Nat, ((UInt8.ofNat x).toNat : Int) = (x : Int) % 256 := fun x => by rw [UInt8.toNat_ofNat']; omega
  simp only [be4, bs, bv, List.map_cons, List.map_nil, e, wv]
  rfl
set_option maxHeartbeats 1000000 in
theorem four_any {w : World} {base : Nat} {A : Option Addr} {m c : Nat} {l : List UInt8} (hown : w.ownsRow base 5 1 (.slice A m c) m (bs l)) (n : BitVec 32) (hm : m ≤ 140737488355000) (hbase : base ≤ w.heap.size) :
    Calls Tryd.prog 30 #[.slice A m c, .int .u32 (wv n)] w fun e w' => ∃ A' c', e = .returned (.slice A' (m + 4) c') ∧ w'.ownsRow base 5 1 (.slice A' (m + 4) c') (m + 4) (bs (l ++ be4 n)) ∧
      Fr (fun j => (Value.slice A m c).ownBlock = some j) w w' ∧ ∀ j, (Value.slice A' (m + 4) c').ownBlock = some j → (Value.slice A m c).ownBlock = some j ∨ w.heap.size ≤ j := by
  have Hown := Lib.hid hown; clear hown
  go_enter Tryd.func30, Tryd.ntmps30
  have hrd : Hid (Rd (w.alloc (.cells #[.int .u8 (wv n / 16777216 % 256), .int .u8 (wv n / 65536 % 256), .int .u8 (wv n / 256 % 256), .int .u8 (wv n % 256)] 5)) (some ⟨w.heap.size, 0, none⟩) (bs (be4 n))) := by
    rw [be4_cells]
    exact Rd.of_block (heap_alloc_new w (.cells #[.int .u8 (wv n / 16777216 % 256), .int .u8 (wv n / 65536 % 256), .int .u8 (wv n / 256 % 256), .int .u8 (wv n % 256)] 5))
  have Hb : Hid (m + 4 ≤ 140737488355328 ∧ base ≤ (w.alloc (.cells #[.int .u8 (wv n / 16777216 % 256), .int .u8 (wv n / 65536 % 256), .int .u8 (wv n / 256 % 256), .int .u8 (wv n % 256)] 5)).heap.size) := ⟨by omega, by simp; omega⟩
  go_wp2_with (at_builtin; refine append_bytes rfl _ _ rfl base A m c l rfl (Hown.out.alloc _) (some ⟨w.heap.size, 0, none⟩) 4 4 (be4 n) rfl rfl hrd.out Hb.out.1 Hb.out.2 ?_; intro A1 c1 w1 hown1 hg1 hat1)
  go_ret
  refine ⟨A1, c1, rfl, hown1, ((Fr.refl _ _).alloc _).trans (Fr.of_grown hg1) (fun j _ e => e.symm), fun j hj => ?_⟩
  rcases hat1 with e | e
  · left; rw [← e]; exact hj
  · right; rw [e] at hj; injection hj with hj; rw [← hj]; simp
end Go.Proofs.YtmdnlgfngpgfnaaDoor
