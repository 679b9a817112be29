/- Row: so many bytes. -/
import Derived.Test.YtobbcnajmocpfaaMem
namespace Go.Proofs.Ytobbcnajmocpfaa
open Go.RowKit

def rowL (n : Nat) : List UInt8 := (List.range n).map fun i => UInt8.ofNat ((7 + i) % 251)
theorem rowL_len (n : Nat) : (rowL n).length = n := by simp [rowL]
theorem rowL_succ (n : Nat) : bs (rowL (n + 1)) = bs (rowL n) ++ [.int .u8 (((7 + n) % 251 : Nat) : Int)] := by
  simp only [rowL, List.range_succ, List.map_append, List.map_cons, List.map_nil, bs, bv]
  congr 3
  rw [UInt8.toNat_ofNat', Nat.mod_eq_of_lt (by simp; omega)]

set_option maxHeartbeats 400000 in
theorem Row_any (n : Nat) (w : World) (hn : n ≤ 1000000) :
    Calls Try.prog 23 #[.int .i64 (n : Int)] w fun e w' => ∃ A' c', e = .returned (.slice A' n c') ∧ w'.ownsRow w.heap.size 5 1 (.slice A' n c') n (bs (rowL n)) ∧ Below w.heap.size w w' := by
  obtain ⟨i0, hi, hz0, hz1, hz2⟩ := info_parts Try.infoB
  go_enter Try.func23, Try.ntmps23
  go_wp2_with fail
  go_loopw [3, 4] (fun v i wr => ∃ k A' c', k ≤ n ∧ v = .slice A' k c' ∧ i = .int .i64 (k : Nat) ∧ wr.ownsRow w.heap.size 5 1 (.slice A' k c') k (bs (rowL k)) ∧ Below w.heap.size w wr) (fun _ i _ => n - (intOf i).toNat)
  case atStart => exact ⟨0, none, 0, Nat.zero_le _, rfl, rfl, World.ownsRow_nil _ _ _ _, Below.refl _ _⟩
  case round =>
    obtain ⟨k, A', c', hk, rfl, rfl, hown, hbw⟩ := hrel
    by_cases hlt : k < n
    · have hlI : (k : Int) < n := by omega
      have hkI : (0 : Int) ≤ (k : Int) := by omega
      have hs := hbw.size
      have hmd : (7 + (k : Int)).tmod 251 = (((7 + k) % 251 : Nat) : Int) := (Int.ofNat_tmod (7 + k) 251).symm
      have hm2 : ((((7 + k) % 251 : Nat) : Int)) % 256 = (((7 + k) % 251 : Nat) : Int) := by omega
      have hts := Lib.hid (rowL_succ k)
      go_wp2_with (at_builtin; refine wpList_append_own _ rfl _ _ 31 rfl w.heap.size 5 i0 (.int .u8 0) 1 1 Try.underlying31 hi hz0 hz1 hz2 rfl (by decide) _ _ _ rfl (hown.alloc _) ⟨wr.heap.size, 0, none⟩ 1 1 [.int .u8 (((7 + k) % 251 : Nat) : Int)] rfl rfl (new_one _ _ _) (one_oneCell _ _) (by simp only [maxLen]; omega) (by omega) (by simp; omega) ?_; intro v' w1 hown1 hgrow _; obtain ⟨A1, c1, rfl⟩ := own_slice hown1)
      go_roundw
      case rel => exact ⟨k + 1, A1, c1, by omega, rfl, by go_num, by rw [hts.out]; exact hown1, (hbw.alloc hs _).grown hgrow (by simp; omega) (fun g hg => (hown.lt g hg).1)⟩
      case measure => simp [intOf]; omega
    · have hkl : k = n := by omega
      subst hkl
      go_wp2_with fail
      go_ret
      exact ⟨A', c', rfl, hown, hbw⟩
end Go.Proofs.Ytobbcnajmocpfaa
