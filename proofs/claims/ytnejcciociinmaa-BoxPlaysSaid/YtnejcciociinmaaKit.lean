import Derived.Test.YtnejcciociinmaaBase
namespace Go.Proofs.Ytnejcciociinmaa
open Go.RowKit

theorem take_succ_eq {l l' : List UInt8} {k : Nat} (h : k < l.length) (h' : k < l'.length) (ht : l.take k = l'.take k) (he : l[k] = l'[k]) : l.take (k+1) = l'.take (k+1) := by
  rw [List.take_succ_eq_append_getElem h, List.take_succ_eq_append_getElem h', ht, he]
theorem byte_eq {a b : UInt8} : ((a.toNat : Int) == (b.toNat : Int)) = (a == b) := by
  rw [Bool.eq_iff_iff]; simp only [beq_iff_eq]
  constructor
  · intro h; exact UInt8.toNat_inj.1 (by omega)
  · rintro rfl; rfl

set_option maxHeartbeats 400000 in
theorem SameBytes_any (A A' : Option Addr) (n n' c c' : Nat) (l l' : List UInt8) (w : World) (hn : l.length = n) (hn' : l'.length = n') (h : Rd w A (bs l)) (h' : Rd w A' (bs l')) (hl : l.length ≤ 9223372036854775807) (hl' : l'.length ≤ 9223372036854775807) :
    Calls Try.prog 15 #[.slice A n c, .slice A' n' c'] w fun e w' => e = .returned (.bool (l == l')) ∧ ∃ k, w' = w.drewN k := by
  subst hn hn'
  have H := Lib.hid h; have H' := Lib.hid h'; clear h h'
  by_cases hne : l.length = l'.length
  · have Hne := Lib.hid hne
    go_enter Try.func15, Try.ntmps15
    have hne1 : ((l.length : Int) != (l'.length : Int)) = false := by simp [hne]
    clear hne
    go_wp2
    have Hne1 := Lib.hid hne1; clear hne1
    go_loopw [5] (fun i w' => ∃ k m : Nat, k ≤ l.length ∧ i = .int .i64 k ∧ l.take k = l'.take k ∧ w' = w.drewN m) (fun i _ => l.length - (intOf i).toNat)
    case atStart => exact ⟨0, 0, Nat.zero_le _, rfl, rfl, rfl⟩
    case round =>
      obtain ⟨k, m, hk, rfl, ht, rfl⟩ := hrel
      have Ht := Lib.hid ht; clear ht
      by_cases hlt : k < l.length
      · have hlt' : k < l'.length := by have := Hne.out; omega
        obtain ⟨ad, rfl, hc⟩ := H.out.at_ hlt
        obtain ⟨ad', rfl, hc'⟩ := H'.out.at_ hlt'
        have hlI : (k : Int) < l.length := by omega
        have hlI' : (k : Int) < l'.length := by omega
        have hkI : (0 : Int) ≤ (k : Int) := by omega
        by_cases he : l[k] = l'[k]
        · have Hts := Lib.hid (take_succ_eq hlt hlt' Ht.out he)
          have heq : ((l[k].toNat : Int) == (l'[k].toNat : Int)) = true := by rw [byte_eq]; simpa using he
          clear he
          go_wp2
          go_quiet (fail)
          have Heq := Lib.hid heq; clear heq
          go_wp2
          go_roundw
          case rel => exact ⟨k + 1, m + nq, by omega, by go_num, Hts.out, rfl⟩
          case measure => simp [intOf]; omega
        · have heq : ((l[k].toNat : Int) == (l'[k].toNat : Int)) = false := by rw [byte_eq]; simpa using he
          have Hnot : Hid ((l == l') = false) := by
            show (l == l') = false
            simp only [beq_eq_false_iff_ne, ne_eq]; rintro rfl; exact he rfl
          clear he
          go_wp2
          go_quiet (fail)
          go_wp2
          go_ret
          exact ⟨ret_bool Hnot.out.symm, m + nq, drewN_add _ _ _⟩
      · have hkl : k = l.length := by omega
        have Hyes : Hid ((l == l') = true) := by
          show (l == l') = true
          have h1 := Ht.out
          have := Hne.out
          rw [List.take_of_length_le (by omega), List.take_of_length_le (by omega)] at h1
          simp [h1]
        clear hkl
        go_wp2
        go_ret
        exact ⟨ret_bool Hyes.out.symm, m, rfl⟩
  · have Hnot : Hid ((l == l') = false) := by
      show (l == l') = false
      simp only [beq_eq_false_iff_ne, ne_eq]; rintro rfl; exact hne rfl
    have hne1 : ((l.length : Int) != (l'.length : Int)) = true := by simp; omega
    go_enter Try.func15, Try.ntmps15
    go_wp2
    go_ret
    exact ⟨ret_bool Hnot.out.symm, 0, rfl⟩

set_option maxHeartbeats 400000 in
theorem CopyBytes_any (A : Option Addr) (n c : Nat) (l : List UInt8) (w : World) (hn : l.length = n) (h : Rd w A (bs l)) (hA : ∀ ad, A = some ad → bs l ≠ [] → ad.block < w.heap.size) (hl : l.length ≤ 140737488355328) :
    Calls Try.prog 21 #[.slice A n c] w fun e w' => ∃ A' c', e = .returned (.slice A' n c') ∧ w'.ownsRow w.heap.size 5 1 (.slice A' n c') n (bs l) ∧ Below w.heap.size w w' := by
  subst hn
  have H := Lib.hid h; have HA := Lib.hid hA; clear h hA
  obtain ⟨i0, hi, hz0, hz1, hz2⟩ := info_parts Try.infoB
  go_enter Try.func21, Try.ntmps21
  go_wp2
  go_loopw [3, 4] (fun v i wr => ∃ k A' c', k ≤ l.length ∧ v = .slice A' k c' ∧ i = .int .i64 (k : Nat) ∧ wr.ownsRow w.heap.size 5 1 (.slice A' k c') k (bs (l.take k)) ∧ Below w.heap.size w wr) (fun _ i _ => l.length - (intOf i).toNat)
  case atStart => exact ⟨0, none, 0, Nat.zero_le _, rfl, rfl, World.ownsRow_nil _ _ _ _, Below.refl _ _⟩
  case round =>
    obtain ⟨k, A', c', hk, rfl, rfl, hown, hbw⟩ := hrel
    by_cases hlt : k < l.length
    · obtain ⟨ad, rfl, hc⟩ := (H.out.below HA.out hbw).at_ hlt
      have hlI : (k : Int) < l.length := by omega
      have hkI : (0 : Int) ≤ (k : Int) := by omega
      have hs := hbw.size
      have hts := Lib.hid (bs_take_succ hlt)
      go_wp2_with (at_builtin; refine wpList_append_own _ rfl _ _ 22 rfl w.heap.size 5 i0 (.int .u8 0) 1 1 Try.underlying22 hi hz0 hz1 hz2 rfl (by decide) _ _ _ rfl (hown.alloc _) ⟨wr.heap.size, 0, none⟩ 1 1 [.int .u8 (l[k].toNat : Int)] rfl rfl (new_one _ _ _) (one_oneCell _ _) (by simp only [maxLen]; omega) (by omega) (by simp; omega) ?_; intro v' w1 hown1 hgrow _; obtain ⟨A1, c1, rfl⟩ := own_slice hown1)
      go_roundw
      case rel => exact ⟨k + 1, A1, c1, by omega, rfl, by go_num, by rw [hts.out]; exact hown1, (hbw.alloc hs _).grown hgrow (by simp; omega) (fun g hg => (hown.lt g hg).1)⟩
      case measure => simp [intOf]; omega
    · have hkl : k = l.length := by omega
      subst hkl
      go_wp2
      go_ret
      exact ⟨A', c', rfl, by simpa using hown, hbw⟩
end Go.Proofs.Ytnejcciociinmaa
