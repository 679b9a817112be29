/- The reference's trimmed, times. -/
import Derived.Test.YtkikdhjckjmolaaPs3
import Derived.Test.YtkikdhjckjmolaaOrd3
namespace Go.Proofs.Ytkikdhjckjmolaa
open Go.RowKit
attribute [local go_sem] yld yldUpon_value

theorem dgval_trim {l : List Nat} {m : Nat} (h : ∀ j, m ≤ j → l.getD j 0 = 0) : dgval (l.take m) = dgval l := by
  by_cases hm : m ≤ l.length
  · rw [dgval_take_drop l m hm, dgval_zero (l.drop m) (fun d hd => by
      obtain ⟨j, hj, rfl⟩ := List.getElem_of_mem hd
      rw [List.length_drop] at hj
      have := h (m + j) (by omega)
      rw [List.getD_eq_getElem?_getD, List.getElem?_eq_getElem (by omega)] at this
      rw [List.getElem_drop]; exact this)]
    simp
  · rw [List.take_of_length_le (by omega)]
theorem dgval_top {l : List Nat} {m : Nat} (hm : 0 < m) (h : l.getD (m - 1) 0 ≠ 0) : 4 ^ (m - 1) ≤ dgval (l.take m) := by
  have h1 := dgval_take_succ l (m - 1)
  rw [show m - 1 + 1 = m by omega] at h1
  rw [h1]
  have : 4 ^ (m - 1) * 1 ≤ 4 ^ (m - 1) * l.getD (m - 1) 0 := Nat.mul_le_mul_left _ (Nat.one_le_iff_ne_zero.2 h)
  omega
set_option maxHeartbeats 2000000 in
theorem trimmed_any {w : World} {F : Nat → Prop} {A : Option Addr} {n c : Nat} {l : List Nat} (h : Dg w F A n c l) (hn : n ≤ 100000) :
    Calls Try.prog 35 #[.slice A n c] w fun e w' => (∃ m, e = .returned (.slice A m c) ∧ m ≤ n ∧ (m = 0 ∨ l.getD (m - 1) 0 ≠ 0) ∧ dgval (l.take m) = dgval l) ∧ w = w' := by
  have H := Lib.hid h; have HL := Lib.hid h.len; have HC := Lib.hid h.cap
  clear h
  go_enter Try.func35, Try.ntmps35
  go_wp2_with fail
  go_loopw [3] (fun i wr => ∃ k : Nat, k ≤ n ∧ i = .int .i64 (k : Nat) ∧ Hid (∀ j, k ≤ j → l.getD j 0 = 0) ∧ w = wr) (fun i _ => (intOf i).toNat)
  case atStart => exact ⟨n, Nat.le_refl _, rfl, Lib.hid (fun j hj => by rw [List.getD_eq_getElem?_getD, List.getElem?_eq_none (by have := HL.out; omega)]; rfl), rfl⟩
  case round =>
    obtain ⟨k, hk, rfl, I, rfl⟩ := hrel
    by_cases hlt : 0 < k
    · obtain ⟨k', rfl⟩ : ∃ k', k = k' + 1 := ⟨k - 1, by omega⟩
      obtain ⟨kk, hkk⟩ : ∃ kk, k' + 1 = kk := ⟨_, rfl⟩
      rw [hkk] at hlt hk I ⊢
      have hk1 : (kk : Int) - 1 = (k' : Int) := by omega
      have hkI : (0 : Int) < (kk : Int) := by omega
      have hkI0 : (0 : Int) ≤ (k' : Int) := by omega
      have hkn : (k' : Int) < (n : Int) := by omega
      obtain ⟨b, o, rfl, _, hc⟩ := H.out.at_ k' (by have := HL.out; omega)
      have hg : l.getD k' 0 = l[k']'(by have := HL.out; omega) := by simp [List.getD, show k' < l.length by have := HL.out; omega]
      have HK := Lib.hid hkk
      generalize l[k']'(by have := HL.out; omega) = d at hc hg
      have HG := Lib.hid hg
      have hkb : kk ≤ 100000 := by omega
      clear hkk hg hlt
      by_cases hd : d = 0
      · subst hd
        go_wp2_with fail
        go_roundw
        case rel => exact ⟨k', by have := HK.out; omega, rfl, Lib.hid (fun j hj => by
          by_cases e : j = k'
          · rw [e, HG.out]
          · exact I.out j (by have := HK.out; omega)), by first | rfl | trivial⟩
        case measure => simp [intOf]; have := HK.out; omega
      · have hdI : ((d : Int) == 0) = false := by simp; omega
        have hmc : kk ≤ c := by have := HC.out; omega
        have hcI : (kk : Int) ≤ (c : Int) := by omega
        have HD := Lib.hid hd
        clear hd
        go_wp2_with fail
        go_ret
        exact ⟨⟨kk, rfl, by have := HK.out; omega, .inr (by rw [show kk - 1 = k' by have := HK.out; omega, HG.out]; exact HD.out), dgval_trim I.out⟩, rfl⟩
    · have hk0 : k = 0 := by omega
      subst hk0
      go_wp2_with fail
      go_ret
      exact ⟨⟨0, rfl, Nat.zero_le _, .inl rfl, dgval_trim I.out⟩, rfl⟩
end Go.Proofs.Ytkikdhjckjmolaa
