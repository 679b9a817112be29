/- The reference's plus, trimmed. -/
import Derived.Test.YtkikdhjckjmolaaPs2
namespace Go.Proofs.Ytkikdhjckjmolaa
open Go.RowKit
attribute [local go_sem] yld yldUpon_value

theorem dgval_take_succ (l : List Nat) (k : Nat) : dgval (l.take (k + 1)) = dgval (l.take k) + 4 ^ k * l.getD k 0 := by
  rw [List.getD_eq_getElem?_getD]
  by_cases hl : k < l.length
  · rw [List.take_succ_eq_append_getElem hl, dgval_append, List.length_take, Nat.min_eq_left (by omega), List.getElem?_eq_getElem hl]
    simp [dgval]
  · rw [List.getElem?_eq_none (by omega), List.take_of_length_le (by omega), List.take_of_length_le (by omega)]; simp
theorem getD_leD {l : List Nat} {B : Nat} (h : ∀ x ∈ l, x ≤ B) (k : Nat) : l.getD k 0 ≤ B := by
  rw [List.getD_eq_getElem?_getD]
  by_cases hl : k < l.length
  · rw [List.getElem?_eq_getElem hl]; exact h _ (List.getElem_mem hl)
  · rw [List.getElem?_eq_none (by omega)]; exact Nat.zero_le _
theorem D4.le {l : List Nat} (h : D4 l) : ∀ x ∈ l, x ≤ 3 := fun x hx => by have := h x hx; omega
set_option maxRecDepth 100000 in
set_option maxHeartbeats 4000000 in
theorem plus_any {w : World} {F G : Nat → Prop} {A B : Option Addr} {n c m d : Nat} {a b : List Nat} (h : Dg w F A n c a) (h' : Dg w G B m d b) (hn : n ≤ 50000) (hm : m ≤ 50000) (ha : ∀ x ∈ a, x ≤ 3) (hb : ∀ x ∈ b, x ≤ 3) :
    Calls Try.prog 31 #[.slice A n c, .slice B m d] w fun e w' => ∃ A' n' c' r, e = .returned (.slice A' n' c') ∧ w'.ownsRow w.heap.size 3 1 (.slice A' n' c') n' (dg r) ∧ Below w.heap.size w w' ∧ D4 r ∧ dgval r = dgval a + dgval b ∧ n' ≤ max n m + 32 := by
  have H := Lib.hid h; have H' := Lib.hid h'; have HN := Lib.hid hn; have HM := Lib.hid hm; have HA := Lib.hid ha; have HB := Lib.hid hb
  have HL := Lib.hid h.len; have HL' := Lib.hid h'.len
  clear h h' ha hb
  obtain ⟨q, hq⟩ : ∃ q : Nat, (if n < m then m else n) = q := ⟨_, rfl⟩
  have hqI : (if n < m then (m : Int) else (n : Int)) = (q : Int) := by rw [← hq]; split <;> rfl
  have hqm : Hid (q = max n m) := by show _ = _; rw [← hq]; split <;> omega
  have hqb : q ≤ 50000 := by have := hqm.out; omega
  clear hq hn hm
  go_enter Try.func31, Try.ntmps31
  go_wp2_with fail
  go_loopw [5, 6] (fun out i wr => ∃ (k : Nat) (A' : Option Addr) (c' : Nat) (r : List Nat), k ≤ q ∧ i = .int .i64 (k : Nat) ∧ out = .slice A' k c' ∧
      Hid (wr.ownsRow w.heap.size 3 1 (.slice A' k c') k (dg r) ∧ Below w.heap.size w wr ∧ (∀ x ∈ r, x ≤ 6) ∧ dgval r = dgval (a.take k) + dgval (b.take k))) (fun _ i _ => q - (intOf i).toNat)
  case atStart => exact ⟨0, none, 0, [], Nat.zero_le _, rfl, rfl, Lib.hid ⟨World.ownsRow_nil _ _ _ _, Below.refl _ _, fun d hd => (by cases hd), by simp [dgval]⟩⟩
  case round =>
    obtain ⟨k, A1, c1, r, hk, rfl, rfl, I⟩ := hrel
    have hk0 : (0 : Int) ≤ (k : Int) := by omega
    have hrl : Hid (r.length = k) := by have := I.out.1.1; rw [dg_len] at this; show _ = _; omega
    by_cases hlt : k < q
    · have hkI : (k : Int) < (q : Int) := by omega
      have hkn5 : k ≤ 1000000 := by omega
      obtain ⟨x, hx⟩ : ∃ x, a.getD k 0 = x := ⟨_, rfl⟩
      obtain ⟨y, hy⟩ : ∃ y, b.getD k 0 = y := ⟨_, rfl⟩
      have DX := digit_any (H.out.belF I.out.2.1) k
      have DY := digit_any (H'.out.belF I.out.2.1) k
      rw [hx] at DX; rw [hy] at DY
      have hx3 : Hid (x ≤ 3) := by rw [← hx]; exact getD_leD HA.out k
      have hy3 : Hid (y ≤ 3) := by rw [← hy]; exact getD_leD HB.out k
      obtain ⟨v, hv⟩ : ∃ v, x + y = v := ⟨_, rfl⟩
      have hvI : (x : Int) + (y : Int) = (v : Int) := by omega
      have hv6 : v ≤ 6 := by have := hx3.out; have := hy3.out; omega
      have step : Hid (∀ w' : World, ∀ (A' : Option Addr) (c' : Nat), w'.ownsRow w.heap.size 3 1 (.slice A' (k + 1) c') (k + 1) (dg (r ++ [v])) → Fr (fun j => w.heap.size ≤ j) wr w' →
          (w'.ownsRow w.heap.size 3 1 (.slice A' (k + 1) c') (k + 1) (dg (r ++ [v])) ∧ Below w.heap.size w w' ∧ (∀ x ∈ r ++ [v], x ≤ 6) ∧ dgval (r ++ [v]) = dgval (a.take (k + 1)) + dgval (b.take (k + 1)))) := by
        intro w' A' c' ho hf
        refine ⟨ho, ((Fr.of_below I.out.2.1).trans hf (fun i _ h => h)).to_below (fun i hi e => by omega), ?_, ?_⟩
        · intro d hd
          rcases List.mem_append.1 hd with hd | hd
          · exact I.out.2.2.1 d hd
          · simp at hd; omega
        · rw [dgval_append, hrl.out, I.out.2.2.2, dgval_take_succ, dgval_take_succ, hx, hy, ← hv]
          simp only [dgval, Nat.mul_zero, Nat.add_zero, Nat.mul_add]
          omega
      have HQ := Lib.hid hlt
      clear hx hy hv
      go_wp2_with fail
      refine DX.mono ?_
      rintro e w' ⟨rfl, rfl⟩
      go_wp2_with fail
      refine DY.mono ?_
      rintro e w' ⟨rfl, rfl⟩
      go_wp2_with (first
        | (at_builtin
           refine append_int (v := .int .i64 (v : Int)) (.tmp 16) (.tmp 24) rfl rfl w.heap.size A1 k c1 (dg r) rfl wr rfl rfl I.out.1 rfl hkn5 I.out.2.1.size ?_
           intro A2 c2 w2 ho hf
           have S2 := Lib.hid (step.out w2 A2 c2 (by rw [dg_append]; exact ho) hf)
           clear ho hf))
      go_roundw
      case rel => exact ⟨k + 1, A2, c2, r ++ [v], by have := HQ.out; omega, by go_num, rfl, S2⟩
      case measure => simp [intOf]; have := HQ.out; omega
    · have hkI : ¬ (k : Int) < (q : Int) := by omega
      have hkq : k = q := by omega
      have hall : Hid (dgval r = dgval a + dgval b) := by
        show _ = _
        rw [I.out.2.2.2, List.take_of_length_le (by have := HL.out; have := hqm.out; omega), List.take_of_length_le (by have := HL'.out; have := hqm.out; omega)]
      have O := Lib.hid I.out.1; have Bw := Lib.hid I.out.2.1; have R6 := Lib.hid I.out.2.2.1
      clear I hkq
      go_wp2_with fail
      refine (carried_any (Dg.of_own O.out) (fun _ h => h.2) (by omega) (fun x hx => Nat.le_trans (R6.out x hx) (by decide))).mono ?_
      rintro e w2 ⟨A2, n2, c2, r2, rfl, ho2, hb2, hd2, hv2, hn2⟩
      have O2 := Lib.hid ho2; have B2 := Lib.hid hb2; have D2 := Lib.hid hd2; have V2 := Lib.hid (hv2.trans hall.out); have N2 := Lib.hid hn2
      clear ho2 hb2 hd2 hv2 hn2
      go_wp2_with fail
      go_ret
      exact ⟨A2, n2, c2, r2, rfl, own_mono O2.out Bw.out.size, Below.tr Bw.out B2.out, D2.out, V2.out, by have := N2.out; have := hqm.out; omega⟩
end Go.Proofs.Ytkikdhjckjmolaa
