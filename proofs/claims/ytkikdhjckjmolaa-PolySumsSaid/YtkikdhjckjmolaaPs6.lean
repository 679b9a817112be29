/- The reference's p, below. -/
import Derived.Test.YtkikdhjckjmolaaPs5
namespace Go.Proofs.Ytkikdhjckjmolaa
open Go.RowKit
attribute [local go_sem] yld yldUpon_value

def pD : List Nat := 3 :: 2 :: List.replicate 63 3
theorem pD_val : dgval pD = 1361129467683753853853498429727072845819 := by decide +kernel
theorem pD_len : pD.length = 65 := rfl
theorem pD_le : ∀ x ∈ pD, x ≤ 3 := by decide
theorem pD_set : (List.replicate 65 3).set 1 2 = pD := by decide
set_option maxHeartbeats 2000000 in
theorem p_any (w : World) : Calls Try.prog 38 #[] w fun e w' => ∃ A c, e = .returned (.slice A 65 c) ∧ w'.ownsRow w.heap.size 3 1 (.slice A 65 c) 65 (dg pD) ∧ Below w.heap.size w w' := by
  go_enter Try.func38, Try.ntmps38
  go_wp2_with fail
  go_loopw [1, 2] (fun out i wr => ∃ (k : Nat) (A' : Option Addr) (c' : Nat), k ≤ 65 ∧ i = .int .i64 (k : Nat) ∧ out = .slice A' k c' ∧ Hid (wr.ownsRow w.heap.size 3 1 (.slice A' k c') k (dg (List.replicate k 3)) ∧ Below w.heap.size w wr)) (fun _ i _ => 65 - (intOf i).toNat)
  case atStart => exact ⟨0, none, 0, by omega, rfl, rfl, World.ownsRow_nil _ _ _ _, Below.refl _ _⟩
  case round =>
    obtain ⟨k, A1, c1, hk, rfl, rfl, I⟩ := hrel
    have hk0 : (0 : Int) ≤ (k : Int) := by omega
    by_cases hlt : k < 65
    · have hkI : (k : Int) < 65 := by omega
      have hkn5 : k ≤ 1000000 := by omega
      have HK := Lib.hid hlt
      go_wp2_with (first
        | (at_builtin
           refine append_int (v := .int .i64 3) (.tmp 7) (.tmp 8) rfl rfl w.heap.size A1 k c1 (dg (List.replicate k 3)) rfl wr rfl rfl I.out.1 rfl hkn5 I.out.2.size ?_
           intro A2 c2 w2 ho hf
           have S2 : Hid (w2.ownsRow w.heap.size 3 1 (.slice A2 (k + 1) c2) (k + 1) (dg (List.replicate (k + 1) 3)) ∧ Below w.heap.size w w2) :=
             ⟨by rw [List.replicate_succ', dg_append]; exact ho, ((Fr.of_below I.out.2).trans hf (fun i _ h => h)).to_below (fun i hi e => by omega)⟩
           clear ho hf))
      go_roundw
      case rel => exact ⟨k + 1, A2, c2, by have := HK.out; omega, by go_num, rfl, S2⟩
      case measure => simp [intOf]; have := HK.out; omega
    · have hk65 : k = 65 := by omega
      subst hk65
      obtain ⟨g, cap, hv, _, _⟩ := I.out.1.form (by decide)
      injection hv with hA1 _ hc1
      subst hA1 hc1
      have hcell : wr.cell? ⟨g, 1, none⟩ = some (.int .i64 3) := by rw [I.out.1.cellAt 1 (by decide)]; rfl
      have hfz := I.out.1.frozenAt 1
      have hs := I.out.1.stored 1 (.int .i64 2)
      have S2 : Hid ((wr.setCell ⟨g, 1, none⟩ (.int .i64 2)).ownsRow w.heap.size 3 1 (.slice (some ⟨g, 0, none⟩) 65 c1) 65 (dg pD) ∧ Below w.heap.size w (wr.setCell ⟨g, 1, none⟩ (.int .i64 2))) :=
        ⟨by rw [← pD_set, ← dg_set]; exact hs.1, I.out.2.grown hs.2 I.out.2.size (fun j hj => (I.out.1.lt j (by rw [← hj]; rfl)).1)⟩
      clear hs
      go_wp2_with fail
      go_ret
      exact ⟨some ⟨g, 0, none⟩, c1, rfl, S2.out.1, S2.out.2⟩
theorem dgval_ext {a b : List Nat} (h : ∀ j, a.getD j 0 = b.getD j 0) : dgval a = dgval b := by
  induction a generalizing b with
  | nil =>
    rw [dgval_zero b (fun d hd => by
      obtain ⟨j, hj, rfl⟩ := List.getElem_of_mem hd
      have := h j
      rw [List.getD_eq_getElem?_getD, List.getD_eq_getElem?_getD, List.getElem?_eq_getElem hj] at this
      simpa using this.symm)]
    rfl
  | cons x a ih =>
    cases b with
    | nil =>
      rw [dgval_zero (x :: a) (fun d hd => by
        obtain ⟨j, hj, rfl⟩ := List.getElem_of_mem hd
        have := h j
        rw [List.getD_eq_getElem?_getD, List.getD_eq_getElem?_getD, List.getElem?_eq_getElem hj] at this
        simpa using this)]
      rfl
    | cons y b =>
      have h0 := h 0
      simp at h0
      rw [dgval, dgval, h0, ih (b := b) (fun j => by have := h (j + 1); simpa using this)]
theorem dgval_split (l : List Nat) (i : Nat) : dgval l = dgval (l.take i) + 4 ^ i * l.getD i 0 + 4 ^ (i + 1) * dgval (l.drop (i + 1)) := by
  rw [← dgval_take_succ]
  by_cases h : i + 1 ≤ l.length
  · exact dgval_take_drop l (i + 1) h
  · rw [List.take_of_length_le (by omega), List.drop_eq_nil_of_le (by omega)]; simp [dgval]
theorem dgval_take_lt {l : List Nat} (h : ∀ x ∈ l, x ≤ 3) (i : Nat) : dgval (l.take i) < 4 ^ i := by
  have h1 : D4 (l.take i) := fun d hd => by have := h d (List.mem_of_mem_take hd); omega
  have h2 := dgval_lt h1
  rw [List.length_take] at h2
  exact Nat.lt_of_lt_of_le h2 (Nat.pow_le_pow_right (by decide) (Nat.min_le_left _ _))
theorem dgval_cmp {a b : List Nat} (ha : ∀ x ∈ a, x ≤ 3) {i : Nat} (hu : ∀ j, i < j → a.getD j 0 = b.getD j 0) (hne : a.getD i 0 < b.getD i 0) : dgval a < dgval b := by
  have e : dgval (a.drop (i + 1)) = dgval (b.drop (i + 1)) := dgval_ext fun j => by
    have := hu (i + 1 + j) (by omega)
    simp only [List.getD_eq_getElem?_getD, List.getElem?_drop] at this ⊢
    exact this
  rw [dgval_split a i, dgval_split b i, e]
  have h1 := dgval_take_lt ha i
  have h2 : 4 ^ i * (a.getD i 0 + 1) ≤ 4 ^ i * b.getD i 0 := Nat.mul_le_mul_left _ hne
  rw [Nat.mul_add] at h2
  omega
set_option maxHeartbeats 4000000 in
theorem below_any {w : World} {F : Nat → Prop} {A : Option Addr} {n c : Nat} {l : List Nat} (h : Dg w F A n c l) (hn : n ≤ 100000) (hd : ∀ x ∈ l, x ≤ 3) :
    Calls Try.prog 36 #[.slice A n c] w fun e w' => e = .returned (.bool (decide (dgval l < 1361129467683753853853498429727072845819))) ∧ Below w.heap.size w w' := by
  have H := Lib.hid h; have HL := Lib.hid h.len; have HD := Lib.hid hd
  clear h hd
  obtain ⟨M, hM⟩ : ∃ M : Nat, (if n < 65 then 65 else n) = M := ⟨_, rfl⟩
  have hMI : (if (n : Int) < 65 then (65 : Int) else (n : Int)) = (M : Int) := by rw [← hM]; split <;> split <;> omega
  have HM : Hid (n ≤ M ∧ 65 ≤ M) := by show _ ∧ _; rw [← hM]; split <;> omega
  have hMb : M ≤ 100000 := by rw [← hM]; split <;> omega
  clear hM hn
  go_enter Try.func36, Try.ntmps36
  go_wp2_with fail
  refine (p_any w).mono ?_
  rintro e w1 ⟨PA, pc, rfl, ho, hb⟩
  have P := Lib.hid (Dg.of_own ho); have B1 := Lib.hid hb
  have H1 := Lib.hid (H.out.belF hb)
  clear ho hb
  go_wp2_with fail
  go_loopw [4] (fun z wr => ∃ k : Nat, k ≤ M ∧ z = .int .i64 ((k : Int) - 1) ∧ Hid (∀ j, k ≤ j → l.getD j 0 = pD.getD j 0) ∧ w1 = wr) (fun z _ => (intOf z + 1).toNat)
  case atStart => exact ⟨M, Nat.le_refl _, rfl, Lib.hid (fun j hj => by
    rw [List.getD_eq_getElem?_getD, List.getD_eq_getElem?_getD, List.getElem?_eq_none (by have := HL.out; have := HM.out; omega), List.getElem?_eq_none (by rw [pD_len]; have := HM.out; omega)]), rfl⟩
  case round =>
    obtain ⟨k, hk, rfl, I, rfl⟩ := hrel
    by_cases hlt : 0 < k
    · obtain ⟨k', rfl⟩ : ∃ k', k = k' + 1 := ⟨k - 1, by omega⟩
      obtain ⟨kk, hkk⟩ : ∃ kk, k' + 1 = kk := ⟨_, rfl⟩
      rw [hkk] at hlt hk I ⊢
      have hk1 : (kk : Int) - 1 = (k' : Int) := by omega
      have hkI0 : (0 : Int) ≤ (k' : Int) := by omega
      have hkb : k' ≤ 100000 := by omega
      have HK := Lib.hid hkk
      have DX := digit_any H1.out k'
      have DY := digit_any P.out k'
      obtain ⟨x, hx⟩ : ∃ x, l.getD k' 0 = x := ⟨_, rfl⟩
      obtain ⟨y, hy⟩ : ∃ y, pD.getD k' 0 = y := ⟨_, rfl⟩
      rw [hx] at DX; rw [hy] at DY
      have HX := Lib.hid hx; have HY := Lib.hid hy; have HKM := Lib.hid hk
      rw [hk1]
      clear hkk hlt hk hx hy hk1
      by_cases hxy : x = y
      · have hxyI : ((x : Int) != (y : Int)) = false := by simp [hxy]
        have hxe := Lib.hid hxy
        clear hxy
        go_wp2_with fail
        refine DX.mono ?_
        rintro e w' ⟨rfl, rfl⟩
        go_wp2_with fail
        refine DY.mono ?_
        rintro e w' ⟨rfl, rfl⟩
        go_wp2_with fail
        go_roundw
        case rel => exact ⟨k', by have := HK.out; have := HKM.out; omega, rfl, Lib.hid (fun j hj => by
          by_cases e : j = k'
          · rw [e, HX.out, HY.out, hxe.out]
          · exact I.out j (by have := HK.out; omega)), by first | rfl | trivial⟩
        case measure => simp [intOf]
      · have hxyI : ((x : Int) != (y : Int)) = true := by simp; omega
        have hres : Hid (decide (dgval l < 1361129467683753853853498429727072845819) = decide ((x : Int) < (y : Int))) := by
          show _ = _
          rw [← pD_val]
          have hu : ∀ j, k' < j → l.getD j 0 = pD.getD j 0 := fun j hj => I.out j (by have := HK.out; omega)
          rcases Nat.lt_or_ge x y with h | h
          · rw [decide_eq_true (dgval_cmp HD.out hu (by rw [HX.out, HY.out]; exact h)), decide_eq_true (by omega)]
          · have h2 := dgval_cmp pD_le (fun j hj => (hu j hj).symm) (show pD.getD k' 0 < l.getD k' 0 by rw [HX.out, HY.out]; omega)
            rw [decide_eq_false (by omega), decide_eq_false (by omega)]
        clear hxy
        go_wp2_with fail
        refine DX.mono ?_
        rintro e w' ⟨rfl, rfl⟩
        go_wp2_with fail
        refine DY.mono ?_
        rintro e w' ⟨rfl, rfl⟩
        go_wp2_with fail
        refine DX.mono ?_
        rintro e w' ⟨rfl, rfl⟩
        go_wp2_with fail
        refine DY.mono ?_
        rintro e w' ⟨rfl, rfl⟩
        go_wp2_with fail
        go_ret
        exact ⟨by rw [hres.out]; simp, B1.out⟩
    · have hk0 : k = 0 := by omega
      subst hk0
      have hres : Hid (decide (dgval l < 1361129467683753853853498429727072845819) = false) := by
        show _ = _
        rw [dgval_ext (a := l) (b := pD) (fun j => I.out j (Nat.zero_le _)), pD_val]; decide
      go_wp2_with fail
      go_ret
      exact ⟨by rw [hres.out]; rfl, B1.out⟩
end Go.Proofs.Ytkikdhjckjmolaa
