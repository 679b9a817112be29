/- The reference's digit, carried. -/
import Derived.Test.YtkikdhjckjmolaaPs1
namespace Go.Proofs.Ytkikdhjckjmolaa
open Go.RowKit
attribute [local go_sem] yld yldUpon_value

theorem Try.infoZ : (Try.prog.info? 3).map (fun i => (i.zero, i.size, i.bytes)) = some (some (.int .i64 0), 1, 8) := by kernel_rfl
set_option maxHeartbeats 1000000 in
theorem digit_any {w : World} {F : Nat → Prop} {A : Option Addr} {n c : Nat} {l : List Nat} (h : Dg w F A n c l) (i : Nat) :
    Calls Try.prog 32 #[.slice A n c, .int .i64 (i : Int)] w fun e w' => e = .returned (.int .i64 ((l.getD i 0 : Nat) : Int)) ∧ w = w' := by
  by_cases hi : i < n
  · have hiI : (i : Int) < (n : Int) := by omega
    have hi0 : (0 : Int) ≤ (i : Int) := by omega
    obtain ⟨b, o, rfl, _, hc⟩ := h.at_ i (by have := h.len; omega)
    have hg : Hid (l.getD i 0 = l[i]'(by have := h.len; omega)) := by show _ = _; simp [List.getD, show i < l.length by have := h.len; omega]
    rw [hg.out]
    clear hg
    generalize l[i]'(by have := h.len; omega) = d at hc ⊢
    clear h
    go_enter Try.func32, Try.ntmps32
    go_wp2_with fail
    go_ret
    exact ⟨rfl, rfl⟩
  · have hiI : ¬ (i : Int) < (n : Int) := by omega
    have hg : l.getD i 0 = 0 := by simp [List.getD, show ¬ i < l.length by have := h.len; omega]
    rw [hg]
    clear hg h
    go_enter Try.func32, Try.ntmps32
    go_wp2_with fail
    go_ret
    exact ⟨rfl, rfl⟩
/-- one number behind numbers of one's own -/
theorem append_int {v : Value} {w : World} {ops : Array Oper} {rest : List Oper} {o : Oper} {a : Act} {Q : Exit → Act → World → Prop} (s x : Operand)
    (ho : o.op = .call { callee := .builtin .append, args := #[s, x], argTypes := #[49, 49] }) (hgd : o.guard = none)
    (base : Nat) (A : Option Addr) (n c : Nat) (xs : List Value) (hs : a.eval s = .slice A n c) (w0 : World) (hw : w = w0.alloc (.cells #[v] 3)) (hx : a.eval x = .slice (some ⟨w0.heap.size, 0, none⟩) 1 1)
    (hown : w0.ownsRow base 3 1 (.slice A n c) n xs) (hv : v.oneCell' = true) (hb : n ≤ 1000000) (hbase : base ≤ w0.heap.size)
    (h : ∀ A' c' w', w'.ownsRow base 3 1 (.slice A' (n + 1) c') (n + 1) (xs ++ [v]) → Fr (fun k => base ≤ k) w0 w' → wpList Try.prog ops Q rest (a.put o.dst (.slice A' (n + 1) c')) w') : wpList Try.prog ops Q (o :: rest) a w := by
  subst hw
  obtain ⟨i, hi, z, sz, bt⟩ := info_parts Try.infoZ
  refine wpList_plain hgd fun _ hK => wp_append_rd _ s x 49 ho base 3 i _ 1 8 Try.underlying49 hi z sz bt rfl (by decide) (.slice A n c) n xs hs (own_fr hown (Fr.of_below (M := NoB) (Below.al w0 _)) (fun _ _ e => e)) (some ⟨w0.heap.size, 0, none⟩) 1 1 [v] hx rfl (Rd.of_block (heap_alloc_new w0 (.cells #[v] 3))) (by intro u hu; simp at hu; subst hu; exact hv) (by unfold maxLen; omega) (by omega) (by rw [World.size_alloc]; omega) fun A' c' w1 ho hg _ => hK _ _ (h A' c' w1 ho ?_)
  exact (Fr.of_below (Below.al w0 _)).tr ((Fr.of_grown hg).mono (fun k hk e => (hown.lt k e.symm).1))
set_option maxRecDepth 100000 in
set_option maxHeartbeats 4000000 in
theorem carried_any {w : World} {F : Nat → Prop} {A : Option Addr} {n c : Nat} {l : List Nat} (h : Dg w F A n c l) (hF : ∀ k, F k → k < w.heap.size) (hn : n ≤ 100000) (hx : ∀ x ∈ l, x ≤ 1152921504606846976) :
    Calls Try.prog 37 #[.slice A n c] w fun e w' => ∃ A' n' c' r, e = .returned (.slice A' n' c') ∧ w'.ownsRow w.heap.size 3 1 (.slice A' n' c') n' (dg r) ∧ Below w.heap.size w w' ∧ D4 r ∧ dgval r = dgval l ∧ n' ≤ n + 32 := by
  have H := Lib.hid h; have HF := Lib.hid hF; have HN := Lib.hid hn; have HX := Lib.hid hx
  have HL := Lib.hid h.len
  clear h hF hn hx
  go_enter Try.func37, Try.ntmps37
  go_wp2_with fail
  go_loopw [3, 4, 5] (fun out cy i wr => ∃ (k q : Nat) (A' : Option Addr) (c' : Nat) (r : List Nat), i = .int .i64 (k : Nat) ∧ cy = .int .i64 (q : Nat) ∧ out = .slice A' k c' ∧
      Hid (wr.ownsRow w.heap.size 3 1 (.slice A' k c') k (dg r) ∧ Below w.heap.size w wr ∧ D4 r ∧ dgval r + 4 ^ k * (q + dgval (l.drop k)) = dgval l ∧ ((k ≤ n ∧ q ≤ 1152921504606846976) ∨ (n ≤ k ∧ q * 4 ^ (k - n) ≤ 1152921504606846976 ∧ k ≤ n + 31)))) (fun _ cy i _ => (n - (intOf i).toNat) * 9223372036854775808 + (intOf cy).toNat)
  case atStart => exact ⟨0, 0, none, 0, [], rfl, rfl, rfl, Lib.hid ⟨World.ownsRow_nil _ _ _ _, Below.refl _ _, fun d hd => (by cases hd), by simp [dgval], .inl ⟨Nat.zero_le _, by decide⟩⟩⟩
  case round =>
    obtain ⟨k, q, A1, c1, r, rfl, rfl, rfl, I⟩ := hrel
    have hk0 : (0 : Int) ≤ (k : Int) := by omega
    have hq0 : (0 : Int) ≤ (q : Int) := by omega
    have Hd := Lib.hid (H.out.belF I.out.2.1)
    have hrl : Hid (r.length = k) := by have := I.out.1.1; rw [dg_len] at this; show _ = _; omega
    have hkb : Hid (k ≤ n + 31) := by
      rcases I.out.2.2.2.2 with h1 | h1
      · show _ ≤ _; omega
      · exact h1.2.2
    have hq60 : Hid (q ≤ 1152921504606846976) := by
      rcases I.out.2.2.2.2 with h1 | h1
      · exact h1.2
      · exact Nat.le_trans (Nat.le_mul_of_pos_right _ (Nat.pow_pos (by decide))) h1.2.1
    by_cases hend : ¬ k < n ∧ q = 0
    · obtain ⟨hkn, rfl⟩ := hend
      have hkI : ¬ (k : Int) < (n : Int) := by omega
      have HE := Lib.hid hkn
      go_wp2_with fail
      go_ret
      refine ⟨A1, k, c1, rfl, r, I.out.1, I.out.2.1, I.out.2.2.1, ?_, by have := hkb.out; omega⟩
      have h1 := I.out.2.2.2.1
      rw [List.drop_eq_nil_of_le (by have := HL.out; have := HE.out; omega)] at h1
      simpa [dgval] using h1
    · obtain ⟨x, hxx⟩ : ∃ x, l.getD k 0 = x := ⟨_, rfl⟩
      have hx60 : Hid (x ≤ 1152921504606846976) := by
        rw [← hxx, List.getD_eq_getElem?_getD]
        by_cases hl : k < l.length
        · rw [List.getElem?_eq_getElem hl]; exact HX.out _ (List.getElem_mem hl)
        · rw [List.getElem?_eq_none (by omega)]; exact Nat.zero_le _
      have hdr : Hid (dgval (l.drop k) = x + 4 * dgval (l.drop (k + 1))) := by
        show _ = _
        rw [← hxx, List.getD_eq_getElem?_getD]
        by_cases hl : k < l.length
        · rw [List.getElem?_eq_getElem hl, dgval_drop l k hl]; rfl
        · rw [List.getElem?_eq_none (by omega), List.drop_eq_nil_of_le (by omega), List.drop_eq_nil_of_le (by omega)]; rfl
      have hxn : Hid (¬ k < n → x = 0) := fun h => by
        rw [← hxx, List.getD_eq_getElem?_getD, List.getElem?_eq_none (by have := HL.out; omega)]; rfl
      obtain ⟨v, hv⟩ : ∃ v, x + q = v := ⟨_, rfl⟩
      have hv61 : v ≤ 2305843009213693952 := by have := hx60.out; have := hq60.out; omega
      have hvI : (x : Int) + (q : Int) = (v : Int) := by omega
      have hv0 : (0 : Int) ≤ (v : Int) := by omega
      have HV := Lib.hid hv
      have HE := Lib.hid hend
      have DG := digit_any Hd.out k
      rw [hxx] at DG
      have step : Hid (∀ w' : World, ∀ (A' : Option Addr) (c' : Nat), w'.ownsRow w.heap.size 3 1 (.slice A' (k + 1) c') (k + 1) (dg (r ++ [v % 4])) → Fr (fun j => w.heap.size ≤ j) wr w' →
          (w'.ownsRow w.heap.size 3 1 (.slice A' (k + 1) c') (k + 1) (dg (r ++ [v % 4])) ∧ Below w.heap.size w w' ∧ D4 (r ++ [v % 4]) ∧ dgval (r ++ [v % 4]) + 4 ^ (k + 1) * (v / 4 + dgval (l.drop (k + 1))) = dgval l ∧ ((k + 1 ≤ n ∧ v / 4 ≤ 1152921504606846976) ∨ (n ≤ k + 1 ∧ v / 4 * 4 ^ (k + 1 - n) ≤ 1152921504606846976 ∧ k + 1 ≤ n + 31)))) := by
        intro w' A' c' ho hf
        refine ⟨ho, ((Fr.of_below I.out.2.1).trans hf (fun i _ h => h)).to_below (fun i hi e => by omega), ?_, ?_, ?_⟩
        · intro d hd
          rcases List.mem_append.1 hd with hd | hd
          · exact I.out.2.2.1 d hd
          · simp at hd; omega
        · have h1 := I.out.2.2.2.1
          rw [hdr.out] at h1
          rw [dgval_append, hrl.out, ← h1, Nat.pow_succ, Nat.mul_assoc, Nat.add_assoc, ← Nat.mul_add]
          congr 2
          simp only [dgval]
          omega
        · by_cases hkn : k < n
          · left; have := hx60.out; have := hq60.out; omega
          · right
            have hx0 := hxn.out hkn
            have hq1 : 1 ≤ q := by
              rcases Nat.eq_zero_or_pos q with h | h
              · exact absurd ⟨hkn, h⟩ HE.out
              · exact h
            have hb : q * 4 ^ (k - n) ≤ 1152921504606846976 := by
              rcases I.out.2.2.2.2 with h1 | h1
              · rw [show k - n = 0 by omega]; omega
              · exact h1.2.1
            have hk30 : k - n ≤ 30 := by
              rcases Nat.lt_or_ge 30 (k - n) with h | h
              · have h2 : 4 ^ 31 ≤ 4 ^ (k - n) := Nat.pow_le_pow_right (by decide) h
                have h3 : 4 ^ (k - n) ≤ q * 4 ^ (k - n) := Nat.le_mul_of_pos_left _ hq1
                have h4 : (4 : Nat) ^ 31 = 4611686018427387904 := by decide
                omega
              · exact h
            refine ⟨by omega, ?_, by omega⟩
            have hvq : v = q := by omega
            rw [hvq, show k + 1 - n = (k - n) + 1 by omega, Nat.pow_succ, Nat.mul_comm (4 ^ (k - n)) 4, ← Nat.mul_assoc]
            exact Nat.le_trans (Nat.mul_le_mul_right _ (Nat.div_mul_le_self q 4)) hb
      have hkn5 : k ≤ 1000000 := by have := hkb.out; have := HN.out; omega
      clear hxx hv hdr
      by_cases hkn : k < n
      · have hkI : (k : Int) < (n : Int) := by omega
        go_wp2_with fail
        refine DG.mono ?_
        rintro e w' ⟨rfl, rfl⟩
        go_wp2_with (first
          | (at_builtin
             refine append_int (v := .int .i64 ((v : Int) % 4)) (.tmp 22) (.tmp 25) rfl rfl w.heap.size A1 k c1 (dg r) rfl wr rfl rfl I.out.1 rfl hkn5 I.out.2.1.size ?_
             intro A2 c2 w2 ho hf
             have S2 := Lib.hid (step.out w2 A2 c2 (by rw [dg_append]; have e : dg [v % 4] = [.int .i64 ((v : Int) % 4)] := by simp [dg]
                                                       rw [e]; exact ho) hf)
             clear ho hf))
        go_roundw
        case rel => exact ⟨k + 1, v / 4, A2, c2, r ++ [v % 4], by go_num, by simp, rfl, S2⟩
        case measure =>
          have h1 := HV.out; have h2 := HE.out; have h3 := hx60.out; have h4 := hq60.out
          simp [intOf]
          omega
      · have hkI : ¬ (k : Int) < (n : Int) := by omega
        have hqI : (0 : Int) < (q : Int) := by have := HE.out; omega
        go_wp2_with fail
        refine DG.mono ?_
        rintro e w' ⟨rfl, rfl⟩
        go_wp2_with (first
          | (at_builtin
             refine append_int (v := .int .i64 ((v : Int) % 4)) (.tmp 22) (.tmp 25) rfl rfl w.heap.size A1 k c1 (dg r) rfl wr rfl rfl I.out.1 rfl hkn5 I.out.2.1.size ?_
             intro A2 c2 w2 ho hf
             have S2 := Lib.hid (step.out w2 A2 c2 (by rw [dg_append]; have e : dg [v % 4] = [.int .i64 ((v : Int) % 4)] := by simp [dg]
                                                       rw [e]; exact ho) hf)
             clear ho hf))
        go_roundw
        case rel => exact ⟨k + 1, v / 4, A2, c2, r ++ [v % 4], by go_num, by simp, rfl, S2⟩
        case measure =>
          have h1 := HV.out; have h2 := HE.out; have h3 := hx60.out; have h4 := hq60.out; have h5 := hxn.out hkn
          simp [intOf]
          omega
end Go.Proofs.Ytkikdhjckjmolaa
