/- DiskOvers' walk. -/
import Derived.Test.YtjfnpndpigpaiaaDk16
import Derived.Test.YtjfnpndpigpaiaaOpnL
namespace Go.Proofs.Ytjfnpndpigpaiaa
open Go.RowKit
attribute [local go_sem] yld yldUpon_value

set_option maxRecDepth 100000 in
set_option maxHeartbeats 4000000 in
theorem DiskOvers_any (w : World) (A1 : Option Addr) (n1 c1 : Nat) (l1 : List UInt8) (A2 : Option Addr) (n2 c2 : Nat) (l2 : List UInt8) (A3 : Option Addr) (n3 c3 : Nat) (l3 : List UInt8) (a : Int)
    (h1 : Sl w (Old w) A1 n1 c1 l1) (h2 : Sl w (Old w) A2 n2 c2 l2) (h3 : Sl w (Old w) A3 n3 c3 l3) (ha : (Lit.int .i64 a).wf = true) :
    Calls Try.prog 4 #[.agg #[.slice A1 n1 c1, .slice A2 n2 c2, .slice A3 n3 c3, .int .i64 a]] w fun e w' => e = .returned (.bool true) ∧ Below w.heap.size w w' := by
  have H1 := Lib.hid h1; have H2 := Lib.hid h2; have H3 := Lib.hid h3
  have hab := bounds_i64 ha
  clear h1 h2 h3 ha
  obtain ⟨wa, hwa⟩ : ∃ wa, wa = w.alloc (.cells #[.slice A1 n1 c1, .slice A2 n2 c2, .slice A3 n3 c3, .int .i64 a] 41) := ⟨_, rfl⟩
  have Ba : Hid (Below w.heap.size w wa) := by rw [hwa]; exact Below.al _ _
  have hk : wa.heap[w.heap.size]? = some (.cells #[.slice A1 n1 c1, .slice A2 n2 c2, .slice A3 n3 c3, .int .i64 a] 41 (0, 0)) := by rw [hwa]; exact heap_alloc_new w _
  have k0 := cell_of_row _ w.heap.size 0 _ _ _ hk
  have k1 := cell_of_row _ w.heap.size 1 _ _ _ hk
  have k2 := cell_of_row _ w.heap.size 2 _ _ _ hk
  have k3 := cell_of_row _ w.heap.size 3 _ _ _ hk
  have kl : w.heap.size < wa.heap.size := (Array.getElem?_eq_some_iff.1 hk).1
  have HWA := Lib.hid hwa
  clear hwa hk
  simp at k0 k1 k2 k3
  go_enter Try.func4, Try.ntmps4
  go_wp2_with fail
  rw [← HWA.out]
  refine wp_calm ?_
  refine wp_region_os (fun _ w' => Below (wa).drew.heap.size (wa).drew w') [1, 3, 5, 7] (.move 0 (.take 1 (.move 2 (.take 3 (.move 4 (.take 5 (.move 6 (.take 7 (.move 8 (.move 9 (.move 10 (.move 11 .done)))))))))))) (by kernel_rfl) (by kernel_rfl) (fun _ _ _ _ _ h => nomatch h.1) ?_
  have hS0 : Below (wa).drew.heap.size (wa).drew (wa).drew := Below.refl _ _
  refine os_move rfl rfl rfl (Nat.le_of_ble_eq_true rfl) ?_
  apply Exists.intro
  refine ⟨fun w' K hK => ?_, ?_⟩
  (focus
    go_simp
    exact hK)
  refine os_yld hS0 rfl rfl rfl (Nat.le_of_ble_eq_true rfl) ?_
  apply Exists.intro
  refine ⟨fun w' hS' K hK => ?_, ?_⟩
  (focus
    obtain ⟨hcc, hff⟩ := bcellB (Below.undr hS')
    clear hS'
    go_simp
    exact hK)
  refine os_move rfl rfl rfl (Nat.le_of_ble_eq_true rfl) ?_
  apply Exists.intro
  refine ⟨fun w' K hK => ?_, ?_⟩
  (focus
    go_simp
    exact hK)
  refine os_yld hS0 rfl rfl rfl (Nat.le_of_ble_eq_true rfl) ?_
  apply Exists.intro
  refine ⟨fun w' hS' K hK => ?_, ?_⟩
  (focus
    obtain ⟨hcc, hff⟩ := bcellB (Below.undr hS')
    clear hS'
    go_simp
    exact hK)
  refine os_move rfl rfl rfl (Nat.le_of_ble_eq_true rfl) ?_
  apply Exists.intro
  refine ⟨fun w' K hK => ?_, ?_⟩
  (focus
    go_simp
    exact hK)
  refine os_yld hS0 rfl rfl rfl (Nat.le_of_ble_eq_true rfl) ?_
  apply Exists.intro
  refine ⟨fun w' hS' K hK => ?_, ?_⟩
  (focus
    obtain ⟨hcc, hff⟩ := bcellB (Below.undr hS')
    clear hS'
    go_simp
    exact hK)
  refine os_move rfl rfl rfl (Nat.le_of_ble_eq_true rfl) ?_
  apply Exists.intro
  refine ⟨fun w' K hK => ?_, ?_⟩
  (focus
    go_simp
    exact hK)
  refine os_yld hS0 rfl rfl rfl (Nat.le_of_ble_eq_true rfl) ?_
  apply Exists.intro
  refine ⟨fun w' hS' K hK => ?_, ?_⟩
  (focus
    obtain ⟨hcc, hff⟩ := bcellB (Below.undr hS')
    clear hS'
    go_simp
    exact hK)
  refine os_move rfl rfl rfl (Nat.le_of_ble_eq_true rfl) ?_
  apply Exists.intro
  refine ⟨fun w' K hK => ?_, ?_⟩
  (focus
    go_simp
    exact hK)
  refine os_move rfl rfl rfl (Nat.le_of_ble_eq_true rfl) ?_
  apply Exists.intro
  refine ⟨fun w' K hK => ?_, ?_⟩
  (focus
    go_simp
    exact hK)
  refine os_move rfl rfl rfl (Nat.le_of_ble_eq_true rfl) ?_
  apply Exists.intro
  refine ⟨fun w' K hK => ?_, ?_⟩
  (focus
    go_simp
    exact hK)
  refine os_move rfl rfl rfl (Nat.le_of_ble_eq_true rfl) ?_
  apply Exists.intro
  refine ⟨fun w' K hK => ?_, ?_⟩
  (focus
    go_simp
    exact hK)
  refine os_done ⟨rfl, ?_⟩
  clear k0 k1 k2 k3 kl
  have big : Hid (∀ wx, Below w.heap.size w wx → Calls Try.prog 8 #[] wx fun e w' => e = .returned (.bool true) ∧ Below w.heap.size w w') := fun wx hb => (known_any wx).mono fun e w' ⟨he, hb'⟩ => ⟨he, Below.tr hb hb'⟩
  by_cases q1 : (n1 : Int) ≤ 500
  · by_cases q2 : (n2 : Int) ≤ 500
    · by_cases q3 : (n3 : Int) ≤ 500
      · have hq : Hid (n1 ≤ 500 ∧ n2 ≤ 500 ∧ n3 ≤ 500) := by show _ ∧ _; omega
        have hq1 : Hid (l1.length ≤ 500) := by show _ ≤ _; rw [H1.out.len]; omega
        have hq3 : Hid (l3.length ≤ 500) := by show _ ≤ _; rw [H3.out.len]; omega
        have ok := Lib.hid (ov_ok hq1.out hq3.out)
        go_wp2_with fail
        refine (New_any wa.drew 4096).mono ?_
        rintro e w1 ⟨g, vs0, rfl, d1, d2, d3, d4⟩
        have S0 : Hid (DS w w1 g (newD 4096) vs0) := ⟨d1, ok.out.1, (fun k hk => Nat.le_trans Ba.out.size (d4 k hk)), Below.tr Ba.out (Below.tr (Below.dr1 wa) d2)⟩
        clear d1 d2 d3 d4
        go_wp2_with fail
        refine (Write_any S0.out.disk S0.out.ok (by decide) 0 (H1.out.belF S0.out.bel (fun _ h => h)) (fun k hk => ⟨Nat.lt_of_lt_of_le hk S0.out.bel.size, not_foot_of S0.out hk⟩) (by have := hq.out; omega)).mono ?_
        rintro e w2 ⟨rfl, hst⟩
        rw [ov_1 hq1.out]
        rw [ov_1 hq1.out] at hst
        obtain ⟨vw2, s1, -, -⟩ := S0.out.step hst ok.out.2.1
        have S1 := Lib.hid s1
        clear hst s1 S0
        go_wp2_with fail
        refine (Sync_any S1.out.disk S1.out.ok (by show (1 : Nat) ≤ 1000000000; decide) 0).mono ?_
        rintro e w3 ⟨rfl, hst⟩
        rw [ov_2]
        rw [ov_2] at hst
        obtain ⟨v3, s1, -, -⟩ := S1.out.step hst ok.out.2.2.1
        have S2 := Lib.hid s1
        clear hst s1 S1
        go_wp2_with fail
        refine (Write_any S2.out.disk S2.out.ok (by show (2 : Nat) ≤ 1000000000; decide) 0 (H3.out.belF S2.out.bel (fun _ h => h)) (fun k hk => ⟨Nat.lt_of_lt_of_le hk S2.out.bel.size, not_foot_of S2.out hk⟩) (by have := hq.out; omega)).mono ?_
        rintro e w4 ⟨rfl, hst⟩
        rw [ov_3 hq1.out hq3.out]
        rw [ov_3 hq1.out hq3.out] at hst
        obtain ⟨vw4, s1, -, -⟩ := S2.out.step hst ok.out.2.2.2
        have S3 := Lib.hid s1
        clear hst s1 S2
        go_wp2_with fail
        have ho3 := S3.out.ok.over 0 a l2
        refine (Over_any S3.out.disk S3.out.ok (by show (3 : Nat) ≤ 1000000000; decide) 0 a (H2.out.belF S3.out.bel (fun _ h => h)) (fun k hk => ⟨Nat.lt_of_lt_of_le hk S3.out.bel.size, not_foot_of S3.out hk⟩) (by have := hq.out; omega)).mono ?_
        rintro e w5 ⟨rfl, hst⟩
        obtain ⟨v5, s1, -, -⟩ := S3.out.step hst ho3
        have S4 := Lib.hid s1
        clear hst s1 S3 ho3
        by_cases hf : 0 ≤ a ∧ a ≤ l1.length ∧ (l2.length : Int) ≤ l1.length - a
        · obtain ⟨m, rfl⟩ : ∃ m : Nat, a = m := ⟨a.toNat, by omega⟩
          have hm : Hid (m + l2.length ≤ l1.length) := by show _ ≤ _; omega
          have hmI : Hid ((m : Int) ≤ (n1 : Int)) := by have := H1.out.len; show _ ≤ _; omega
          have hmI2 := hmI.out
          have hdf : (n2 : Int) ≤ (n1 : Int) - (m : Int) := by have := H1.out.len; have := H2.out.len; omega
          clear hf
          rw [ov_fits l1 l3 l2 m hm.out] at S4
          rw [ov_fits l1 l3 l2 m hm.out]
          go_wp2_with fail
          have ok5 := S4.out.ok.crash []
          refine (Crash_any S4.out.disk S4.out.ok (IntSl.nil _ (fun _ => False)) (fun k hk => hk.elim) (by decide)).mono ?_
          rintro e w6 ⟨rfl, hst⟩
          obtain ⟨v6, s1, -, -⟩ := S4.out.step hst ok5
          have S5 := Lib.hid s1
          clear hst s1 S4 ok5
          go_wp2_with fail
          refine (CopyBytes_sl (H1.out.belF S5.out.bel (fun _ h => h)) (fun k hk => Nat.lt_of_lt_of_le hk S5.out.bel.size) (by have := hq.out; omega)).mono ?_
          rintro e w7 ⟨A7, c7, rfl, hown, hb7⟩
          have F7 : Hid (FileAt w7 l1 A7 c7) := FileAt.of_own hown
          have L7 : Hid (∀ ad, A7 = some ad → w6.heap.size ≤ ad.block) := fun ad e => by subst e; exact (hown.lt ad.block rfl).1
          have S6 := Lib.hid (S5.out.old hb7)
          have hcap := F7.out.sl.cap
          have HL6 : Hid (∀ k, dfoot g v6 k → k < w6.heap.size) := fun k hk => S5.out.disk.foot_lt hk
          clear hown hb7 S5
          have hmn := hmI.out
          have hmc : (m : Int) ≤ (c7 : Int) := by have := H1.out.len; omega
          have H2b := Lib.hid (H2.out.belF S6.out.bel (fun _ h => h))
          by_cases hcm : c7 = m
          all_goals
            try (have hcm2 := hcm.symm; subst hcm2)
            go_wp2_with (
              refine lst_file_copy (.tmp 93) (.tmp 94) rfl (p := m) rfl F7.out hm.out (by have := H1.out.len; omega) (by first | exact .inl rfl | exact .inr (List.eq_nil_of_length_eq_zero (by have := hm.out; have := H1.out.len; have := H2.out.len; omega))) rfl H2b.out rfl ?_
              intro w8 hF8 hfr8)
            have S7 : Hid (DS w w8 g _ v6) := ⟨S6.out.disk.fr hfr8.out (fun k hk ⟨ad, e, hb⟩ => by have := L7.out ad e; have := HL6.out k hk; omega), S6.out.ok, S6.out.foot, ((Fr.of_below S6.out.bel).trans hfr8.out (fun _ _ h => h)).to_below (fun i hi ⟨ad, e, hb⟩ => by have := L7.out ad e; have := S6.out.foot g (.inl rfl); have := HL6.out g (.inl rfl); omega)⟩
            have r8 := hF8.out.sl
            rw [overL_len hm.out, H1.out.len] at r8
            have R8 := Lib.hid r8
            clear r8
            have L8 := Lib.hid hF8.out.lt
            have hlen8 : Hid ((overL l1 m l2).length = n1) := by show _ = _; rw [overL_len hm.out, H1.out.len]
            clear hF8 hfr8 S6 F7 L7 HL6
            refine (Read_any S7.out.disk S7.out.ok 0).mono ?_
            rintro e w9 ⟨A9, n9, c9, rfl, hown, hb9⟩
            rw [ov_read_fits hm.out] at hown
            have hn9 : n9 = n1 := by have := hown.1; rw [bs_length, hlen8.out] at this; omega
            subst hn9
            have R9 := Lib.hid (Sl.of_own hown)
            have B9 := Lib.hid (Below.tr S7.out.bel hb9)
            have R8b := Lib.hid (R8.out.belF hb9 (fun k ⟨ad, e, hb⟩ => by have := L8.out ad e; omega))
            clear hown hb9 R8 S7
            go_wp2_with fail
            refine (Same_at R9.out R8b.out (by have := hq.out; omega) (by have := hq.out; omega) true (by simp)).mono ?_
            rintro e w10 ⟨rfl, kk, rfl⟩
            go_wp2_with fail
            refine (known_any _).mono ?_
            rintro e w11 ⟨rfl, hb11⟩
            have B11 := Lib.hid (Below.tr B9.out (Below.tr (Below.drN _ kk) hb11))
            clear hb11 B9
            go_wp2_with fail
            go_ret
            exact ⟨rfl, B11.out⟩
        · have hnf := Lib.hid hf
          have hf2 : a < 0 ∨ (0 ≤ a ∧ (n1 : Int) < a) ∨ (0 ≤ a ∧ a ≤ (n1 : Int) ∧ (n1 : Int) - a < (n2 : Int)) := by have := H1.out.len; have := H2.out.len; omega
          clear hf
          rcases hf2 with f1 | ⟨f1, f2⟩ | ⟨f1, f2, f3⟩
          all_goals
            rw [ov_no l1 l3 l2 a hnf.out] at S4
            rw [ov_no l1 l3 l2 a hnf.out]
            go_wp2_with fail
            have ok5 := S4.out.ok.crash []
            refine (Crash_any S4.out.disk S4.out.ok (IntSl.nil _ (fun _ => False)) (fun k hk => hk.elim) (by decide)).mono ?_
            rintro e w6 ⟨rfl, hst⟩
            obtain ⟨v6, s1, -, -⟩ := S4.out.step hst ok5
            have S5 := Lib.hid s1
            clear hst s1 S4 ok5
            go_wp2_with fail
            refine (CopyBytes_sl (H1.out.belF S5.out.bel (fun _ h => h)) (fun k hk => Nat.lt_of_lt_of_le hk S5.out.bel.size) (by have := hq.out; omega)).mono ?_
            rintro e w7 ⟨A7, c7, rfl, hown, hb7⟩
            have R8 : Hid (Sl w7 (Blk A7) A7 n1 c7 l1) := by
              have := (FileAt.of_own hown).sl; rw [H1.out.len] at this; exact this
            have L8 := Lib.hid (FileAt.of_own hown).lt
            have S7 := Lib.hid (S5.out.old hb7)
            have hlen8 : Hid (l1.length = n1) := H1.out.len
            clear hown hb7 S5
            go_wp2_with fail
            refine (Read_any S7.out.disk S7.out.ok 0).mono ?_
            rintro e w9 ⟨A9, n9, c9, rfl, hown, hb9⟩
            rw [ov_read_no l1 l3] at hown
            have hn9 : n9 = n1 := by have := hown.1; rw [bs_length, hlen8.out] at this; omega
            subst hn9
            have R9 := Lib.hid (Sl.of_own hown)
            have B9 := Lib.hid (Below.tr S7.out.bel hb9)
            have R8b := Lib.hid (R8.out.belF hb9 (fun k ⟨ad, e, hb⟩ => by have := L8.out ad e; omega))
            clear hown hb9 R8 S7
            go_wp2_with fail
            refine (Same_at R9.out R8b.out (by have := hq.out; omega) (by have := hq.out; omega) true (by simp)).mono ?_
            rintro e w10 ⟨rfl, kk, rfl⟩
            go_wp2_with fail
            refine (known_any _).mono ?_
            rintro e w11 ⟨rfl, hb11⟩
            have B11 := Lib.hid (Below.tr B9.out (Below.tr (Below.drN _ kk) hb11))
            clear hb11 B9
            go_wp2_with fail
            go_ret
            exact ⟨rfl, B11.out⟩
      · go_wp2_with fail
        refine (big.out _ (Below.tr Ba.out (Below.dr1 wa))).mono ?_
        rintro e w' ⟨rfl, hb⟩
        have HB := Lib.hid hb
        clear hb
        go_wp2_with fail
        go_ret
        exact ⟨rfl, HB.out⟩
    · go_wp2_with fail
      refine (big.out _ (Below.tr Ba.out (Below.dr1 wa))).mono ?_
      rintro e w' ⟨rfl, hb⟩
      have HB := Lib.hid hb
      clear hb
      go_wp2_with fail
      go_ret
      exact ⟨rfl, HB.out⟩
  · go_wp2_with fail
    refine (big.out _ (Below.tr Ba.out (Below.dr1 wa))).mono ?_
    rintro e w' ⟨rfl, hb⟩
    have HB := Lib.hid hb
    clear hb
    go_wp2_with fail
    go_ret
    exact ⟨rfl, HB.out⟩

theorem DiskOvers_rec (w : World) (y : LaidR) (h : y.Ok w) : Calls Try.prog 4 #[.agg y.cells.toArray] w fun e w' => e = .returned (.bool true) ∧ Below w.heap.size w w' :=
  DiskOvers_any w y.A1 y.n1 y.c1 y.l1 y.A2 y.n2 y.c2 y.l2 y.A3 y.n3 y.c3 y.l3 y.a h.s1 h.s2 h.s3 h.wf
end Go.Proofs.Ytjfnpndpigpaiaa
