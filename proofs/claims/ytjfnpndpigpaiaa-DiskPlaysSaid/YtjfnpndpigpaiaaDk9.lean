/- The disk: Cut. -/
import Derived.Test.YtjfnpndpigpaiaaDk8
import Derived.Test.YtjfnpndpigpaiaaOrd4
namespace Go.Proofs.Ytjfnpndpigpaiaa
open Go.RowKit
attribute [local go_sem] yld yldUpon_value

set_option maxRecDepth 100000 in
set_option maxHeartbeats 2000000 in
theorem Cut_any {w : World} {g : Nat} {D : DD} {vs : Vs} (h : DiskAt w g D vs) (ok : DOK D) (hdn : D.done ≤ 1000000000) (f n : Int) :
    Calls Try.prog 24 #[.pointer (some ⟨g, 0, none⟩), .int .i64 f, .int .i64 n] w fun e w' => e = .returned (.int .i64 (cutD D f n).1) ∧ Dstep g vs w w' (cutD D f n).2 := by
  have H := Lib.hid h; have OK := Lib.hid ok; have HN := Lib.hid hdn
  have hmf := hmf_
  have Ba : Hid (Below w.heap.size w (w.alloc (.cells #[.int .i64 n] 3))) := Below.al _ _
  have za : Hid ((w.alloc (.cells #[.int .i64 n] 3)).heap.size = w.heap.size + 1) := by show _ = _; simp
  have cb : Hid ((w.alloc (.cells #[.int .i64 n] 3)).cell? ⟨w.heap.size, 0, none⟩ = some (.int .i64 n)) := by
    show _ = _
    rw [cell_of_row _ w.heap.size 0 _ _ _ (heap_alloc_new w _)]; rfl
  by_cases hok : okF f = true
  · obtain ⟨m, rfl⟩ : ∃ m : Nat, f = m := ⟨f.toNat, by have := okF_iff.1 hok; omega⟩
    have hn33 : m < 33 := by have := okF_iff.1 hok; omega
    have Hn := Lib.hid hn33; have Hok := Lib.hid hok
    obtain ⟨V, hV⟩ : ∃ V, V = (D.file m).d.length := ⟨_, rfl⟩
    have HV := Lib.hid hV
    have hcut : Hid (cutOk D m n = (decide (0 ≤ n) && decide (n ≤ (V : Int)))) := by show _ = _; unfold cutOk; rw [Hok.out, Bool.true_and, Int.toNat_natCast, hV]
    have hfl := ok.file_le m
    rw [← hV] at hfl
    clear h ok hdn hn33 hok hV
    have fin : Hid (∀ wb r, r = badE (cutOk D m n) → Below w.heap.size w wb → wb.cell? ⟨w.heap.size, 0, none⟩ = some (.int .i64 n) → wb.cell? ⟨w.heap.size + 1, 0, none⟩ = some (.pointer (some ⟨g, 1 + m * 2, none⟩)) →
        Calls Try.prog 30 #[.pointer (some ⟨g, 0, none⟩), .int .i64 r, .bool false, .func (.func 36) #[] #[.pointer (some ⟨w.heap.size + 1, 0, none⟩), .pointer (some ⟨w.heap.size, 0, none⟩)]] wb fun e w' =>
          e = .returned (.int .i64 (cutD D m n).1) ∧ Dstep g vs w w' (cutD D m n).2) := by
      intro wb r hr0 hB hcb hcx
      subst hr0
      have Da : DiskAt wb g D vs := H.out.bel hB
      have hg := H.out.gt
      have hr := operate_any Da OK.out HN.out (badE (cutOk D m n)) false 36 #[.pointer (some ⟨w.heap.size + 1, 0, none⟩), .pointer (some ⟨w.heap.size, 0, none⟩)] (D.cutF m n.toNat).fs eg_cut (fun e0 w1 D1 hfs hD1 hf1 => by
        have hx := cell_fr hcx hf1 (by intro e; have e' : w.heap.size + 1 = g := e; omega)
        have hbb := cell_fr hcb hf1 (by intro e; have e' : w.heap.size = g := e; omega)
        have hcc : cutOk D m n = true := by
          cases hc : cutOk D m n with
          | true => rfl
          | false => rw [hc] at e0; exact absurd e0 (by decide)
        rw [hcut.out] at hcc
        simp only [Bool.and_eq_true, decide_eq_true_eq] at hcc
        obtain ⟨k, rfl⟩ : ∃ k : Nat, n = k := ⟨n.toNat, by omega⟩
        have hkV : k ≤ V := by omega
        refine (Cut1_any hD1 Hn.out hx hbb (by omega) (by omega) (by rw [file_of_fs hfs, ← HV.out]; exact hkV) (by rw [file_of_fs hfs, ← HV.out]; omega)).mono fun e w' ⟨a, c⟩ => ⟨a, ?_⟩
        have e2 : D1.put m ⟨(D1.file m).d.take k, k⟩ = { D1 with fs := (D.cutF m (k : Int).toNat).fs } := by
          rw [file_of_fs hfs]; simp [DD.put, DD.cutF, hfs]
        rw [e2] at c; exact c)
      unfold cutD
      exact hr.mono fun e w' ⟨a, c⟩ => ⟨a, Dstep.old hB c⟩
    by_cases h0 : 0 ≤ n
    · have hd0 : decide (0 ≤ n) = true := decide_eq_true h0
      obtain ⟨bt, hbt⟩ : ∃ bt, decide (n ≤ (V : Int)) = bt := ⟨_, rfl⟩
      have Hc2 : Hid (cutOk D m n = bt) := by show _ = _; rw [hcut.out, hd0, hbt]; rfl
      clear hcut
      go_enter Try.func24, Try.ntmps24
      go_wp2_with fail
      refine (file_yes _ g m Hn.out).mono ?_
      rintro e w1 ⟨rfl, rfl⟩
      go_wp2_with fail
      have Bb := Lib.hid (Below.tr Ba.out (Below.al (w.alloc (.cells #[.int .i64 n] 3)) (.cells #[.pointer (some ⟨g, 1 + m * 2, none⟩)] 65)))
      have cx : ((w.alloc (.cells #[.int .i64 n] 3)).alloc (.cells #[.pointer (some ⟨g, 1 + m * 2, none⟩)] 65)).cell? ⟨w.heap.size + 1, 0, none⟩ = some (.pointer (some ⟨g, 1 + m * 2, none⟩)) := by
        have := cell_of_row _ (w.alloc (.cells #[.int .i64 n] 3)).heap.size 0 _ _ _ (heap_alloc_new (w.alloc (.cells #[.int .i64 n] 3)) (.cells #[.pointer (some ⟨g, 1 + m * 2, none⟩)] 65))
        rw [za.out] at this; rw [this]; rfl
      have cb2 := cell_bel cb.out (Below.al (w.alloc (.cells #[.int .i64 n] 3)) (.cells #[.pointer (some ⟨g, 1 + m * 2, none⟩)] 65))
      generalize (w.alloc (.cells #[.int .i64 n] 3)).alloc (.cells #[.pointer (some ⟨g, 1 + m * 2, none⟩)] 65) = wb at Bb cx cb2 ⊢
      have Db := Lib.hid (H.out.bel Bb.out)
      have cd : wb.cell? ⟨g, 1 + m * 2, none⟩ = some (.slice (vA vs m) V (vC vs m)) := by rw [HV.out]; exact Db.out.cData m Hn.out
      have lg := Db.out.gt
      have lx := block_lt_of cx
      have lb := block_lt_of cb2
      clear cb za Ba
      refine wp_calm ?_
      refine wp_region_oc (fun _ w' => Below (wb).drew.heap.size (wb).drew w') [1, 4, 8, 9, 12] [(16, 1, [7, 3, 2]), (16, 4, [7, 6, 5]), (16, 8, [15, 14]), (16, 9, [15, 14, 13, 12, 11, 10]), (16, 12, [15, 14, 13]), (18, 1, [16, 7, 3, 2]), (18, 4, [16, 7, 6, 5]), (18, 8, [16, 15, 14]), (18, 9, [16, 15, 14, 13, 12, 11, 10]), (18, 12, [16, 15, 14, 13])] (.move 0 (.take 1 (.move 2 (.move 3 (.take 4 (.move 5 (.move 6 (.move 7 (.take 8 (.take 9 (.move 10 (.move 11 (.take 12 (.move 13 (.move 14 (.move 15 (.move 17 (.run 16 [] (.run 18 [] (.move 19 .done)))))))))))))))))))) (by kernel_rfl) (by kernel_rfl) (fun _ _ _ _ _ h => nomatch h.1) ?_
      have hS0 : Below (wb).drew.heap.size (wb).drew (wb).drew := Below.refl _ _
      refine os_move rfl rfl rfl (Nat.le_of_ble_eq_true rfl) ?_
      apply Exists.intro
      refine ⟨fun w' K hK => ?_, ?_⟩
      (focus
        go_simp
        exact hK)
      refine os_yld hS0 rfl rfl rfl (Nat.le_of_ble_eq_true rfl) ?_
      apply Exists.intro
      refine ⟨fun w' hS' K hK => ?_, ?_⟩
      (focus
        obtain ⟨hcc, hff⟩ := bcellB (Below.undr hS')
        clear hS'
        go_simp
        exact hK)
      refine os_move rfl rfl rfl (Nat.le_of_ble_eq_true rfl) ?_
      apply Exists.intro
      refine ⟨fun w' K hK => ?_, ?_⟩
      (focus
        go_simp
        exact hK)
      refine os_move rfl rfl rfl (Nat.le_of_ble_eq_true rfl) ?_
      apply Exists.intro
      refine ⟨fun w' K hK => ?_, ?_⟩
      (focus
        go_simp
        exact hK)
      refine os_yldg hS0 rfl rfl rfl (Nat.le_of_ble_eq_true rfl) ?_
      apply Exists.intro
      refine ⟨fun w' hS' K hK => ?_, ?_⟩
      (focus
        obtain ⟨hcc, hff⟩ := bcellB (Below.undr hS')
        clear hS'
        go_simp
        exact hK)
      refine os_moveg rfl rfl rfl (Nat.le_of_ble_eq_true rfl) ?_
      apply Exists.intro
      refine ⟨fun w' K hK => ?_, ?_⟩
      (focus
        go_simp
        exact hK)
      refine os_move rfl rfl rfl (Nat.le_of_ble_eq_true rfl) ?_
      apply Exists.intro
      refine ⟨fun w' K hK => ?_, ?_⟩
      (focus
        go_simp
        exact hK)
      refine os_move rfl rfl rfl (Nat.le_of_ble_eq_true rfl) ?_
      apply Exists.intro
      refine ⟨fun w' K hK => ?_, ?_⟩
      (focus
        go_simp
        exact hK)
      refine os_yldg hS0 rfl rfl rfl (Nat.le_of_ble_eq_true rfl) ?_
      apply Exists.intro
      refine ⟨fun w' hS' K hK => ?_, ?_⟩
      (focus
        obtain ⟨hcc, hff⟩ := bcellB (Below.undr hS')
        clear hS'
        go_simp
        exact hK)
      refine os_yldg hS0 rfl rfl rfl (Nat.le_of_ble_eq_true rfl) ?_
      apply Exists.intro
      refine ⟨fun w' hS' K hK => ?_, ?_⟩
      (focus
        obtain ⟨hcc, hff⟩ := bcellB (Below.undr hS')
        clear hS'
        go_simp
        exact hK)
      refine os_moveg rfl rfl rfl (Nat.le_of_ble_eq_true rfl) ?_
      apply Exists.intro
      refine ⟨fun w' K hK => ?_, ?_⟩
      (focus
        go_simp
        exact hK)
      refine os_moveg rfl rfl rfl (Nat.le_of_ble_eq_true rfl) ?_
      apply Exists.intro
      refine ⟨fun w' K hK => ?_, ?_⟩
      (focus
        go_simp
        exact hK)
      refine os_yldg hS0 rfl rfl rfl (Nat.le_of_ble_eq_true rfl) ?_
      apply Exists.intro
      refine ⟨fun w' hS' K hK => ?_, ?_⟩
      (focus
        obtain ⟨hcc, hff⟩ := bcellB (Below.undr hS')
        clear hS'
        go_simp
        exact hK)
      refine os_moveg rfl rfl rfl (Nat.le_of_ble_eq_true rfl) ?_
      apply Exists.intro
      refine ⟨fun w' K hK => ?_, ?_⟩
      (focus
        go_simp
        exact hK)
      refine os_moveg rfl rfl rfl (Nat.le_of_ble_eq_true rfl) ?_
      apply Exists.intro
      refine ⟨fun w' K hK => ?_, ?_⟩
      (focus
        go_simp
        exact hK)
      refine os_move rfl rfl rfl (Nat.le_of_ble_eq_true rfl) ?_
      apply Exists.intro
      refine ⟨fun w' K hK => ?_, ?_⟩
      (focus
        go_simp
        exact hK)
      refine os_move rfl rfl rfl (Nat.le_of_ble_eq_true rfl) ?_
      apply Exists.intro
      refine ⟨fun w' K hK => ?_, ?_⟩
      (focus
        go_simp
        exact hK)
      refine os_run rfl rfl (fun K hK => ?_)
      go_wp2_with fail
      refine (bad_any _ bt).mono ?_
      rintro e wu ⟨rfl, rfl⟩
      go_wp2_with fail
      refine ⟨fun _ hk => absurd hk List.not_mem_nil, ?_⟩
      refine os_run rfl rfl (fun K hK => ?_)
      go_wp2_with fail
      refine (fin.out wb.drew (badE bt) (by rw [Hc2.out]) (Below.tr Bb.out (Below.dr1 wb)) cb2 cx).mono ?_
      rintro e w2 ⟨rfl, hst⟩
      have HST := Lib.hid hst
      clear hst
      go_wp2_with fail
      refine ⟨fun _ hk => absurd hk List.not_mem_nil, ?_⟩
      refine os_move rfl rfl rfl (Nat.le_of_ble_eq_true rfl) ?_
      apply Exists.intro
      refine ⟨fun w' K hK => ?_, ?_⟩
      (focus
        go_simp
        exact hK)
      refine os_done ⟨rfl, ?_⟩
      go_wp2_with fail
      go_ret
      exact ⟨rfl, HST.out⟩
    · have hd0 : decide (0 ≤ n) = false := decide_eq_false h0
      have Hc2 : Hid (cutOk D m n = false) := by show _ = _; rw [hcut.out, hd0]; rfl
      clear hcut
      go_enter Try.func24, Try.ntmps24
      go_wp2_with fail
      refine (file_yes _ g m Hn.out).mono ?_
      rintro e w1 ⟨rfl, rfl⟩
      go_wp2_with fail
      have Bb := Lib.hid (Below.tr Ba.out (Below.al (w.alloc (.cells #[.int .i64 n] 3)) (.cells #[.pointer (some ⟨g, 1 + m * 2, none⟩)] 65)))
      have cx : ((w.alloc (.cells #[.int .i64 n] 3)).alloc (.cells #[.pointer (some ⟨g, 1 + m * 2, none⟩)] 65)).cell? ⟨w.heap.size + 1, 0, none⟩ = some (.pointer (some ⟨g, 1 + m * 2, none⟩)) := by
        have := cell_of_row _ (w.alloc (.cells #[.int .i64 n] 3)).heap.size 0 _ _ _ (heap_alloc_new (w.alloc (.cells #[.int .i64 n] 3)) (.cells #[.pointer (some ⟨g, 1 + m * 2, none⟩)] 65))
        rw [za.out] at this; rw [this]; rfl
      have cb2 := cell_bel cb.out (Below.al (w.alloc (.cells #[.int .i64 n] 3)) (.cells #[.pointer (some ⟨g, 1 + m * 2, none⟩)] 65))
      generalize (w.alloc (.cells #[.int .i64 n] 3)).alloc (.cells #[.pointer (some ⟨g, 1 + m * 2, none⟩)] 65) = wb at Bb cx cb2 ⊢
      have Db := Lib.hid (H.out.bel Bb.out)
      have cd : wb.cell? ⟨g, 1 + m * 2, none⟩ = some (.slice (vA vs m) V (vC vs m)) := by rw [HV.out]; exact Db.out.cData m Hn.out
      have lg := Db.out.gt
      have lx := block_lt_of cx
      have lb := block_lt_of cb2
      clear cb za Ba
      refine wp_calm ?_
      refine wp_region_oc (fun _ w' => Below (wb).drew.heap.size (wb).drew w') [1, 4] [(16, 1, [7, 3, 2]), (16, 4, [7, 6, 5]), (18, 1, [16, 7, 3, 2]), (18, 4, [16, 7, 6, 5])] (.move 0 (.take 1 (.move 2 (.move 3 (.take 4 (.move 5 (.move 6 (.move 7 (.move 8 (.move 9 (.move 10 (.move 11 (.move 12 (.move 13 (.move 14 (.move 15 (.move 17 (.run 16 [] (.run 18 [] (.move 19 .done)))))))))))))))))))) (by kernel_rfl) (by kernel_rfl) (fun _ _ _ _ _ h => nomatch h.1) ?_
      have hS0 : Below (wb).drew.heap.size (wb).drew (wb).drew := Below.refl _ _
      refine os_move rfl rfl rfl (Nat.le_of_ble_eq_true rfl) ?_
      apply Exists.intro
      refine ⟨fun w' K hK => ?_, ?_⟩
      (focus
        go_simp
        exact hK)
      refine os_yld hS0 rfl rfl rfl (Nat.le_of_ble_eq_true rfl) ?_
      apply Exists.intro
      refine ⟨fun w' hS' K hK => ?_, ?_⟩
      (focus
        obtain ⟨hcc, hff⟩ := bcellB (Below.undr hS')
        clear hS'
        go_simp
        exact hK)
      refine os_move rfl rfl rfl (Nat.le_of_ble_eq_true rfl) ?_
      apply Exists.intro
      refine ⟨fun w' K hK => ?_, ?_⟩
      (focus
        go_simp
        exact hK)
      refine os_move rfl rfl rfl (Nat.le_of_ble_eq_true rfl) ?_
      apply Exists.intro
      refine ⟨fun w' K hK => ?_, ?_⟩
      (focus
        go_simp
        exact hK)
      refine os_yldg hS0 rfl rfl rfl (Nat.le_of_ble_eq_true rfl) ?_
      apply Exists.intro
      refine ⟨fun w' hS' K hK => ?_, ?_⟩
      (focus
        obtain ⟨hcc, hff⟩ := bcellB (Below.undr hS')
        clear hS'
        go_simp
        exact hK)
      refine os_moveg rfl rfl rfl (Nat.le_of_ble_eq_true rfl) ?_
      apply Exists.intro
      refine ⟨fun w' K hK => ?_, ?_⟩
      (focus
        go_simp
        exact hK)
      refine os_move rfl rfl rfl (Nat.le_of_ble_eq_true rfl) ?_
      apply Exists.intro
      refine ⟨fun w' K hK => ?_, ?_⟩
      (focus
        go_simp
        exact hK)
      refine os_move rfl rfl rfl (Nat.le_of_ble_eq_true rfl) ?_
      apply Exists.intro
      refine ⟨fun w' K hK => ?_, ?_⟩
      (focus
        go_simp
        exact hK)
      refine os_skip rfl rfl rfl ?_
      apply Exists.intro
      refine ⟨?_, ?_⟩
      (focus
        simp only [Act.put, List.setIfInBounds_toArray, List.set_cons_succ, List.set_cons_zero]
        rfl)
      refine os_skip rfl rfl rfl ?_
      apply Exists.intro
      refine ⟨?_, ?_⟩
      (focus
        simp only [Act.put, List.setIfInBounds_toArray, List.set_cons_succ, List.set_cons_zero]
        rfl)
      refine os_skip rfl rfl rfl ?_
      apply Exists.intro
      refine ⟨?_, ?_⟩
      (focus
        simp only [Act.put, List.setIfInBounds_toArray, List.set_cons_succ, List.set_cons_zero]
        rfl)
      refine os_skip rfl rfl rfl ?_
      apply Exists.intro
      refine ⟨?_, ?_⟩
      (focus
        simp only [Act.put, List.setIfInBounds_toArray, List.set_cons_succ, List.set_cons_zero]
        rfl)
      refine os_skip rfl rfl rfl ?_
      apply Exists.intro
      refine ⟨?_, ?_⟩
      (focus
        simp only [Act.put, List.setIfInBounds_toArray, List.set_cons_succ, List.set_cons_zero]
        rfl)
      refine os_skip rfl rfl rfl ?_
      apply Exists.intro
      refine ⟨?_, ?_⟩
      (focus
        simp only [Act.put, List.setIfInBounds_toArray, List.set_cons_succ, List.set_cons_zero]
        rfl)
      refine os_skip rfl rfl rfl ?_
      apply Exists.intro
      refine ⟨?_, ?_⟩
      (focus
        simp only [Act.put, List.setIfInBounds_toArray, List.set_cons_succ, List.set_cons_zero]
        rfl)
      refine os_move rfl rfl rfl (Nat.le_of_ble_eq_true rfl) ?_
      apply Exists.intro
      refine ⟨fun w' K hK => ?_, ?_⟩
      (focus
        go_simp
        exact hK)
      refine os_move rfl rfl rfl (Nat.le_of_ble_eq_true rfl) ?_
      apply Exists.intro
      refine ⟨fun w' K hK => ?_, ?_⟩
      (focus
        go_simp
        exact hK)
      refine os_run rfl rfl (fun K hK => ?_)
      go_wp2_with fail
      refine (bad_any _ false).mono ?_
      rintro e wu ⟨rfl, rfl⟩
      go_wp2_with fail
      refine ⟨fun _ hk => absurd hk List.not_mem_nil, ?_⟩
      refine os_run rfl rfl (fun K hK => ?_)
      go_wp2_with fail
      refine (fin.out wb.drew (badE false) (by rw [Hc2.out]) (Below.tr Bb.out (Below.dr1 wb)) cb2 cx).mono ?_
      rintro e w2 ⟨rfl, hst⟩
      have HST := Lib.hid hst
      clear hst
      go_wp2_with fail
      refine ⟨fun _ hk => absurd hk List.not_mem_nil, ?_⟩
      refine os_move rfl rfl rfl (Nat.le_of_ble_eq_true rfl) ?_
      apply Exists.intro
      refine ⟨fun w' K hK => ?_, ?_⟩
      (focus
        go_simp
        exact hK)
      refine os_done ⟨rfl, ?_⟩
      go_wp2_with fail
      go_ret
      exact ⟨rfl, HST.out⟩
  · have hok' : okF f = false := by simpa using hok
    have Hc2 : Hid (cutOk D f n = false) := by show _ = _; unfold cutOk; rw [hok']; rfl
    have Hok := Lib.hid hok'
    clear h ok hdn hok hok'
    go_enter Try.func24, Try.ntmps24
    go_wp2_with fail
    refine (file_no _ g f Hok.out).mono ?_
    rintro e w1 ⟨rfl, rfl⟩
    go_wp2_with fail
    have Bb := Lib.hid (Below.tr Ba.out (Below.al (w.alloc (.cells #[.int .i64 n] 3)) (.cells #[.pointer none] 65)))
    have cx : ((w.alloc (.cells #[.int .i64 n] 3)).alloc (.cells #[.pointer none] 65)).cell? ⟨w.heap.size + 1, 0, none⟩ = some (.pointer none) := by
      have := cell_of_row _ (w.alloc (.cells #[.int .i64 n] 3)).heap.size 0 _ _ _ (heap_alloc_new (w.alloc (.cells #[.int .i64 n] 3)) (.cells #[.pointer none] 65))
      rw [za.out] at this; rw [this]; rfl
    generalize (w.alloc (.cells #[.int .i64 n] 3)).alloc (.cells #[.pointer none] 65) = wb at Bb cx ⊢
    have lx := block_lt_of cx
    clear cb za Ba
    refine wp_calm ?_
    refine wp_region_oc (fun _ w' => Below (wb).drew.heap.size (wb).drew w') [1] [(16, 1, [7, 3, 2]), (18, 1, [16, 7, 3, 2])] (.move 0 (.take 1 (.move 2 (.move 3 (.move 4 (.move 5 (.move 6 (.move 7 (.move 8 (.move 9 (.move 10 (.move 11 (.move 12 (.move 13 (.move 14 (.move 15 (.move 17 (.run 16 [] (.run 18 [] (.move 19 .done)))))))))))))))))))) (by kernel_rfl) (by kernel_rfl) (fun _ _ _ _ _ h => nomatch h.1) ?_
    have hS0 : Below (wb).drew.heap.size (wb).drew (wb).drew := Below.refl _ _
    refine os_move rfl rfl rfl (Nat.le_of_ble_eq_true rfl) ?_
    apply Exists.intro
    refine ⟨fun w' K hK => ?_, ?_⟩
    (focus
      go_simp
      exact hK)
    refine os_yld hS0 rfl rfl rfl (Nat.le_of_ble_eq_true rfl) ?_
    apply Exists.intro
    refine ⟨fun w' hS' K hK => ?_, ?_⟩
    (focus
      obtain ⟨hcc, hff⟩ := bcellB (Below.undr hS')
      clear hS'
      go_simp
      exact hK)
    refine os_move rfl rfl rfl (Nat.le_of_ble_eq_true rfl) ?_
    apply Exists.intro
    refine ⟨fun w' K hK => ?_, ?_⟩
    (focus
      go_simp
      exact hK)
    refine os_move rfl rfl rfl (Nat.le_of_ble_eq_true rfl) ?_
    apply Exists.intro
    refine ⟨fun w' K hK => ?_, ?_⟩
    (focus
      go_simp
      exact hK)
    refine os_skip rfl rfl rfl ?_
    apply Exists.intro
    refine ⟨?_, ?_⟩
    (focus
      simp only [Act.put, List.setIfInBounds_toArray, List.set_cons_succ, List.set_cons_zero]
      rfl)
    refine os_skip rfl rfl rfl ?_
    apply Exists.intro
    refine ⟨?_, ?_⟩
    (focus
      simp only [Act.put, List.setIfInBounds_toArray, List.set_cons_succ, List.set_cons_zero]
      rfl)
    refine os_move rfl rfl rfl (Nat.le_of_ble_eq_true rfl) ?_
    apply Exists.intro
    refine ⟨fun w' K hK => ?_, ?_⟩
    (focus
      go_simp
      exact hK)
    refine os_move rfl rfl rfl (Nat.le_of_ble_eq_true rfl) ?_
    apply Exists.intro
    refine ⟨fun w' K hK => ?_, ?_⟩
    (focus
      go_simp
      exact hK)
    refine os_skip rfl rfl rfl ?_
    apply Exists.intro
    refine ⟨?_, ?_⟩
    (focus
      simp only [Act.put, List.setIfInBounds_toArray, List.set_cons_succ, List.set_cons_zero]
      rfl)
    refine os_skip rfl rfl rfl ?_
    apply Exists.intro
    refine ⟨?_, ?_⟩
    (focus
      simp only [Act.put, List.setIfInBounds_toArray, List.set_cons_succ, List.set_cons_zero]
      rfl)
    refine os_skip rfl rfl rfl ?_
    apply Exists.intro
    refine ⟨?_, ?_⟩
    (focus
      simp only [Act.put, List.setIfInBounds_toArray, List.set_cons_succ, List.set_cons_zero]
      rfl)
    refine os_skip rfl rfl rfl ?_
    apply Exists.intro
    refine ⟨?_, ?_⟩
    (focus
      simp only [Act.put, List.setIfInBounds_toArray, List.set_cons_succ, List.set_cons_zero]
      rfl)
    refine os_skip rfl rfl rfl ?_
    apply Exists.intro
    refine ⟨?_, ?_⟩
    (focus
      simp only [Act.put, List.setIfInBounds_toArray, List.set_cons_succ, List.set_cons_zero]
      rfl)
    refine os_skip rfl rfl rfl ?_
    apply Exists.intro
    refine ⟨?_, ?_⟩
    (focus
      simp only [Act.put, List.setIfInBounds_toArray, List.set_cons_succ, List.set_cons_zero]
      rfl)
    refine os_skip rfl rfl rfl ?_
    apply Exists.intro
    refine ⟨?_, ?_⟩
    (focus
      simp only [Act.put, List.setIfInBounds_toArray, List.set_cons_succ, List.set_cons_zero]
      rfl)
    refine os_move rfl rfl rfl (Nat.le_of_ble_eq_true rfl) ?_
    apply Exists.intro
    refine ⟨fun w' K hK => ?_, ?_⟩
    (focus
      go_simp
      exact hK)
    refine os_move rfl rfl rfl (Nat.le_of_ble_eq_true rfl) ?_
    apply Exists.intro
    refine ⟨fun w' K hK => ?_, ?_⟩
    (focus
      go_simp
      exact hK)
    refine os_run rfl rfl (fun K hK => ?_)
    go_wp2_with fail
    refine (bad_any _ false).mono ?_
    rintro e wu ⟨rfl, rfl⟩
    go_wp2_with fail
    refine ⟨fun _ hk => absurd hk List.not_mem_nil, ?_⟩
    refine os_run rfl rfl (fun K hK => ?_)
    go_wp2_with fail
    refine (operate_any (H.out.bel (Below.tr Bb.out (Below.dr1 wb))) OK.out HN.out (badE false) false 36 #[.pointer (some ⟨w.heap.size + 1, 0, none⟩), .pointer (some ⟨w.heap.size, 0, none⟩)] (D.cutF f n.toNat).fs eg_cut (fun e => absurd e (by decide))).mono ?_
    rintro e w2 ⟨rfl, hst⟩
    have HST := Lib.hid hst
    clear hst
    go_wp2_with fail
    refine ⟨fun _ hk => absurd hk List.not_mem_nil, ?_⟩
    refine os_move rfl rfl rfl (Nat.le_of_ble_eq_true rfl) ?_
    apply Exists.intro
    refine ⟨fun w' K hK => ?_, ?_⟩
    (focus
      go_simp
      exact hK)
    refine os_done ⟨rfl, ?_⟩
    go_wp2_with fail
    go_ret
    unfold cutD
    rw [Hc2.out]
    exact ⟨rfl, Dstep.old (Below.tr Bb.out (Below.dr1 wb)) HST.out⟩
end Go.Proofs.Ytjfnpndpigpaiaa
