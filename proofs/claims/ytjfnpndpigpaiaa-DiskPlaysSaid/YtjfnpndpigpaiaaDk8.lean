/- The disk: Write. -/
import Derived.Test.YtjfnpndpigpaiaaDk7
namespace Go.Proofs.Ytjfnpndpigpaiaa
open Go.RowKit
attribute [local go_sem] yld yldUpon_value

set_option maxRecDepth 100000 in
set_option maxHeartbeats 2000000 in
theorem Write_any {w : World} {g : Nat} {D : DD} {vs : Vs} (h : DiskAt w g D vs) (ok : DOK D) (hdn : D.done ≤ 1000000000) (f : Int)
    {F : Nat → Prop} {B : Option Addr} {m d : Nat} {b : List UInt8} (hS : Sl w F B m d b) (hF : ∀ k, F k → k < w.heap.size ∧ ¬ dfoot g vs k) (hm : m ≤ 140737488355328) :
    Calls Try.prog 18 #[.pointer (some ⟨g, 0, none⟩), .int .i64 f, .slice B m d] w fun e w' => e = .returned (.int .i64 (writeD D f b).1) ∧ Dstep g vs w w' (writeD D f b).2 := by
  have H := Lib.hid h; have OK := Lib.hid ok; have HN := Lib.hid hdn; have HS := Lib.hid hS; have HF := Lib.hid hF; have Hm := Lib.hid hm
  have hmf := hmf_
  have Ba : Hid (Below w.heap.size w (w.alloc (.cells #[.slice B m d] 31))) := Below.al _ _
  have za : Hid ((w.alloc (.cells #[.slice B m d] 31)).heap.size = w.heap.size + 1) := by show _ = _; simp
  have cb : Hid ((w.alloc (.cells #[.slice B m d] 31)).cell? ⟨w.heap.size, 0, none⟩ = some (.slice B m d)) := by
    show _ = _
    rw [cell_of_row _ w.heap.size 0 _ _ _ (heap_alloc_new w _)]; rfl
  by_cases hok : okF f = true
  · obtain ⟨n, rfl⟩ : ∃ n : Nat, f = n := ⟨f.toNat, by have := okF_iff.1 hok; omega⟩
    have hn33 : n < 33 := by have := okF_iff.1 hok; omega
    have Hn := Lib.hid hn33; have Hok := Lib.hid hok
    obtain ⟨R, hR⟩ : ∃ R, R = D.room := ⟨_, rfl⟩
    obtain ⟨U, hU⟩ : ∃ U, U = usedL D.fs := ⟨_, rfl⟩
    have hRb := ok.room
    have hUb := ok.used
    have hbl := hS.len
    rw [← hR] at hRb hUb
    rw [← hU] at hUb
    have HR := Lib.hid hR; have HU := Lib.hid hU; have Hbl := Lib.hid hbl
    have hw : Hid (writeR D n b = if (m : Int) > (R : Int) - U then 8 else 0) := by show _ = _; unfold writeR; rw [Hok.out, if_pos rfl, hbl, hR, hU]
    clear h ok hdn hn33 hok hS hF hm hR hU hbl
    have hRU : IntKind.i64.wrap ((R : Int) - (U : Int)) = (R : Int) - (U : Int) := IntWalk.i64_in _ (by omega)
    obtain ⟨rr, hrr⟩ : ∃ rr : Int, rr = writeR D n b := ⟨_, rfl⟩
    have Hrr := Lib.hid hrr
    have hcase : Hid ((decide ((R : Int) - (U : Int) < (m : Int)) = true ∧ rr = 8) ∨ (decide ((R : Int) - (U : Int) < (m : Int)) = false ∧ rr = 0 ∧ m ≤ R - U)) := by
      rw [hrr, hw.out]
      by_cases hfull : (m : Int) > (R : Int) - U
      · rw [if_pos hfull]; exact .inl ⟨decide_eq_true hfull, rfl⟩
      · rw [if_neg hfull]; exact .inr ⟨decide_eq_false hfull, rfl, by omega⟩
    clear hrr hw
    have fin : Hid (∀ wb, Below w.heap.size w wb → wb.cell? ⟨w.heap.size, 0, none⟩ = some (.slice B m d) → wb.cell? ⟨w.heap.size + 1, 0, none⟩ = some (.pointer (some ⟨g, 1 + n * 2, none⟩)) →
        Calls Try.prog 30 #[.pointer (some ⟨g, 0, none⟩), .int .i64 rr, .bool true, .func (.func 34) #[] #[.pointer (some ⟨w.heap.size + 1, 0, none⟩), .pointer (some ⟨w.heap.size, 0, none⟩)]] wb fun e w' =>
          e = .returned (.int .i64 (writeD D n b).1) ∧ Dstep g vs w w' (writeD D n b).2) := by
      intro wb hB hcb hcx
      have Da : DiskAt wb g D vs := H.out.bel hB
      have hg := H.out.gt
      have hr := operate_any Da OK.out HN.out (writeR D n b) true 34 #[.pointer (some ⟨w.heap.size + 1, 0, none⟩), .pointer (some ⟨w.heap.size, 0, none⟩)] (D.writeF n b).fs eg_write (fun e0 w1 D1 hfs hD1 hf1 => by
        have hx := cell_fr hcx hf1 (by intro e; have e' : w.heap.size + 1 = g := e; omega)
        have hbb := cell_fr hcb hf1 (by intro e; have e' : w.heap.size = g := e; omega)
        have hsz : wb.heap.size ≤ w1.heap.size := hf1.size
        have hS1 : Sl w1 F B m d b := (HS.out.belF hB (fun k hk => (HF.out k hk).1)).fr hf1 (fun k hk => ⟨Nat.lt_of_lt_of_le (HF.out k hk).1 hB.size, fun e => (HF.out k hk).2 (.inl e)⟩)
        have hfl : (D1.file n).d.length + m ≤ 1000000000 := by
          rw [file_of_fs hfs]
          have := OK.out.file_le n
          have := HR.out; have := HU.out
          rcases hcase.out with ⟨_, h8⟩ | ⟨_, _, hle⟩
          · rw [← Hrr.out] at e0; omega
          · omega
        have hfoot : ∀ k, w.heap.size ≤ k → ¬ dfoot g vs k := fun k hk => not_foot H.out hk
        refine (Write1_any hD1 Hn.out hx (hfoot _ (by omega)) (hfoot _ (Nat.le_refl _)) hbb hS1 hfl).mono fun e w' ⟨a, c⟩ => ⟨a, ?_⟩
        have e2 : D1.put n ⟨(D1.file n).d ++ b, (D1.file n).k⟩ = { D1 with fs := (D.writeF n b).fs } := by
          rw [file_of_fs hfs]; simp [DD.put, DD.writeF, hfs]
        rw [e2] at c; exact c)
      rw [← Hrr.out] at hr
      unfold writeD
      rw [← Hrr.out]
      exact hr.mono fun e w' ⟨a, c⟩ => ⟨a, Dstep.old hB c⟩
    rcases hcase.out with ⟨hd, rfl⟩ | ⟨hd, rfl, _⟩
    all_goals
      clear hcase
      go_enter Try.func18, Try.ntmps18
      go_wp2_with fail
      refine (file_yes _ g n Hn.out).mono ?_
      rintro e w1 ⟨rfl, rfl⟩
      go_wp2_with fail
      refine (bad_any _ true).mono ?_
      rintro e w1 ⟨rfl, rfl⟩
      have Bb := Lib.hid (Below.tr Ba.out (Below.al (w.alloc (.cells #[.slice B m d] 31)) (.cells #[.pointer (some ⟨g, 1 + n * 2, none⟩)] 65)))
      have cx : ((w.alloc (.cells #[.slice B m d] 31)).alloc (.cells #[.pointer (some ⟨g, 1 + n * 2, none⟩)] 65)).cell? ⟨w.heap.size + 1, 0, none⟩ = some (.pointer (some ⟨g, 1 + n * 2, none⟩)) := by
        have := cell_of_row _ (w.alloc (.cells #[.slice B m d] 31)).heap.size 0 _ _ _ (heap_alloc_new (w.alloc (.cells #[.slice B m d] 31)) (.cells #[.pointer (some ⟨g, 1 + n * 2, none⟩)] 65))
        rw [za.out] at this; rw [this]; rfl
      have cb2 := cell_bel cb.out (Below.al (w.alloc (.cells #[.slice B m d] 31)) (.cells #[.pointer (some ⟨g, 1 + n * 2, none⟩)] 65))
      generalize (w.alloc (.cells #[.slice B m d] 31)).alloc (.cells #[.pointer (some ⟨g, 1 + n * 2, none⟩)] 65) = wb at Bb cx cb2 ⊢
      have Db := Lib.hid (H.out.bel Bb.out)
      have cr : wb.cell? ⟨g, 0, none⟩ = some (.int .i64 (R : Nat)) := by rw [HR.out]; exact Db.out.cRoom
      have lg := Db.out.gt
      have lx := block_lt_of cx
      have lb := block_lt_of cb2
      go_wp2_with fail
      refine wp_calm ?_
      refine wp_region_os (fun _ w' => Below (wb).drew.heap.size (wb).drew w') [0, 3, 8] (.take 0 (.move 1 (.move 2 (.take 3 (.move 4 (.move 5 (.move 6 (.move 7 (.take 8 (.move 9 (.run 10 [0, 3, 8] (.move 11 (.move 12 (.move 13 .done)))))))))))))) (by kernel_rfl) (by kernel_rfl) (fun _ _ _ _ _ h => nomatch h.1) ?_
      have hS0 : Below (wb).drew.heap.size (wb).drew (wb).drew := Below.refl _ _
      refine os_yld hS0 rfl rfl rfl (Nat.le_of_ble_eq_true rfl) ?_
      apply Exists.intro
      refine ⟨fun w' hS' K hK => ?_, ?_⟩
      (focus
        obtain ⟨hcc, hff⟩ := bcellB (Below.undr hS')
        clear hS'
        go_simp
        exact hK)
      refine os_move rfl rfl rfl (Nat.le_of_ble_eq_true rfl) ?_
      apply Exists.intro
      refine ⟨fun w' K hK => ?_, ?_⟩
      (focus
        go_simp
        exact hK)
      refine os_move rfl rfl rfl (Nat.le_of_ble_eq_true rfl) ?_
      apply Exists.intro
      refine ⟨fun w' K hK => ?_, ?_⟩
      (focus
        go_simp
        exact hK)
      refine os_yldg hS0 rfl rfl rfl (Nat.le_of_ble_eq_true rfl) ?_
      apply Exists.intro
      refine ⟨fun w' hS' K hK => ?_, ?_⟩
      (focus
        obtain ⟨hcc, hff⟩ := bcellB (Below.undr hS')
        clear hS'
        go_simp
        exact hK)
      refine os_moveg rfl rfl rfl (Nat.le_of_ble_eq_true rfl) ?_
      apply Exists.intro
      refine ⟨fun w' K hK => ?_, ?_⟩
      (focus
        go_simp
        exact hK)
      refine os_moveg rfl rfl rfl (Nat.le_of_ble_eq_true rfl) ?_
      apply Exists.intro
      refine ⟨fun w' K hK => ?_, ?_⟩
      (focus
        go_simp
        exact hK)
      refine os_moveg rfl rfl rfl (Nat.le_of_ble_eq_true rfl) ?_
      apply Exists.intro
      refine ⟨fun w' K hK => ?_, ?_⟩
      (focus
        go_simp
        exact hK)
      refine os_moveg rfl rfl rfl (Nat.le_of_ble_eq_true rfl) ?_
      apply Exists.intro
      refine ⟨fun w' K hK => ?_, ?_⟩
      (focus
        go_simp
        exact hK)
      refine os_yldg hS0 rfl rfl rfl (Nat.le_of_ble_eq_true rfl) ?_
      apply Exists.intro
      refine ⟨fun w' hS' K hK => ?_, ?_⟩
      (focus
        obtain ⟨hcc, hff⟩ := bcellB (Below.undr hS')
        clear hS'
        go_simp
        exact hK)
      refine os_moveg rfl rfl rfl (Nat.le_of_ble_eq_true rfl) ?_
      apply Exists.intro
      refine ⟨fun w' K hK => ?_, ?_⟩
      (focus
        go_simp
        exact hK)
      refine os_run rfl rfl (fun K hK => ?_)
      go_wp2_with fail
      refine (Used_any (Db.out.bel (Below.dr1 wb)) (by have := OK.out.used; have := OK.out.room; omega)).mono ?_
      rintro e wu ⟨rfl, rfl⟩
      rw [← HU.out]
      go_wp2_with fail
      refine ⟨fun _ _ h => Below.tr h (Below.refl _ _), ?_⟩
      replace hS0 := Below.tr hS0 (Below.refl _ _)
      refine os_moveg rfl rfl rfl (Nat.le_of_ble_eq_true rfl) ?_
      apply Exists.intro
      refine ⟨fun w' K hK => ?_, ?_⟩
      (focus
        go_simp
        exact hK)
      refine os_moveg rfl rfl rfl (Nat.le_of_ble_eq_true rfl) ?_
      apply Exists.intro
      refine ⟨fun w' K hK => ?_, ?_⟩
      (focus
        go_simp
        exact hK)
      refine os_move rfl rfl rfl (Nat.le_of_ble_eq_true rfl) ?_
      apply Exists.intro
      refine ⟨fun w' K hK => ?_, ?_⟩
      (focus
        go_simp
        exact hK)
      refine os_done ⟨rfl, ?_⟩
      go_wp2_with fail
      refine (fin.out wb.drew (Below.tr Bb.out (Below.dr1 wb)) cb2 cx).mono ?_
      rintro e w2 ⟨rfl, hst⟩
      have HST := Lib.hid hst
      clear hst fin
      go_wp2_with fail
      go_ret
      exact ⟨rfl, HST.out⟩
  · have hok' : okF f = false := by simpa using hok
    have Hok := Lib.hid hok'
    clear h ok hdn hok hok' hS hF hm
    go_enter Try.func18, Try.ntmps18
    go_wp2_with fail
    refine (file_no _ g f Hok.out).mono ?_
    rintro e w1 ⟨rfl, rfl⟩
    go_wp2_with fail
    refine (bad_any _ false).mono ?_
    rintro e w1 ⟨rfl, rfl⟩
    have Bb := Lib.hid (Below.tr Ba.out (Below.al (w.alloc (.cells #[.slice B m d] 31)) (.cells #[.pointer none] 65)))
    have cx : ((w.alloc (.cells #[.slice B m d] 31)).alloc (.cells #[.pointer none] 65)).cell? ⟨w.heap.size + 1, 0, none⟩ = some (.pointer none) := by
      have := cell_of_row _ (w.alloc (.cells #[.slice B m d] 31)).heap.size 0 _ _ _ (heap_alloc_new (w.alloc (.cells #[.slice B m d] 31)) (.cells #[.pointer none] 65))
      rw [za.out] at this; rw [this]; rfl
    generalize (w.alloc (.cells #[.slice B m d] 31)).alloc (.cells #[.pointer none] 65) = wb at Bb cx ⊢
    have lx := block_lt_of cx
    clear cb za Ba
    go_wp2_with fail
    refine wp_calm ?_
    refine wp_region_os (fun _ w' => Below (wb).drew.heap.size (wb).drew w') [0] (.take 0 (.move 1 (.move 2 (.move 3 (.move 4 (.move 5 (.move 6 (.move 7 (.move 8 (.move 9 (.move 10 (.move 11 (.move 12 (.move 13 .done)))))))))))))) (by kernel_rfl) (by kernel_rfl) (fun _ _ _ _ _ h => nomatch h.1) ?_
    have hS0 : Below (wb).drew.heap.size (wb).drew (wb).drew := Below.refl _ _
    refine os_yld hS0 rfl rfl rfl (Nat.le_of_ble_eq_true rfl) ?_
    apply Exists.intro
    refine ⟨fun w' hS' K hK => ?_, ?_⟩
    (focus
      obtain ⟨hcc, hff⟩ := bcellB (Below.undr hS')
      clear hS'
      go_simp
      exact hK)
    refine os_move rfl rfl rfl (Nat.le_of_ble_eq_true rfl) ?_
    apply Exists.intro
    refine ⟨fun w' K hK => ?_, ?_⟩
    (focus
      go_simp
      exact hK)
    refine os_move rfl rfl rfl (Nat.le_of_ble_eq_true rfl) ?_
    apply Exists.intro
    refine ⟨fun w' K hK => ?_, ?_⟩
    (focus
      go_simp
      exact hK)
    refine os_skip rfl rfl rfl ?_
    apply Exists.intro
    refine ⟨?_, ?_⟩
    (focus
      simp only [Act.put, List.setIfInBounds_toArray, List.set_cons_succ, List.set_cons_zero]
      rfl)
    refine os_skip rfl rfl rfl ?_
    apply Exists.intro
    refine ⟨?_, ?_⟩
    (focus
      simp only [Act.put, List.setIfInBounds_toArray, List.set_cons_succ, List.set_cons_zero]
      rfl)
    refine os_skip rfl rfl rfl ?_
    apply Exists.intro
    refine ⟨?_, ?_⟩
    (focus
      simp only [Act.put, List.setIfInBounds_toArray, List.set_cons_succ, List.set_cons_zero]
      rfl)
    refine os_skip rfl rfl rfl ?_
    apply Exists.intro
    refine ⟨?_, ?_⟩
    (focus
      simp only [Act.put, List.setIfInBounds_toArray, List.set_cons_succ, List.set_cons_zero]
      rfl)
    refine os_skip rfl rfl rfl ?_
    apply Exists.intro
    refine ⟨?_, ?_⟩
    (focus
      simp only [Act.put, List.setIfInBounds_toArray, List.set_cons_succ, List.set_cons_zero]
      rfl)
    refine os_skip rfl rfl rfl ?_
    apply Exists.intro
    refine ⟨?_, ?_⟩
    (focus
      simp only [Act.put, List.setIfInBounds_toArray, List.set_cons_succ, List.set_cons_zero]
      rfl)
    refine os_skip rfl rfl rfl ?_
    apply Exists.intro
    refine ⟨?_, ?_⟩
    (focus
      simp only [Act.put, List.setIfInBounds_toArray, List.set_cons_succ, List.set_cons_zero]
      rfl)
    refine os_skip rfl rfl rfl ?_
    apply Exists.intro
    refine ⟨?_, ?_⟩
    (focus
      simp only [Act.put, List.setIfInBounds_toArray, List.set_cons_succ, List.set_cons_zero]
      rfl)
    refine os_skip rfl rfl rfl ?_
    apply Exists.intro
    refine ⟨?_, ?_⟩
    (focus
      simp only [Act.put, List.setIfInBounds_toArray, List.set_cons_succ, List.set_cons_zero]
      rfl)
    refine os_skip rfl rfl rfl ?_
    apply Exists.intro
    refine ⟨?_, ?_⟩
    (focus
      simp only [Act.put, List.setIfInBounds_toArray, List.set_cons_succ, List.set_cons_zero]
      rfl)
    refine os_move rfl rfl rfl (Nat.le_of_ble_eq_true rfl) ?_
    apply Exists.intro
    refine ⟨fun w' K hK => ?_, ?_⟩
    (focus
      go_simp
      exact hK)
    refine os_done ⟨rfl, ?_⟩
    go_wp2_with fail
    have hw : writeR D f b = badE false := by unfold writeR; rw [Hok.out]; rfl
    have hr := operate_any (H.out.bel (Below.tr Bb.out (Below.dr1 wb))) OK.out HN.out (badE false) true 34 #[.pointer (some ⟨w.heap.size + 1, 0, none⟩), .pointer (some ⟨w.heap.size, 0, none⟩)] (D.writeF f b).fs eg_write (fun e => absurd e (by decide))
    refine hr.mono ?_
    rintro e w2 ⟨rfl, hst⟩
    have HST := Lib.hid hst
    have HW := Lib.hid hw
    clear hst hr hw
    go_wp2_with fail
    go_ret
    unfold writeD
    rw [HW.out]
    exact ⟨rfl, Dstep.old (Below.tr Bb.out (Below.dr1 wb)) HST.out⟩
end Go.Proofs.Ytjfnpndpigpaiaa
