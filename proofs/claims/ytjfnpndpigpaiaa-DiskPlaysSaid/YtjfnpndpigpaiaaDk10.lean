/- The disk: Over. -/
import Derived.Test.YtjfnpndpigpaiaaDk9
namespace Go.Proofs.Ytjfnpndpigpaiaa
open Go.RowKit
attribute [local go_sem] yld yldUpon_value

set_option maxRecDepth 100000 in
set_option maxHeartbeats 4000000 in
theorem Over_any {w : World} {g : Nat} {D : DD} {vs : Vs} (h : DiskAt w g D vs) (ok : DOK D) (hdn : D.done ≤ 1000000000) (f n : Int)
    {F : Nat → Prop} {B : Option Addr} {m d : Nat} {b : List UInt8} (hS : Sl w F B m d b) (hF : ∀ k, F k → k < w.heap.size ∧ ¬ dfoot g vs k) (hm : m ≤ 140737488355328) :
    Calls Try.prog 19 #[.pointer (some ⟨g, 0, none⟩), .int .i64 f, .int .i64 n, .slice B m d] w fun e w' => e = .returned (.int .i64 (overD D f n b).1) ∧ Dstep g vs w w' (overD D f n b).2 := by
  have H := Lib.hid h; have OK := Lib.hid ok; have HN := Lib.hid hdn; have HS := Lib.hid hS; have HF := Lib.hid hF; have Hm := Lib.hid hm
  have hmf := hmf_
  obtain ⟨wa, hwa⟩ : ∃ wa, wa = (w.alloc (.cells #[.int .i64 n] 3)).alloc (.cells #[.slice B m d] 31) := ⟨_, rfl⟩
  have Ba : Hid (Below w.heap.size w wa) := by rw [hwa]; exact Below.tr (Below.al _ _) (Below.al _ _)
  have za : Hid (wa.heap.size = w.heap.size + 1 + 1) := by rw [hwa]; show _ = _; simp
  have ca : Hid (wa.cell? ⟨w.heap.size, 0, none⟩ = some (.int .i64 n)) := by
    rw [hwa]
    have h1 : (w.alloc (.cells #[.int .i64 n] 3)).cell? ⟨w.heap.size, 0, none⟩ = some (.int .i64 n) := by
      rw [cell_of_row _ w.heap.size 0 _ _ _ (heap_alloc_new w _)]; rfl
    exact cell_bel h1 (Below.al _ _)
  have cb : Hid (wa.cell? ⟨w.heap.size + 1, 0, none⟩ = some (.slice B m d)) := by
    rw [hwa]; show _ = _
    have := cell_of_row _ (w.alloc (.cells #[.int .i64 n] 3)).heap.size 0 _ _ _ (heap_alloc_new (w.alloc (.cells #[.int .i64 n] 3)) (.cells #[.slice B m d] 31))
    rw [World.size_alloc] at this; rw [this]; rfl
  have HWA := Lib.hid hwa
  have hbl := hS.len
  have Hbl := Lib.hid hbl
  by_cases hok : okF f = true
  · obtain ⟨k, rfl⟩ : ∃ k : Nat, f = k := ⟨f.toNat, by have := okF_iff.1 hok; omega⟩
    have hn33 : k < 33 := by have := okF_iff.1 hok; omega
    have Hn := Lib.hid hn33; have Hok := Lib.hid hok
    obtain ⟨V, hV⟩ : ∃ V, V = (D.file k).k := ⟨_, rfl⟩
    have HV := Lib.hid hV
    have hov : Hid (overOk D k n b.length = (decide (0 ≤ n) && (decide (n ≤ (V : Int)) && decide ((m : Int) ≤ (V : Int) - n)))) := by show _ = _; unfold overOk; rw [Hok.out, Bool.true_and, Int.toNat_natCast, hV, hbl]
    have hfl := ok.file_le k
    have hfk := ok.file_k k
    rw [← hV] at hfk
    have Hfl := Lib.hid hfl; have Hfk := Lib.hid hfk
    have hVb : V ≤ 262144 := Nat.le_trans hfk hfl
    clear h ok hdn hn33 hok hV hfl hfk hS hF hm hwa hbl
    have fin : Hid (∀ wb r, r = badE (overOk D k n b.length) → Below w.heap.size w wb → wb.cell? ⟨w.heap.size, 0, none⟩ = some (.int .i64 n) → wb.cell? ⟨w.heap.size + 1, 0, none⟩ = some (.slice B m d) → wb.cell? ⟨w.heap.size + 1 + 1, 0, none⟩ = some (.pointer (some ⟨g, 1 + k * 2, none⟩)) →
        Calls Try.prog 30 #[.pointer (some ⟨g, 0, none⟩), .int .i64 r, .bool false, .func (.func 35) #[] #[.pointer (some ⟨w.heap.size + 1 + 1, 0, none⟩), .pointer (some ⟨w.heap.size, 0, none⟩), .pointer (some ⟨w.heap.size + 1, 0, none⟩)]] wb fun e w' =>
          e = .returned (.int .i64 (overD D k n b).1) ∧ Dstep g vs w w' (overD D k n b).2) := by
      intro wb r hr0 hB hca hcb hcx
      subst hr0
      have Da : DiskAt wb g D vs := H.out.bel hB
      have hg := H.out.gt
      have hr := operate_any Da OK.out HN.out (badE (overOk D k n b.length)) false 35 #[.pointer (some ⟨w.heap.size + 1 + 1, 0, none⟩), .pointer (some ⟨w.heap.size, 0, none⟩), .pointer (some ⟨w.heap.size + 1, 0, none⟩)] (D.overF k n.toNat b).fs eg_over (fun e0 w1 D1 hfs hD1 hf1 => by
        have hx := cell_fr hcx hf1 (by intro e; have e' : w.heap.size + 1 + 1 = g := e; omega)
        have hbb := cell_fr hcb hf1 (by intro e; have e' : w.heap.size + 1 = g := e; omega)
        have haa := cell_fr hca hf1 (by intro e; have e' : w.heap.size = g := e; omega)
        have hcc : overOk D k n b.length = true := by
          cases hc : overOk D k n b.length with
          | true => rfl
          | false => rw [hc] at e0; exact absurd e0 (by decide)
        rw [hov.out] at hcc
        simp only [Bool.and_eq_true, decide_eq_true_eq] at hcc
        obtain ⟨a, rfl⟩ : ∃ a : Nat, n = a := ⟨n.toNat, by omega⟩
        have hfit : a + m ≤ (D.file k).d.length := by have := Hfk.out; omega
        have hS1 : Sl w1 F B m d b := (HS.out.belF hB (fun k hk => (HF.out k hk).1)).fr hf1 (fun k hk => ⟨Nat.lt_of_lt_of_le (HF.out k hk).1 hB.size, fun e => (HF.out k hk).2 (.inl e)⟩)
        have hfoot : ∀ k, w.heap.size ≤ k → ¬ dfoot g vs k := fun k hk => not_foot H.out hk
        refine (Over1_any hD1 Hn.out hx haa hbb hS1 (by rw [file_of_fs hfs]; exact hfit) (hfoot _ (by omega)) (hfoot _ (Nat.le_refl _)) (hfoot _ (by omega)) (by rw [file_of_fs hfs]; have := Hfl.out; omega)).mono fun e w' ⟨he, c⟩ => ⟨he, ?_⟩
        have e2 : D1.put k ⟨overL (D1.file k).d a b, (D1.file k).k⟩ = { D1 with fs := (D.overF k (a : Int).toNat b).fs } := by
          rw [file_of_fs hfs]; simp [DD.put, DD.overF, hfs]
        rw [e2] at c; exact c)
      unfold overD
      exact hr.mono fun e w' ⟨a, c⟩ => ⟨a, Dstep.old hB c⟩
    by_cases h0 : 0 ≤ n
    · have hd0 : decide (0 ≤ n) = true := decide_eq_true h0
      by_cases h1 : n ≤ (V : Int)
      · have hd1 : decide (n ≤ (V : Int)) = true := decide_eq_true h1
        obtain ⟨bt, hbt⟩ : ∃ bt, decide ((m : Int) ≤ (V : Int) - n) = bt := ⟨_, rfl⟩
        have Hc2 : Hid (overOk D k n b.length = bt) := by show _ = _; rw [hov.out, hd0, hd1, hbt]; rfl
        have hwr : IntKind.i64.wrap ((V : Int) - n) = (V : Int) - n := IntWalk.i64_in _ (by omega)
        clear hov
        go_enter Try.func19, Try.ntmps19
        go_wp2_with fail
        rw [← HWA.out]
        refine (file_yes _ g k Hn.out).mono ?_
        rintro e w1 ⟨rfl, rfl⟩
        go_wp2_with fail
        rw [za.out]
        have Bb := Lib.hid (Below.tr Ba.out (Below.al wa (.cells #[.pointer (some ⟨g, 1 + k * 2, none⟩)] 65)))
        have cx : (wa.alloc (.cells #[.pointer (some ⟨g, 1 + k * 2, none⟩)] 65)).cell? ⟨w.heap.size + 1 + 1, 0, none⟩ = some (.pointer (some ⟨g, 1 + k * 2, none⟩)) := by
          have := cell_of_row _ wa.heap.size 0 _ _ _ (heap_alloc_new wa (.cells #[.pointer (some ⟨g, 1 + k * 2, none⟩)] 65))
          rw [za.out] at this; rw [this]; rfl
        have ca2 := cell_bel ca.out (Below.al wa (.cells #[.pointer (some ⟨g, 1 + k * 2, none⟩)] 65))
        have cb2 := cell_bel cb.out (Below.al wa (.cells #[.pointer (some ⟨g, 1 + k * 2, none⟩)] 65))
        generalize wa.alloc (.cells #[.pointer (some ⟨g, 1 + k * 2, none⟩)] 65) = wb at Bb cx ca2 cb2 ⊢
        have lx := block_lt_of cx
        have la := block_lt_of ca2
        have lb := block_lt_of cb2
        have Db := Lib.hid (H.out.bel Bb.out)
        have cd : wb.cell? ⟨g, 1 + k * 2 + 1, none⟩ = some (.int .i64 (V : Nat)) := by rw [HV.out]; exact Db.out.cLast k Hn.out
        have lg := Db.out.gt
        refine wp_calm ?_
        refine wp_region_oc (fun _ w' => Below (wb).drew.heap.size (wb).drew w') [1, 4, 8, 9, 12, 16, 18, 21, 22] [(26, 1, [15, 7, 3, 2]), (26, 4, [15, 7, 6, 5]), (26, 8, [15, 14, 13]), (26, 9, [15, 14, 13, 12, 11, 10]), (26, 12, [15, 14, 13]), (26, 16, [25, 24, 17]), (26, 18, [25, 24, 23, 21, 20, 19]), (26, 21, [25, 24, 23]), (26, 22, [25, 24, 23]), (28, 1, [26, 15, 7, 3, 2]), (28, 4, [26, 15, 7, 6, 5]), (28, 8, [26, 15, 14, 13]), (28, 9, [26, 15, 14, 13, 12, 11, 10]), (28, 12, [26, 15, 14, 13]), (28, 16, [26, 25, 24, 17]), (28, 18, [26, 25, 24, 23, 21, 20, 19]), (28, 21, [26, 25, 24, 23]), (28, 22, [26, 25, 24, 23])] (.move 0 (.take 1 (.move 2 (.move 3 (.take 4 (.move 5 (.move 6 (.move 7 (.take 8 (.take 9 (.move 10 (.move 11 (.take 12 (.move 13 (.move 14 (.move 15 (.take 16 (.move 17 (.take 18 (.move 19 (.move 20 (.take 21 (.take 22 (.move 23 (.move 24 (.move 25 (.move 27 (.run 26 [] (.run 28 [] (.move 29 .done)))))))))))))))))))))))))))))) (by kernel_rfl) (by kernel_rfl) (fun _ _ _ _ _ h => nomatch h.1) ?_
        have hS0 : Below (wb).drew.heap.size (wb).drew (wb).drew := Below.refl _ _
        refine os_move rfl rfl rfl (Nat.le_of_ble_eq_true rfl) ?_
        apply Exists.intro
        refine ⟨fun w' K hK => ?_, ?_⟩
        (focus
          go_simp
          exact hK)
        refine os_yld hS0 rfl rfl rfl (Nat.le_of_ble_eq_true rfl) ?_
        apply Exists.intro
        refine ⟨fun w' hS' K hK => ?_, ?_⟩
        (focus
          obtain ⟨hcc, hff⟩ := bcellB (Below.undr hS')
          clear hS'
          go_simp
          exact hK)
        refine os_move rfl rfl rfl (Nat.le_of_ble_eq_true rfl) ?_
        apply Exists.intro
        refine ⟨fun w' K hK => ?_, ?_⟩
        (focus
          go_simp
          exact hK)
        refine os_move rfl rfl rfl (Nat.le_of_ble_eq_true rfl) ?_
        apply Exists.intro
        refine ⟨fun w' K hK => ?_, ?_⟩
        (focus
          go_simp
          exact hK)
        refine os_yldg hS0 rfl rfl rfl (Nat.le_of_ble_eq_true rfl) ?_
        apply Exists.intro
        refine ⟨fun w' hS' K hK => ?_, ?_⟩
        (focus
          obtain ⟨hcc, hff⟩ := bcellB (Below.undr hS')
          clear hS'
          go_simp
          exact hK)
        refine os_moveg rfl rfl rfl (Nat.le_of_ble_eq_true rfl) ?_
        apply Exists.intro
        refine ⟨fun w' K hK => ?_, ?_⟩
        (focus
          go_simp
          exact hK)
        refine os_move rfl rfl rfl (Nat.le_of_ble_eq_true rfl) ?_
        apply Exists.intro
        refine ⟨fun w' K hK => ?_, ?_⟩
        (focus
          go_simp
          exact hK)
        refine os_move rfl rfl rfl (Nat.le_of_ble_eq_true rfl) ?_
        apply Exists.intro
        refine ⟨fun w' K hK => ?_, ?_⟩
        (focus
          go_simp
          exact hK)
        refine os_yldg hS0 rfl rfl rfl (Nat.le_of_ble_eq_true rfl) ?_
        apply Exists.intro
        refine ⟨fun w' hS' K hK => ?_, ?_⟩
        (focus
          obtain ⟨hcc, hff⟩ := bcellB (Below.undr hS')
          clear hS'
          go_simp
          exact hK)
        refine os_yldg hS0 rfl rfl rfl (Nat.le_of_ble_eq_true rfl) ?_
        apply Exists.intro
        refine ⟨fun w' hS' K hK => ?_, ?_⟩
        (focus
          obtain ⟨hcc, hff⟩ := bcellB (Below.undr hS')
          clear hS'
          go_simp
          exact hK)
        refine os_moveg rfl rfl rfl (Nat.le_of_ble_eq_true rfl) ?_
        apply Exists.intro
        refine ⟨fun w' K hK => ?_, ?_⟩
        (focus
          go_simp
          exact hK)
        refine os_moveg rfl rfl rfl (Nat.le_of_ble_eq_true rfl) ?_
        apply Exists.intro
        refine ⟨fun w' K hK => ?_, ?_⟩
        (focus
          go_simp
          exact hK)
        refine os_yldg hS0 rfl rfl rfl (Nat.le_of_ble_eq_true rfl) ?_
        apply Exists.intro
        refine ⟨fun w' hS' K hK => ?_, ?_⟩
        (focus
          obtain ⟨hcc, hff⟩ := bcellB (Below.undr hS')
          clear hS'
          go_simp
          exact hK)
        refine os_moveg rfl rfl rfl (Nat.le_of_ble_eq_true rfl) ?_
        apply Exists.intro
        refine ⟨fun w' K hK => ?_, ?_⟩
        (focus
          go_simp
          exact hK)
        refine os_move rfl rfl rfl (Nat.le_of_ble_eq_true rfl) ?_
        apply Exists.intro
        refine ⟨fun w' K hK => ?_, ?_⟩
        (focus
          go_simp
          exact hK)
        refine os_move rfl rfl rfl (Nat.le_of_ble_eq_true rfl) ?_
        apply Exists.intro
        refine ⟨fun w' K hK => ?_, ?_⟩
        (focus
          go_simp
          exact hK)
        refine os_yldg hS0 rfl rfl rfl (Nat.le_of_ble_eq_true rfl) ?_
        apply Exists.intro
        refine ⟨fun w' hS' K hK => ?_, ?_⟩
        (focus
          obtain ⟨hcc, hff⟩ := bcellB (Below.undr hS')
          clear hS'
          go_simp
          exact hK)
        refine os_moveg rfl rfl rfl (Nat.le_of_ble_eq_true rfl) ?_
        apply Exists.intro
        refine ⟨fun w' K hK => ?_, ?_⟩
        (focus
          go_simp
          exact hK)
        refine os_yldg hS0 rfl rfl rfl (Nat.le_of_ble_eq_true rfl) ?_
        apply Exists.intro
        refine ⟨fun w' hS' K hK => ?_, ?_⟩
        (focus
          obtain ⟨hcc, hff⟩ := bcellB (Below.undr hS')
          clear hS'
          go_simp
          exact hK)
        refine os_moveg rfl rfl rfl (Nat.le_of_ble_eq_true rfl) ?_
        apply Exists.intro
        refine ⟨fun w' K hK => ?_, ?_⟩
        (focus
          go_simp
          exact hK)
        refine os_moveg rfl rfl rfl (Nat.le_of_ble_eq_true rfl) ?_
        apply Exists.intro
        refine ⟨fun w' K hK => ?_, ?_⟩
        (focus
          go_simp
          exact hK)
        refine os_yldg hS0 rfl rfl rfl (Nat.le_of_ble_eq_true rfl) ?_
        apply Exists.intro
        refine ⟨fun w' hS' K hK => ?_, ?_⟩
        (focus
          obtain ⟨hcc, hff⟩ := bcellB (Below.undr hS')
          clear hS'
          go_simp
          exact hK)
        refine os_yldg hS0 rfl rfl rfl (Nat.le_of_ble_eq_true rfl) ?_
        apply Exists.intro
        refine ⟨fun w' hS' K hK => ?_, ?_⟩
        (focus
          obtain ⟨hcc, hff⟩ := bcellB (Below.undr hS')
          clear hS'
          go_simp
          exact hK)
        refine os_moveg rfl rfl rfl (Nat.le_of_ble_eq_true rfl) ?_
        apply Exists.intro
        refine ⟨fun w' K hK => ?_, ?_⟩
        (focus
          go_simp
          exact hK)
        refine os_moveg rfl rfl rfl (Nat.le_of_ble_eq_true rfl) ?_
        apply Exists.intro
        refine ⟨fun w' K hK => ?_, ?_⟩
        (focus
          go_simp
          exact hK)
        refine os_move rfl rfl rfl (Nat.le_of_ble_eq_true rfl) ?_
        apply Exists.intro
        refine ⟨fun w' K hK => ?_, ?_⟩
        (focus
          go_simp
          exact hK)
        refine os_move rfl rfl rfl (Nat.le_of_ble_eq_true rfl) ?_
        apply Exists.intro
        refine ⟨fun w' K hK => ?_, ?_⟩
        (focus
          go_simp
          exact hK)
        refine os_run rfl rfl (fun K hK => ?_)
        go_wp2_with fail
        refine (bad_any _ bt).mono ?_
        rintro e wu ⟨rfl, rfl⟩
        go_wp2_with fail
        refine ⟨fun _ hk => absurd hk List.not_mem_nil, ?_⟩
        refine os_run rfl rfl (fun K hK => ?_)
        go_wp2_with fail
        refine (fin.out wb.drew (badE bt) (by rw [Hc2.out]) (Below.tr Bb.out (Below.dr1 wb)) ca2 cb2 cx).mono ?_
        rintro e w2 ⟨rfl, hst⟩
        have HST := Lib.hid hst
        clear hst
        go_wp2_with fail
        refine ⟨fun _ hk => absurd hk List.not_mem_nil, ?_⟩
        refine os_move rfl rfl rfl (Nat.le_of_ble_eq_true rfl) ?_
        apply Exists.intro
        refine ⟨fun w' K hK => ?_, ?_⟩
        (focus
          go_simp
          exact hK)
        refine os_done ⟨rfl, ?_⟩
        go_wp2_with fail
        go_ret
        exact ⟨rfl, HST.out⟩
      · have hd1 : decide (n ≤ (V : Int)) = false := decide_eq_false h1
        have Hc2 : Hid (overOk D k n b.length = false) := by show _ = _; rw [hov.out, hd0, hd1]; rfl
        clear hov
        go_enter Try.func19, Try.ntmps19
        go_wp2_with fail
        rw [← HWA.out]
        refine (file_yes _ g k Hn.out).mono ?_
        rintro e w1 ⟨rfl, rfl⟩
        go_wp2_with fail
        rw [za.out]
        have Bb := Lib.hid (Below.tr Ba.out (Below.al wa (.cells #[.pointer (some ⟨g, 1 + k * 2, none⟩)] 65)))
        have cx : (wa.alloc (.cells #[.pointer (some ⟨g, 1 + k * 2, none⟩)] 65)).cell? ⟨w.heap.size + 1 + 1, 0, none⟩ = some (.pointer (some ⟨g, 1 + k * 2, none⟩)) := by
          have := cell_of_row _ wa.heap.size 0 _ _ _ (heap_alloc_new wa (.cells #[.pointer (some ⟨g, 1 + k * 2, none⟩)] 65))
          rw [za.out] at this; rw [this]; rfl
        have ca2 := cell_bel ca.out (Below.al wa (.cells #[.pointer (some ⟨g, 1 + k * 2, none⟩)] 65))
        have cb2 := cell_bel cb.out (Below.al wa (.cells #[.pointer (some ⟨g, 1 + k * 2, none⟩)] 65))
        generalize wa.alloc (.cells #[.pointer (some ⟨g, 1 + k * 2, none⟩)] 65) = wb at Bb cx ca2 cb2 ⊢
        have lx := block_lt_of cx
        have la := block_lt_of ca2
        have lb := block_lt_of cb2
        have Db := Lib.hid (H.out.bel Bb.out)
        have cd : wb.cell? ⟨g, 1 + k * 2 + 1, none⟩ = some (.int .i64 (V : Nat)) := by rw [HV.out]; exact Db.out.cLast k Hn.out
        have lg := Db.out.gt
        refine wp_calm ?_
        refine wp_region_oc (fun _ w' => Below (wb).drew.heap.size (wb).drew w') [1, 4, 8, 9, 12] [(26, 1, [15, 7, 3, 2]), (26, 4, [15, 7, 6, 5]), (26, 8, [15, 14, 13]), (26, 9, [15, 14, 13, 12, 11, 10]), (26, 12, [15, 14, 13]), (28, 1, [26, 15, 7, 3, 2]), (28, 4, [26, 15, 7, 6, 5]), (28, 8, [26, 15, 14, 13]), (28, 9, [26, 15, 14, 13, 12, 11, 10]), (28, 12, [26, 15, 14, 13])] (.move 0 (.take 1 (.move 2 (.move 3 (.take 4 (.move 5 (.move 6 (.move 7 (.take 8 (.take 9 (.move 10 (.move 11 (.take 12 (.move 13 (.move 14 (.move 15 (.move 16 (.move 17 (.move 18 (.move 19 (.move 20 (.move 21 (.move 22 (.move 23 (.move 24 (.move 25 (.move 27 (.run 26 [] (.run 28 [] (.move 29 .done)))))))))))))))))))))))))))))) (by kernel_rfl) (by kernel_rfl) (fun _ _ _ _ _ h => nomatch h.1) ?_
        have hS0 : Below (wb).drew.heap.size (wb).drew (wb).drew := Below.refl _ _
        refine os_move rfl rfl rfl (Nat.le_of_ble_eq_true rfl) ?_
        apply Exists.intro
        refine ⟨fun w' K hK => ?_, ?_⟩
        (focus
          go_simp
          exact hK)
        refine os_yld hS0 rfl rfl rfl (Nat.le_of_ble_eq_true rfl) ?_
        apply Exists.intro
        refine ⟨fun w' hS' K hK => ?_, ?_⟩
        (focus
          obtain ⟨hcc, hff⟩ := bcellB (Below.undr hS')
          clear hS'
          go_simp
          exact hK)
        refine os_move rfl rfl rfl (Nat.le_of_ble_eq_true rfl) ?_
        apply Exists.intro
        refine ⟨fun w' K hK => ?_, ?_⟩
        (focus
          go_simp
          exact hK)
        refine os_move rfl rfl rfl (Nat.le_of_ble_eq_true rfl) ?_
        apply Exists.intro
        refine ⟨fun w' K hK => ?_, ?_⟩
        (focus
          go_simp
          exact hK)
        refine os_yldg hS0 rfl rfl rfl (Nat.le_of_ble_eq_true rfl) ?_
        apply Exists.intro
        refine ⟨fun w' hS' K hK => ?_, ?_⟩
        (focus
          obtain ⟨hcc, hff⟩ := bcellB (Below.undr hS')
          clear hS'
          go_simp
          exact hK)
        refine os_moveg rfl rfl rfl (Nat.le_of_ble_eq_true rfl) ?_
        apply Exists.intro
        refine ⟨fun w' K hK => ?_, ?_⟩
        (focus
          go_simp
          exact hK)
        refine os_move rfl rfl rfl (Nat.le_of_ble_eq_true rfl) ?_
        apply Exists.intro
        refine ⟨fun w' K hK => ?_, ?_⟩
        (focus
          go_simp
          exact hK)
        refine os_move rfl rfl rfl (Nat.le_of_ble_eq_true rfl) ?_
        apply Exists.intro
        refine ⟨fun w' K hK => ?_, ?_⟩
        (focus
          go_simp
          exact hK)
        refine os_yldg hS0 rfl rfl rfl (Nat.le_of_ble_eq_true rfl) ?_
        apply Exists.intro
        refine ⟨fun w' hS' K hK => ?_, ?_⟩
        (focus
          obtain ⟨hcc, hff⟩ := bcellB (Below.undr hS')
          clear hS'
          go_simp
          exact hK)
        refine os_yldg hS0 rfl rfl rfl (Nat.le_of_ble_eq_true rfl) ?_
        apply Exists.intro
        refine ⟨fun w' hS' K hK => ?_, ?_⟩
        (focus
          obtain ⟨hcc, hff⟩ := bcellB (Below.undr hS')
          clear hS'
          go_simp
          exact hK)
        refine os_moveg rfl rfl rfl (Nat.le_of_ble_eq_true rfl) ?_
        apply Exists.intro
        refine ⟨fun w' K hK => ?_, ?_⟩
        (focus
          go_simp
          exact hK)
        refine os_moveg rfl rfl rfl (Nat.le_of_ble_eq_true rfl) ?_
        apply Exists.intro
        refine ⟨fun w' K hK => ?_, ?_⟩
        (focus
          go_simp
          exact hK)
        refine os_yldg hS0 rfl rfl rfl (Nat.le_of_ble_eq_true rfl) ?_
        apply Exists.intro
        refine ⟨fun w' hS' K hK => ?_, ?_⟩
        (focus
          obtain ⟨hcc, hff⟩ := bcellB (Below.undr hS')
          clear hS'
          go_simp
          exact hK)
        refine os_moveg rfl rfl rfl (Nat.le_of_ble_eq_true rfl) ?_
        apply Exists.intro
        refine ⟨fun w' K hK => ?_, ?_⟩
        (focus
          go_simp
          exact hK)
        refine os_move rfl rfl rfl (Nat.le_of_ble_eq_true rfl) ?_
        apply Exists.intro
        refine ⟨fun w' K hK => ?_, ?_⟩
        (focus
          go_simp
          exact hK)
        refine os_move rfl rfl rfl (Nat.le_of_ble_eq_true rfl) ?_
        apply Exists.intro
        refine ⟨fun w' K hK => ?_, ?_⟩
        (focus
          go_simp
          exact hK)
        refine os_skip rfl rfl rfl ?_
        apply Exists.intro
        refine ⟨?_, ?_⟩
        (focus
          simp only [Act.put, List.setIfInBounds_toArray, List.set_cons_succ, List.set_cons_zero]
          rfl)
        refine os_skip rfl rfl rfl ?_
        apply Exists.intro
        refine ⟨?_, ?_⟩
        (focus
          simp only [Act.put, List.setIfInBounds_toArray, List.set_cons_succ, List.set_cons_zero]
          rfl)
        refine os_skip rfl rfl rfl ?_
        apply Exists.intro
        refine ⟨?_, ?_⟩
        (focus
          simp only [Act.put, List.setIfInBounds_toArray, List.set_cons_succ, List.set_cons_zero]
          rfl)
        refine os_skip rfl rfl rfl ?_
        apply Exists.intro
        refine ⟨?_, ?_⟩
        (focus
          simp only [Act.put, List.setIfInBounds_toArray, List.set_cons_succ, List.set_cons_zero]
          rfl)
        refine os_skip rfl rfl rfl ?_
        apply Exists.intro
        refine ⟨?_, ?_⟩
        (focus
          simp only [Act.put, List.setIfInBounds_toArray, List.set_cons_succ, List.set_cons_zero]
          rfl)
        refine os_skip rfl rfl rfl ?_
        apply Exists.intro
        refine ⟨?_, ?_⟩
        (focus
          simp only [Act.put, List.setIfInBounds_toArray, List.set_cons_succ, List.set_cons_zero]
          rfl)
        refine os_skip rfl rfl rfl ?_
        apply Exists.intro
        refine ⟨?_, ?_⟩
        (focus
          simp only [Act.put, List.setIfInBounds_toArray, List.set_cons_succ, List.set_cons_zero]
          rfl)
        refine os_skip rfl rfl rfl ?_
        apply Exists.intro
        refine ⟨?_, ?_⟩
        (focus
          simp only [Act.put, List.setIfInBounds_toArray, List.set_cons_succ, List.set_cons_zero]
          rfl)
        refine os_skip rfl rfl rfl ?_
        apply Exists.intro
        refine ⟨?_, ?_⟩
        (focus
          simp only [Act.put, List.setIfInBounds_toArray, List.set_cons_succ, List.set_cons_zero]
          rfl)
        refine os_move rfl rfl rfl (Nat.le_of_ble_eq_true rfl) ?_
        apply Exists.intro
        refine ⟨fun w' K hK => ?_, ?_⟩
        (focus
          go_simp
          exact hK)
        refine os_move rfl rfl rfl (Nat.le_of_ble_eq_true rfl) ?_
        apply Exists.intro
        refine ⟨fun w' K hK => ?_, ?_⟩
        (focus
          go_simp
          exact hK)
        refine os_run rfl rfl (fun K hK => ?_)
        go_wp2_with fail
        refine (bad_any _ false).mono ?_
        rintro e wu ⟨rfl, rfl⟩
        go_wp2_with fail
        refine ⟨fun _ hk => absurd hk List.not_mem_nil, ?_⟩
        refine os_run rfl rfl (fun K hK => ?_)
        go_wp2_with fail
        refine (fin.out wb.drew (badE false) (by rw [Hc2.out]) (Below.tr Bb.out (Below.dr1 wb)) ca2 cb2 cx).mono ?_
        rintro e w2 ⟨rfl, hst⟩
        have HST := Lib.hid hst
        clear hst
        go_wp2_with fail
        refine ⟨fun _ hk => absurd hk List.not_mem_nil, ?_⟩
        refine os_move rfl rfl rfl (Nat.le_of_ble_eq_true rfl) ?_
        apply Exists.intro
        refine ⟨fun w' K hK => ?_, ?_⟩
        (focus
          go_simp
          exact hK)
        refine os_done ⟨rfl, ?_⟩
        go_wp2_with fail
        go_ret
        exact ⟨rfl, HST.out⟩
    · have hd0 : decide (0 ≤ n) = false := decide_eq_false h0
      have Hc2 : Hid (overOk D k n b.length = false) := by show _ = _; rw [hov.out, hd0]; rfl
      clear hov
      go_enter Try.func19, Try.ntmps19
      go_wp2_with fail
      rw [← HWA.out]
      refine (file_yes _ g k Hn.out).mono ?_
      rintro e w1 ⟨rfl, rfl⟩
      go_wp2_with fail
      rw [za.out]
      have Bb := Lib.hid (Below.tr Ba.out (Below.al wa (.cells #[.pointer (some ⟨g, 1 + k * 2, none⟩)] 65)))
      have cx : (wa.alloc (.cells #[.pointer (some ⟨g, 1 + k * 2, none⟩)] 65)).cell? ⟨w.heap.size + 1 + 1, 0, none⟩ = some (.pointer (some ⟨g, 1 + k * 2, none⟩)) := by
        have := cell_of_row _ wa.heap.size 0 _ _ _ (heap_alloc_new wa (.cells #[.pointer (some ⟨g, 1 + k * 2, none⟩)] 65))
        rw [za.out] at this; rw [this]; rfl
      have ca2 := cell_bel ca.out (Below.al wa (.cells #[.pointer (some ⟨g, 1 + k * 2, none⟩)] 65))
      have cb2 := cell_bel cb.out (Below.al wa (.cells #[.pointer (some ⟨g, 1 + k * 2, none⟩)] 65))
      generalize wa.alloc (.cells #[.pointer (some ⟨g, 1 + k * 2, none⟩)] 65) = wb at Bb cx ca2 cb2 ⊢
      have lx := block_lt_of cx
      have la := block_lt_of ca2
      have lb := block_lt_of cb2
      have Db := Lib.hid (H.out.bel Bb.out)
      have cd : wb.cell? ⟨g, 1 + k * 2 + 1, none⟩ = some (.int .i64 (V : Nat)) := by rw [HV.out]; exact Db.out.cLast k Hn.out
      have lg := Db.out.gt
      refine wp_calm ?_
      refine wp_region_oc (fun _ w' => Below (wb).drew.heap.size (wb).drew w') [1, 4] [(26, 1, [15, 7, 3, 2]), (26, 4, [15, 7, 6, 5]), (28, 1, [26, 15, 7, 3, 2]), (28, 4, [26, 15, 7, 6, 5])] (.move 0 (.take 1 (.move 2 (.move 3 (.take 4 (.move 5 (.move 6 (.move 7 (.move 8 (.move 9 (.move 10 (.move 11 (.move 12 (.move 13 (.move 14 (.move 15 (.move 16 (.move 17 (.move 18 (.move 19 (.move 20 (.move 21 (.move 22 (.move 23 (.move 24 (.move 25 (.move 27 (.run 26 [] (.run 28 [] (.move 29 .done)))))))))))))))))))))))))))))) (by kernel_rfl) (by kernel_rfl) (fun _ _ _ _ _ h => nomatch h.1) ?_
      have hS0 : Below (wb).drew.heap.size (wb).drew (wb).drew := Below.refl _ _
      refine os_move rfl rfl rfl (Nat.le_of_ble_eq_true rfl) ?_
      apply Exists.intro
      refine ⟨fun w' K hK => ?_, ?_⟩
      (focus
        go_simp
        exact hK)
      refine os_yld hS0 rfl rfl rfl (Nat.le_of_ble_eq_true rfl) ?_
      apply Exists.intro
      refine ⟨fun w' hS' K hK => ?_, ?_⟩
      (focus
        obtain ⟨hcc, hff⟩ := bcellB (Below.undr hS')
        clear hS'
        go_simp
        exact hK)
      refine os_move rfl rfl rfl (Nat.le_of_ble_eq_true rfl) ?_
      apply Exists.intro
      refine ⟨fun w' K hK => ?_, ?_⟩
      (focus
        go_simp
        exact hK)
      refine os_move rfl rfl rfl (Nat.le_of_ble_eq_true rfl) ?_
      apply Exists.intro
      refine ⟨fun w' K hK => ?_, ?_⟩
      (focus
        go_simp
        exact hK)
      refine os_yldg hS0 rfl rfl rfl (Nat.le_of_ble_eq_true rfl) ?_
      apply Exists.intro
      refine ⟨fun w' hS' K hK => ?_, ?_⟩
      (focus
        obtain ⟨hcc, hff⟩ := bcellB (Below.undr hS')
        clear hS'
        go_simp
        exact hK)
      refine os_moveg rfl rfl rfl (Nat.le_of_ble_eq_true rfl) ?_
      apply Exists.intro
      refine ⟨fun w' K hK => ?_, ?_⟩
      (focus
        go_simp
        exact hK)
      refine os_move rfl rfl rfl (Nat.le_of_ble_eq_true rfl) ?_
      apply Exists.intro
      refine ⟨fun w' K hK => ?_, ?_⟩
      (focus
        go_simp
        exact hK)
      refine os_move rfl rfl rfl (Nat.le_of_ble_eq_true rfl) ?_
      apply Exists.intro
      refine ⟨fun w' K hK => ?_, ?_⟩
      (focus
        go_simp
        exact hK)
      refine os_skip rfl rfl rfl ?_
      apply Exists.intro
      refine ⟨?_, ?_⟩
      (focus
        simp only [Act.put, List.setIfInBounds_toArray, List.set_cons_succ, List.set_cons_zero]
        rfl)
      refine os_skip rfl rfl rfl ?_
      apply Exists.intro
      refine ⟨?_, ?_⟩
      (focus
        simp only [Act.put, List.setIfInBounds_toArray, List.set_cons_succ, List.set_cons_zero]
        rfl)
      refine os_skip rfl rfl rfl ?_
      apply Exists.intro
      refine ⟨?_, ?_⟩
      (focus
        simp only [Act.put, List.setIfInBounds_toArray, List.set_cons_succ, List.set_cons_zero]
        rfl)
      refine os_skip rfl rfl rfl ?_
      apply Exists.intro
      refine ⟨?_, ?_⟩
      (focus
        simp only [Act.put, List.setIfInBounds_toArray, List.set_cons_succ, List.set_cons_zero]
        rfl)
      refine os_skip rfl rfl rfl ?_
      apply Exists.intro
      refine ⟨?_, ?_⟩
      (focus
        simp only [Act.put, List.setIfInBounds_toArray, List.set_cons_succ, List.set_cons_zero]
        rfl)
      refine os_skip rfl rfl rfl ?_
      apply Exists.intro
      refine ⟨?_, ?_⟩
      (focus
        simp only [Act.put, List.setIfInBounds_toArray, List.set_cons_succ, List.set_cons_zero]
        rfl)
      refine os_move rfl rfl rfl (Nat.le_of_ble_eq_true rfl) ?_
      apply Exists.intro
      refine ⟨fun w' K hK => ?_, ?_⟩
      (focus
        go_simp
        exact hK)
      refine os_move rfl rfl rfl (Nat.le_of_ble_eq_true rfl) ?_
      apply Exists.intro
      refine ⟨fun w' K hK => ?_, ?_⟩
      (focus
        go_simp
        exact hK)
      refine os_skip rfl rfl rfl ?_
      apply Exists.intro
      refine ⟨?_, ?_⟩
      (focus
        simp only [Act.put, List.setIfInBounds_toArray, List.set_cons_succ, List.set_cons_zero]
        rfl)
      refine os_skip rfl rfl rfl ?_
      apply Exists.intro
      refine ⟨?_, ?_⟩
      (focus
        simp only [Act.put, List.setIfInBounds_toArray, List.set_cons_succ, List.set_cons_zero]
        rfl)
      refine os_skip rfl rfl rfl ?_
      apply Exists.intro
      refine ⟨?_, ?_⟩
      (focus
        simp only [Act.put, List.setIfInBounds_toArray, List.set_cons_succ, List.set_cons_zero]
        rfl)
      refine os_skip rfl rfl rfl ?_
      apply Exists.intro
      refine ⟨?_, ?_⟩
      (focus
        simp only [Act.put, List.setIfInBounds_toArray, List.set_cons_succ, List.set_cons_zero]
        rfl)
      refine os_skip rfl rfl rfl ?_
      apply Exists.intro
      refine ⟨?_, ?_⟩
      (focus
        simp only [Act.put, List.setIfInBounds_toArray, List.set_cons_succ, List.set_cons_zero]
        rfl)
      refine os_skip rfl rfl rfl ?_
      apply Exists.intro
      refine ⟨?_, ?_⟩
      (focus
        simp only [Act.put, List.setIfInBounds_toArray, List.set_cons_succ, List.set_cons_zero]
        rfl)
      refine os_skip rfl rfl rfl ?_
      apply Exists.intro
      refine ⟨?_, ?_⟩
      (focus
        simp only [Act.put, List.setIfInBounds_toArray, List.set_cons_succ, List.set_cons_zero]
        rfl)
      refine os_skip rfl rfl rfl ?_
      apply Exists.intro
      refine ⟨?_, ?_⟩
      (focus
        simp only [Act.put, List.setIfInBounds_toArray, List.set_cons_succ, List.set_cons_zero]
        rfl)
      refine os_skip rfl rfl rfl ?_
      apply Exists.intro
      refine ⟨?_, ?_⟩
      (focus
        simp only [Act.put, List.setIfInBounds_toArray, List.set_cons_succ, List.set_cons_zero]
        rfl)
      refine os_move rfl rfl rfl (Nat.le_of_ble_eq_true rfl) ?_
      apply Exists.intro
      refine ⟨fun w' K hK => ?_, ?_⟩
      (focus
        go_simp
        exact hK)
      refine os_move rfl rfl rfl (Nat.le_of_ble_eq_true rfl) ?_
      apply Exists.intro
      refine ⟨fun w' K hK => ?_, ?_⟩
      (focus
        go_simp
        exact hK)
      refine os_run rfl rfl (fun K hK => ?_)
      go_wp2_with fail
      refine (bad_any _ false).mono ?_
      rintro e wu ⟨rfl, rfl⟩
      go_wp2_with fail
      refine ⟨fun _ hk => absurd hk List.not_mem_nil, ?_⟩
      refine os_run rfl rfl (fun K hK => ?_)
      go_wp2_with fail
      refine (fin.out wb.drew (badE false) (by rw [Hc2.out]) (Below.tr Bb.out (Below.dr1 wb)) ca2 cb2 cx).mono ?_
      rintro e w2 ⟨rfl, hst⟩
      have HST := Lib.hid hst
      clear hst
      go_wp2_with fail
      refine ⟨fun _ hk => absurd hk List.not_mem_nil, ?_⟩
      refine os_move rfl rfl rfl (Nat.le_of_ble_eq_true rfl) ?_
      apply Exists.intro
      refine ⟨fun w' K hK => ?_, ?_⟩
      (focus
        go_simp
        exact hK)
      refine os_done ⟨rfl, ?_⟩
      go_wp2_with fail
      go_ret
      exact ⟨rfl, HST.out⟩
  · have hok' : okF f = false := by simpa using hok
    have Hc2 : Hid (overOk D f n b.length = false) := by show _ = _; unfold overOk; rw [hok']; rfl
    have Hok := Lib.hid hok'
    clear h ok hdn hok hok' hS hF hm hwa hbl
    go_enter Try.func19, Try.ntmps19
    go_wp2_with fail
    rw [← HWA.out]
    refine (file_no _ g f Hok.out).mono ?_
    rintro e w1 ⟨rfl, rfl⟩
    go_wp2_with fail
    rw [za.out]
    have Bb := Lib.hid (Below.tr Ba.out (Below.al wa (.cells #[.pointer none] 65)))
    have cx : (wa.alloc (.cells #[.pointer none] 65)).cell? ⟨w.heap.size + 1 + 1, 0, none⟩ = some (.pointer none) := by
      have := cell_of_row _ wa.heap.size 0 _ _ _ (heap_alloc_new wa (.cells #[.pointer none] 65))
      rw [za.out] at this; rw [this]; rfl
    have ca2 := cell_bel ca.out (Below.al wa (.cells #[.pointer none] 65))
    have cb2 := cell_bel cb.out (Below.al wa (.cells #[.pointer none] 65))
    generalize wa.alloc (.cells #[.pointer none] 65) = wb at Bb cx ca2 cb2 ⊢
    have lx := block_lt_of cx
    have la := block_lt_of ca2
    have lb := block_lt_of cb2
    refine wp_calm ?_
    refine wp_region_oc (fun _ w' => Below (wb).drew.heap.size (wb).drew w') [1] [(26, 1, [15, 7, 3, 2]), (28, 1, [26, 15, 7, 3, 2])] (.move 0 (.take 1 (.move 2 (.move 3 (.move 4 (.move 5 (.move 6 (.move 7 (.move 8 (.move 9 (.move 10 (.move 11 (.move 12 (.move 13 (.move 14 (.move 15 (.move 16 (.move 17 (.move 18 (.move 19 (.move 20 (.move 21 (.move 22 (.move 23 (.move 24 (.move 25 (.move 27 (.run 26 [] (.run 28 [] (.move 29 .done)))))))))))))))))))))))))))))) (by kernel_rfl) (by kernel_rfl) (fun _ _ _ _ _ h => nomatch h.1) ?_
    have hS0 : Below (wb).drew.heap.size (wb).drew (wb).drew := Below.refl _ _
    refine os_move rfl rfl rfl (Nat.le_of_ble_eq_true rfl) ?_
    apply Exists.intro
    refine ⟨fun w' K hK => ?_, ?_⟩
    (focus
      go_simp
      exact hK)
    refine os_yld hS0 rfl rfl rfl (Nat.le_of_ble_eq_true rfl) ?_
    apply Exists.intro
    refine ⟨fun w' hS' K hK => ?_, ?_⟩
    (focus
      obtain ⟨hcc, hff⟩ := bcellB (Below.undr hS')
      clear hS'
      go_simp
      exact hK)
    refine os_move rfl rfl rfl (Nat.le_of_ble_eq_true rfl) ?_
    apply Exists.intro
    refine ⟨fun w' K hK => ?_, ?_⟩
    (focus
      go_simp
      exact hK)
    refine os_move rfl rfl rfl (Nat.le_of_ble_eq_true rfl) ?_
    apply Exists.intro
    refine ⟨fun w' K hK => ?_, ?_⟩
    (focus
      go_simp
      exact hK)
    refine os_skip rfl rfl rfl ?_
    apply Exists.intro
    refine ⟨?_, ?_⟩
    (focus
      simp only [Act.put, List.setIfInBounds_toArray, List.set_cons_succ, List.set_cons_zero]
      rfl)
    refine os_skip rfl rfl rfl ?_
    apply Exists.intro
    refine ⟨?_, ?_⟩
    (focus
      simp only [Act.put, List.setIfInBounds_toArray, List.set_cons_succ, List.set_cons_zero]
      rfl)
    refine os_move rfl rfl rfl (Nat.le_of_ble_eq_true rfl) ?_
    apply Exists.intro
    refine ⟨fun w' K hK => ?_, ?_⟩
    (focus
      go_simp
      exact hK)
    refine os_move rfl rfl rfl (Nat.le_of_ble_eq_true rfl) ?_
    apply Exists.intro
    refine ⟨fun w' K hK => ?_, ?_⟩
    (focus
      go_simp
      exact hK)
    refine os_skip rfl rfl rfl ?_
    apply Exists.intro
    refine ⟨?_, ?_⟩
    (focus
      simp only [Act.put, List.setIfInBounds_toArray, List.set_cons_succ, List.set_cons_zero]
      rfl)
    refine os_skip rfl rfl rfl ?_
    apply Exists.intro
    refine ⟨?_, ?_⟩
    (focus
      simp only [Act.put, List.setIfInBounds_toArray, List.set_cons_succ, List.set_cons_zero]
      rfl)
    refine os_skip rfl rfl rfl ?_
    apply Exists.intro
    refine ⟨?_, ?_⟩
    (focus
      simp only [Act.put, List.setIfInBounds_toArray, List.set_cons_succ, List.set_cons_zero]
      rfl)
    refine os_skip rfl rfl rfl ?_
    apply Exists.intro
    refine ⟨?_, ?_⟩
    (focus
      simp only [Act.put, List.setIfInBounds_toArray, List.set_cons_succ, List.set_cons_zero]
      rfl)
    refine os_skip rfl rfl rfl ?_
    apply Exists.intro
    refine ⟨?_, ?_⟩
    (focus
      simp only [Act.put, List.setIfInBounds_toArray, List.set_cons_succ, List.set_cons_zero]
      rfl)
    refine os_skip rfl rfl rfl ?_
    apply Exists.intro
    refine ⟨?_, ?_⟩
    (focus
      simp only [Act.put, List.setIfInBounds_toArray, List.set_cons_succ, List.set_cons_zero]
      rfl)
    refine os_move rfl rfl rfl (Nat.le_of_ble_eq_true rfl) ?_
    apply Exists.intro
    refine ⟨fun w' K hK => ?_, ?_⟩
    (focus
      go_simp
      exact hK)
    refine os_move rfl rfl rfl (Nat.le_of_ble_eq_true rfl) ?_
    apply Exists.intro
    refine ⟨fun w' K hK => ?_, ?_⟩
    (focus
      go_simp
      exact hK)
    refine os_skip rfl rfl rfl ?_
    apply Exists.intro
    refine ⟨?_, ?_⟩
    (focus
      simp only [Act.put, List.setIfInBounds_toArray, List.set_cons_succ, List.set_cons_zero]
      rfl)
    refine os_skip rfl rfl rfl ?_
    apply Exists.intro
    refine ⟨?_, ?_⟩
    (focus
      simp only [Act.put, List.setIfInBounds_toArray, List.set_cons_succ, List.set_cons_zero]
      rfl)
    refine os_skip rfl rfl rfl ?_
    apply Exists.intro
    refine ⟨?_, ?_⟩
    (focus
      simp only [Act.put, List.setIfInBounds_toArray, List.set_cons_succ, List.set_cons_zero]
      rfl)
    refine os_skip rfl rfl rfl ?_
    apply Exists.intro
    refine ⟨?_, ?_⟩
    (focus
      simp only [Act.put, List.setIfInBounds_toArray, List.set_cons_succ, List.set_cons_zero]
      rfl)
    refine os_skip rfl rfl rfl ?_
    apply Exists.intro
    refine ⟨?_, ?_⟩
    (focus
      simp only [Act.put, List.setIfInBounds_toArray, List.set_cons_succ, List.set_cons_zero]
      rfl)
    refine os_skip rfl rfl rfl ?_
    apply Exists.intro
    refine ⟨?_, ?_⟩
    (focus
      simp only [Act.put, List.setIfInBounds_toArray, List.set_cons_succ, List.set_cons_zero]
      rfl)
    refine os_skip rfl rfl rfl ?_
    apply Exists.intro
    refine ⟨?_, ?_⟩
    (focus
      simp only [Act.put, List.setIfInBounds_toArray, List.set_cons_succ, List.set_cons_zero]
      rfl)
    refine os_skip rfl rfl rfl ?_
    apply Exists.intro
    refine ⟨?_, ?_⟩
    (focus
      simp only [Act.put, List.setIfInBounds_toArray, List.set_cons_succ, List.set_cons_zero]
      rfl)
    refine os_skip rfl rfl rfl ?_
    apply Exists.intro
    refine ⟨?_, ?_⟩
    (focus
      simp only [Act.put, List.setIfInBounds_toArray, List.set_cons_succ, List.set_cons_zero]
      rfl)
    refine os_move rfl rfl rfl (Nat.le_of_ble_eq_true rfl) ?_
    apply Exists.intro
    refine ⟨fun w' K hK => ?_, ?_⟩
    (focus
      go_simp
      exact hK)
    refine os_move rfl rfl rfl (Nat.le_of_ble_eq_true rfl) ?_
    apply Exists.intro
    refine ⟨fun w' K hK => ?_, ?_⟩
    (focus
      go_simp
      exact hK)
    refine os_run rfl rfl (fun K hK => ?_)
    go_wp2_with fail
    refine (bad_any _ false).mono ?_
    rintro e wu ⟨rfl, rfl⟩
    go_wp2_with fail
    refine ⟨fun _ hk => absurd hk List.not_mem_nil, ?_⟩
    refine os_run rfl rfl (fun K hK => ?_)
    go_wp2_with fail
    refine (operate_any (H.out.bel (Below.tr Bb.out (Below.dr1 wb))) OK.out HN.out (badE false) false 35 #[.pointer (some ⟨w.heap.size + 1 + 1, 0, none⟩), .pointer (some ⟨w.heap.size, 0, none⟩), .pointer (some ⟨w.heap.size + 1, 0, none⟩)] (D.overF f n.toNat b).fs eg_over (fun e => absurd e (by decide))).mono ?_
    rintro e w2 ⟨rfl, hst⟩
    have HST := Lib.hid hst
    clear hst
    go_wp2_with fail
    refine ⟨fun _ hk => absurd hk List.not_mem_nil, ?_⟩
    refine os_move rfl rfl rfl (Nat.le_of_ble_eq_true rfl) ?_
    apply Exists.intro
    refine ⟨fun w' K hK => ?_, ?_⟩
    (focus
      go_simp
      exact hK)
    refine os_done ⟨rfl, ?_⟩
    go_wp2_with fail
    go_ret
    unfold overD
    rw [Hc2.out]
    exact ⟨rfl, Dstep.old (Below.tr Bb.out (Below.dr1 wb)) HST.out⟩
end Go.Proofs.Ytjfnpndpigpaiaa
