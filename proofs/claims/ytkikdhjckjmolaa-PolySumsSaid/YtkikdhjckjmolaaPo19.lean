/- PolyOne's walk. -/
import Derived.Test.YtkikdhjckjmolaaPo18
namespace Go.Proofs.Ytkikdhjckjmolaa
open Go.RowKit
attribute [local go_sem] yld yldUpon_value

/-- two arrays of bytes held against one another, in a drawn region -/
theorem os_eql_t {ops : Array Oper} {Q : Exit → Act → World → Prop} {S : Nat → World → Prop} {i d : Nat} {r : OS} {o : Oper} {a : Act} {w : World} (T : TypeId) (x y : Operand) (T' : TypeId) (n : Nat) (l l' : List UInt8) (ho : ops.toList[i]? = some o) (hw : Region.wanted o (yielded ops a.tmps) = true)
    (hop : o.op = .binOp .eql T x y T') (hd : o.dst = some d) (hx : a.eval x = .agg (bs l).toArray) (hy : a.eval y = .agg (bs l').toArray) (hu : Try.prog.underlying T = some (.array n 5)) (hg : Try.prog.eqGuardType Try.prog.depth T = false)
    (h : l.length = n) (h' : l'.length = n) (c : Bool) (hc : (l == l') = c) (hk : ∃ a1, a.put (some d) (.bool c) = a1 ∧ wpOS Try.prog ops Q S r a1 w) : wpOS Try.prog ops Q S (.move i r) a w := by
  obtain ⟨a1, ha, hk⟩ := hk
  refine ⟨o, .bool c, by simpa using ho, .inl ⟨hw, fun w' _ => ?_⟩, by rw [hd, ha]; exact hk⟩
  have h1 := run_eq_arr w' T n l l' hu h h'
  have h2 := run_eqGuard_agg (P := Try.prog) w' .eql T x y (bs l).toArray (bs l').toArray hg
  subst hc
  unfold execOp
  simp only [hop, hx, hy, Sem.run_bind, h2, Result.andThen_ok, binOp, h1, Sem.run_pure]

theorem one_copy (l : List UInt8) (n : Nat) (hl : l.length = n) (hn : n ≤ 16) : (List.replicate 16 (0 : UInt8)).take 0 ++ (l.take 16 ++ (List.replicate 16 (0 : UInt8)).drop (0 + min n 16)) = l ++ List.replicate (16 - n) 0 := by
  rw [List.take_zero, List.nil_append, List.take_of_length_le (by omega), Nat.zero_add, Nat.min_eq_left hn, List.drop_replicate]
theorem one_set (l : List UInt8) (n : Nat) (hl : l.length = n) (h0 : 0 < n) (h : n < 16) : (l ++ List.replicate (16 - n) 0).set n 1 = oneT l := by
  unfold oneT
  rw [if_pos (by omega), List.set_append_right _ _ (by omega), hl, Nat.sub_self, show 16 - n = (15 - n) + 1 by omega, List.replicate_succ, List.set_cons_zero, List.append_assoc]
  rfl
set_option maxRecDepth 100000 in
set_option maxHeartbeats 8000000 in
theorem PolyOne_any (w : World) (s : List UInt8) (hs : s.length = 16) (A : Option Addr) (n c : Nat) (l : List UInt8) (h : Sl w (Old w) A n c l) (_ : n ≤ 140737488351232) :
    Calls Try.prog 6 #[.agg (bs s).toArray, .slice A n c] w fun e w' => e = .returned (.bool true) ∧ Below w.heap.size w w' := by
  have HS := Lib.hid hs; have H := Lib.hid h
  have HL := Lib.hid h.len
  clear hs h
  obtain ⟨iT, hiT, zT, _, _⟩ := info_parts Try.infoTag
  have HiT := Lib.hid hiT; have HzT := Lib.hid zT
  obtain ⟨iK, hiK, zK, _, _⟩ := info_parts Try.infoK
  have HiK := Lib.hid hiK; have HzK := Lib.hid zK
  clear hiT zT hiK zK
  have uT := Lib.hid Try.underlying28
  have uK := Lib.hid Try.underlying23
  have iS : Hid ((Try.prog.info? 28).map (·.size) = some (bs s).length) := by rw [bs_length, HS.out]; exact Try.sizeTag
  have G2 : Hid ((w.alloc (.cells (bs s).toArray 28)).heap[w.heap.size]? = some (.cells (bs s).toArray 28 (0, 0))) := heap_alloc_new w _
  have B1 : Hid (Below w.heap.size w (w.alloc (.cells (bs s).toArray 28))) := Below.al _ _
  go_enter Try.func6, Try.ntmps6
  by_cases hbig : 16 < n
  · have hbI : (16 : Int) < (n : Int) := by omega
    go_wp2_with fail
    refine (known_any _).mono ?_
    rintro e w2 ⟨rfl, hb2⟩
    go_wp2_with fail
    go_ret
    exact ⟨rfl, Below.tr B1.out hb2⟩
  · have hbI : decide ((16 : Int) < (n : Int)) = false := decide_eq_false (by omega)
    have hn16 : Hid (n ≤ 16) := by show _ ≤ _; omega
    clear hbig
    have hr1 : Hid ((w.alloc (.cells (bs s).toArray 28)).rangeAt w.heap.size 0 (bs s)) := range_block G2.out
    go_wp2_with (
      (with_reducible refine lst_load_mid 28 (.tmp 2) rfl w.heap.size 0 rfl (bs s) _ hr1.out uT.out rfl iS.out ?_ ?_)
      (focus rfl))
    clear hr1
    generalize w.alloc (.cells (bs s).toArray 28) = w1 at G2 B1 ⊢
    obtain ⟨g2, hg2⟩ : ∃ g2, g2 = w.heap.size := ⟨_, rfl⟩
    rw [← hg2] at G2 ⊢
    have Hg2 := Lib.hid hg2
    clear hg2
    refine (with_any w1 (r := 1 :: List.replicate 15 0) rfl HS.out).mono ?_
    rintro e w2 ⟨rfl, hb2⟩
    obtain ⟨K, hK⟩ : ∃ K, K = (1 :: List.replicate 15 0) ++ s := ⟨_, rfl⟩
    have HKl : Hid (K.length = 32) := by rw [hK]; show _ = _; simp [HS.out]
    have Htag : Hid (tagL K l = sumL (oneT l) s) := by rw [hK]; exact tag_one HS.out l (by rw [HL.out]; exact hn16.out)
    rw [← hK]
    have iK2 : Hid ((Try.prog.info? 23).map (·.size) = some (bs K).length) := by rw [bs_length, HKl.out]; exact Try.sizeKey
    have G22 := Lib.hid (heap_bel G2.out hb2)
    have B2 := Lib.hid (Below.tr B1.out hb2)
    clear hK hb2 G2 B1
    have hcut : Hid ((l ++ List.replicate (16 - n) 0).length = 16) := by show _ = _; rw [List.length_append, List.length_replicate, HL.out]; have := hn16.out; omega
    by_cases h0 : n = 0
    · have h0I : decide ((0 : Int) < (n : Int)) = false := decide_eq_false (by omega)
      have h02 : ¬ 0 < n := by omega
      have H0 := Lib.hid h0
      clear h0
      go_wp2_with (first
        | ((with_reducible refine lst_alloc_d 5 rfl 23 rfl iK _ HiK.out HzK.out ?_ ?_)
           (focus rfl)
           intro g5 w3 Hg5 Hh5 hb3
           have G5 : Hid (w3.heap[g5]? = some (.cells (bs (List.replicate 32 0)).toArray 23 (0, 0))) := Hh5
           have G23 := Lib.hid (heap_bel G22.out hb3)
           have B3 := Lib.hid (Below.tr B2.out hb3)
           have E5 : Hid (g2 < g5) := by have := Hg5.out.1; have := (Array.getElem?_eq_some_iff.1 G22.out).1; show _ < _; omega
           clear Hg5 Hh5 hb3 G22 B2)
        | ((with_reducible refine lst_store_abs 23 (.tmp 5) (.tmp 13) rfl g5 23 (bs (List.replicate 32 0)).toArray (bs K).toArray rfl rfl G5.out (by simpa using iK2.out) (by simp [bs_length, HKl.out]) (by simp; exact bs_oneCell _) ?_ ?_)
           (focus rfl)
           intro w4 Hh4 hg4
           have G54 := Hh4
           have G24 := Lib.hid ((hg4.block g2 (Array.getElem?_eq_some_iff.1 G23.out).1 (by have := E5.out; simp; omega)).trans G23.out)
           have B4 := Lib.hid (B3.out.grown hg4 B3.out.size (fun j hj => by injection hj with hj; have := E5.out; have := Hg2.out; omega))
           clear Hh4 hg4 G23 B3 G5)
        | ((with_reducible refine lst_alloc_d 6 rfl 28 rfl iT _ HiT.out HzT.out ?_ ?_)
           (focus rfl)
           intro g6 w5 Hg6 Hh6 hb5
           have G6 : Hid (w5.heap[g6]? = some (.cells (bs (List.replicate 16 0)).toArray 28 (0, 0))) := Hh6
           have G25 := Lib.hid (heap_bel G24.out hb5)
           have G55 := Lib.hid (heap_bel G54.out hb5)
           have B5 := Lib.hid (Below.tr B4.out hb5)
           have E6 : Hid (g5 < g6) := by have := Hg6.out.1; have := (Array.getElem?_eq_some_iff.1 G54.out).1; show _ < _; omega
           have S5 := Lib.hid (H.out.belF B5.out (fun _ h => h))
           clear Hg6 Hh6 hb5 G24 G54 B4)
        | ((with_reducible refine copy_blk (.tmp 14) (.tmp 15) rfl g6 0 16 16 16 28 (List.replicate 16 0) rfl G6.out (by simp) (by decide) rfl S5.out ?_ ?_)
           (focus rfl)
           intro w6 Hh6 hg6
           have G66 : Hid (w6.heap[g6]? = some (.cells (bs (l ++ List.replicate (16 - n) 0)).toArray 28 (0, 0))) := by
             have h := Hh6.out
             rw [one_copy l n HL.out hn16.out] at h; exact h
           have G26 := Lib.hid ((hg6.block g2 (Array.getElem?_eq_some_iff.1 G25.out).1 (by have := E5.out; have := E6.out; simp; omega)).trans G25.out)
           have G56 := Lib.hid ((hg6.block g5 (Array.getElem?_eq_some_iff.1 G55.out).1 (by have := E6.out; simp; omega)).trans G55.out)
           have B6 := Lib.hid (B5.out.grown hg6 B5.out.size (fun j hj => by injection hj with hj; have := E5.out; have := E6.out; have := Hg2.out; omega))
           clear Hh6 hg6 G25 G55 B5 G6 S5))
      have G67 : Hid (w6.heap[g6]? = some (.cells (bs (oneT l)).toArray 28 (0, 0))) := by
        have e : oneT l = l ++ List.replicate (16 - n) 0 := by
          unfold oneT
          rw [if_neg (by rw [HL.out]; have := H0.out; omega), HL.out]
        rw [e]; exact G66.out
      have G27 := G26
      have G57 := G56
      have B7 := B6
      clear G66 G26 G56 B6
      generalize w6 = w7 at *
      have S7 := Lib.hid (H.out.belF B7.out (fun _ h => h))
      have iO : Hid ((Try.prog.info? 28).map (·.size) = some (bs (oneT l)).length) := by rw [bs_length, oneT_len l (by rw [HL.out]; exact hn16.out)]; exact Try.sizeTag
      have lt2 : g2 < w7.heap.size := (Array.getElem?_eq_some_iff.1 G27.out).1
      have lt5 : g5 < w7.heap.size := (Array.getElem?_eq_some_iff.1 G57.out).1
      have lt6 : g6 < w7.heap.size := (Array.getElem?_eq_some_iff.1 G67.out).1
      have r2 : Hid (w7.rangeAt g2 0 (bs s)) := range_block G27.out
      have r5 : Hid (w7.rangeAt g5 0 (bs K)) := range_block G57.out
      have r6 : Hid (w7.rangeAt g6 0 (bs (oneT l))) := range_block G67.out
      have LT := Lib.hid (And.intro lt2 (And.intro lt5 lt6))
      clear lt2 lt5 lt6
      refine wp_calm ?_
      refine wp_region_os (fun _ w' => Below (w7).drew.heap.size (w7).drew w') [0, 3, 4] (.take 0 (.move 1 (.take 3 (.take 4 (.run 2 [3, 4] (.run 5 [0] (.move 6 (.move 7 (.run 8 [0, 3, 4] (.move 9 (.move 10 .done))))))))))) (by kernel_rfl) (by kernel_rfl) (fun _ _ _ _ _ h => nomatch h.1) ?_
      have hS0 : Below (w7).drew.heap.size (w7).drew (w7).drew := Below.refl _ _
      refine os_load_mid 23 (.tmp 5) (g5) (0) (bs K) _ hS0 rfl rfl rfl rfl rfl (uK.out) rfl (iK2.out) (fun w' h => rangeAt_bel (range_dr (r5.out)) h LT.out.2.1) ⟨_, rfl, ?_⟩
      refine os_move rfl rfl rfl (Nat.le_of_ble_eq_true rfl) ?_
      apply Exists.intro
      refine ⟨fun w' K hK => ?_, ?_⟩
      (focus
        go_simp
        exact hK)
      refine os_load_mid 28 (.tmp 6) (g6) (0) (bs (oneT l)) _ hS0 rfl rfl rfl rfl rfl (uT.out) rfl (iO.out) (fun w' h => rangeAt_bel (range_dr (r6.out)) h LT.out.2.2) ⟨_, rfl, ?_⟩
      refine os_load_mid 28 (.tmp 2) (g2) (0) (bs s) _ hS0 rfl rfl rfl rfl rfl (uT.out) rfl (iS.out) (fun w' h => rangeAt_bel (range_dr (r2.out)) h LT.out.1) ⟨_, rfl, ?_⟩
      refine os_run rfl rfl (fun K hK => ?_)
      go_wp2_with fail
      refine (Sum_any (S7.out.belF (Below.dr1 _) (fun k hk => Nat.lt_of_lt_of_le hk B7.out.size)) (fun k hk => Nat.lt_of_lt_of_le hk B7.out.size) (by have := hn16.out; omega) HKl.out).mono ?_
      rintro e w8 ⟨rfl, hb8⟩
      go_wp2_with fail
      refine ⟨fun _ _ h => Below.tr h (hb8), ?_⟩
      replace hS0 := Below.tr hS0 (hb8)
      refine os_run rfl rfl (fun K hK => ?_)
      go_wp2_with fail
      refine (sum_any w8 (oneT_len l (by rw [HL.out]; exact hn16.out)) HS.out).mono ?_
      rintro e w9 ⟨rfl, hb9⟩
      go_wp2_with fail
      refine ⟨fun _ _ h => Below.tr h (hb9), ?_⟩
      replace hS0 := Below.tr hS0 (hb9)
      refine os_eql_t 28 (.tmp 30) (.tmp 33) _ 16 (tagL K l) (sumL (oneT l) s) rfl rfl rfl rfl rfl rfl (uT.out) (by kernel_rfl) (tagL_len _ _) (sumL_len _ _) (true) (by rw [Htag.out]; simp) ⟨_, rfl, ?_⟩
      refine os_move rfl rfl rfl (Nat.le_of_ble_eq_true rfl) ?_
      apply Exists.intro
      refine ⟨fun w' K hK => ?_, ?_⟩
      (focus
        go_simp
        exact hK)
      refine os_run rfl rfl (fun K hK => ?_)
      go_wp2_with fail
      refine (known_any w9).mono ?_
      rintro e w10 ⟨rfl, hb10⟩
      go_wp2_with fail
      refine ⟨fun _ _ h => Below.tr h (hb10), ?_⟩
      replace hS0 := Below.tr hS0 (hb10)
      refine os_move rfl rfl rfl (Nat.le_of_ble_eq_true rfl) ?_
      apply Exists.intro
      refine ⟨fun w' K hK => ?_, ?_⟩
      (focus
        go_simp
        exact hK)
      refine os_move rfl rfl rfl (Nat.le_of_ble_eq_true rfl) ?_
      apply Exists.intro
      refine ⟨fun w' K hK => ?_, ?_⟩
      (focus
        go_simp
        exact hK)
      refine os_done ⟨rfl, ?_⟩
      go_wp2_with fail
      go_ret
      exact ⟨rfl, Below.tr B7.out (Below.undr hS0)⟩
    · by_cases h16 : n = 16
      · have h0I : (0 : Int) < (n : Int) := by omega
        have h02 : 0 < n := by omega
        have h1I : decide ((n : Int) < 16) = false := decide_eq_false (by omega)
        have H0 := Lib.hid h16
        clear h16 h0
        go_wp2_with (first
          | ((with_reducible refine lst_alloc_d 5 rfl 23 rfl iK _ HiK.out HzK.out ?_ ?_)
             (focus rfl)
             intro g5 w3 Hg5 Hh5 hb3
             have G5 : Hid (w3.heap[g5]? = some (.cells (bs (List.replicate 32 0)).toArray 23 (0, 0))) := Hh5
             have G23 := Lib.hid (heap_bel G22.out hb3)
             have B3 := Lib.hid (Below.tr B2.out hb3)
             have E5 : Hid (g2 < g5) := by have := Hg5.out.1; have := (Array.getElem?_eq_some_iff.1 G22.out).1; show _ < _; omega
             clear Hg5 Hh5 hb3 G22 B2)
          | ((with_reducible refine lst_store_abs 23 (.tmp 5) (.tmp 13) rfl g5 23 (bs (List.replicate 32 0)).toArray (bs K).toArray rfl rfl G5.out (by simpa using iK2.out) (by simp [bs_length, HKl.out]) (by simp; exact bs_oneCell _) ?_ ?_)
             (focus rfl)
             intro w4 Hh4 hg4
             have G54 := Hh4
             have G24 := Lib.hid ((hg4.block g2 (Array.getElem?_eq_some_iff.1 G23.out).1 (by have := E5.out; simp; omega)).trans G23.out)
             have B4 := Lib.hid (B3.out.grown hg4 B3.out.size (fun j hj => by injection hj with hj; have := E5.out; have := Hg2.out; omega))
             clear Hh4 hg4 G23 B3 G5)
          | ((with_reducible refine lst_alloc_d 6 rfl 28 rfl iT _ HiT.out HzT.out ?_ ?_)
             (focus rfl)
             intro g6 w5 Hg6 Hh6 hb5
             have G6 : Hid (w5.heap[g6]? = some (.cells (bs (List.replicate 16 0)).toArray 28 (0, 0))) := Hh6
             have G25 := Lib.hid (heap_bel G24.out hb5)
             have G55 := Lib.hid (heap_bel G54.out hb5)
             have B5 := Lib.hid (Below.tr B4.out hb5)
             have E6 : Hid (g5 < g6) := by have := Hg6.out.1; have := (Array.getElem?_eq_some_iff.1 G54.out).1; show _ < _; omega
             have S5 := Lib.hid (H.out.belF B5.out (fun _ h => h))
             clear Hg6 Hh6 hb5 G24 G54 B4)
          | ((with_reducible refine copy_blk (.tmp 14) (.tmp 15) rfl g6 0 16 16 16 28 (List.replicate 16 0) rfl G6.out (by simp) (by decide) rfl S5.out ?_ ?_)
             (focus rfl)
             intro w6 Hh6 hg6
             have G66 : Hid (w6.heap[g6]? = some (.cells (bs (l ++ List.replicate (16 - n) 0)).toArray 28 (0, 0))) := by
               have h := Hh6.out
               rw [one_copy l n HL.out hn16.out] at h; exact h
             have G26 := Lib.hid ((hg6.block g2 (Array.getElem?_eq_some_iff.1 G25.out).1 (by have := E5.out; have := E6.out; simp; omega)).trans G25.out)
             have G56 := Lib.hid ((hg6.block g5 (Array.getElem?_eq_some_iff.1 G55.out).1 (by have := E6.out; simp; omega)).trans G55.out)
             have B6 := Lib.hid (B5.out.grown hg6 B5.out.size (fun j hj => by injection hj with hj; have := E5.out; have := E6.out; have := Hg2.out; omega))
             clear Hh6 hg6 G25 G55 B5 G6 S5))
        have G67 : Hid (w6.heap[g6]? = some (.cells (bs (oneT l)).toArray 28 (0, 0))) := by
          have e : oneT l = l ++ List.replicate (16 - n) 0 := by
            unfold oneT
            rw [if_neg (by rw [HL.out]; have := H0.out; omega), HL.out]
          rw [e]; exact G66.out
        have G27 := G26
        have G57 := G56
        have B7 := B6
        clear G66 G26 G56 B6
        generalize w6 = w7 at *
        have S7 := Lib.hid (H.out.belF B7.out (fun _ h => h))
        have iO : Hid ((Try.prog.info? 28).map (·.size) = some (bs (oneT l)).length) := by rw [bs_length, oneT_len l (by rw [HL.out]; exact hn16.out)]; exact Try.sizeTag
        have lt2 : g2 < w7.heap.size := (Array.getElem?_eq_some_iff.1 G27.out).1
        have lt5 : g5 < w7.heap.size := (Array.getElem?_eq_some_iff.1 G57.out).1
        have lt6 : g6 < w7.heap.size := (Array.getElem?_eq_some_iff.1 G67.out).1
        have r2 : Hid (w7.rangeAt g2 0 (bs s)) := range_block G27.out
        have r5 : Hid (w7.rangeAt g5 0 (bs K)) := range_block G57.out
        have r6 : Hid (w7.rangeAt g6 0 (bs (oneT l))) := range_block G67.out
        have LT := Lib.hid (And.intro lt2 (And.intro lt5 lt6))
        clear lt2 lt5 lt6
        refine wp_calm ?_
        refine wp_region_os (fun _ w' => Below (w7).drew.heap.size (w7).drew w') [0, 3, 4] (.take 0 (.move 1 (.take 3 (.take 4 (.run 2 [3, 4] (.run 5 [0] (.move 6 (.move 7 (.run 8 [0, 3, 4] (.move 9 (.move 10 .done))))))))))) (by kernel_rfl) (by kernel_rfl) (fun _ _ _ _ _ h => nomatch h.1) ?_
        have hS0 : Below (w7).drew.heap.size (w7).drew (w7).drew := Below.refl _ _
        refine os_load_mid 23 (.tmp 5) (g5) (0) (bs K) _ hS0 rfl rfl rfl rfl rfl (uK.out) rfl (iK2.out) (fun w' h => rangeAt_bel (range_dr (r5.out)) h LT.out.2.1) ⟨_, rfl, ?_⟩
        refine os_move rfl rfl rfl (Nat.le_of_ble_eq_true rfl) ?_
        apply Exists.intro
        refine ⟨fun w' K hK => ?_, ?_⟩
        (focus
          go_simp
          exact hK)
        refine os_load_mid 28 (.tmp 6) (g6) (0) (bs (oneT l)) _ hS0 rfl rfl rfl rfl rfl (uT.out) rfl (iO.out) (fun w' h => rangeAt_bel (range_dr (r6.out)) h LT.out.2.2) ⟨_, rfl, ?_⟩
        refine os_load_mid 28 (.tmp 2) (g2) (0) (bs s) _ hS0 rfl rfl rfl rfl rfl (uT.out) rfl (iS.out) (fun w' h => rangeAt_bel (range_dr (r2.out)) h LT.out.1) ⟨_, rfl, ?_⟩
        refine os_run rfl rfl (fun K hK => ?_)
        go_wp2_with fail
        refine (Sum_any (S7.out.belF (Below.dr1 _) (fun k hk => Nat.lt_of_lt_of_le hk B7.out.size)) (fun k hk => Nat.lt_of_lt_of_le hk B7.out.size) (by have := hn16.out; omega) HKl.out).mono ?_
        rintro e w8 ⟨rfl, hb8⟩
        go_wp2_with fail
        refine ⟨fun _ _ h => Below.tr h (hb8), ?_⟩
        replace hS0 := Below.tr hS0 (hb8)
        refine os_run rfl rfl (fun K hK => ?_)
        go_wp2_with fail
        refine (sum_any w8 (oneT_len l (by rw [HL.out]; exact hn16.out)) HS.out).mono ?_
        rintro e w9 ⟨rfl, hb9⟩
        go_wp2_with fail
        refine ⟨fun _ _ h => Below.tr h (hb9), ?_⟩
        replace hS0 := Below.tr hS0 (hb9)
        refine os_eql_t 28 (.tmp 30) (.tmp 33) _ 16 (tagL K l) (sumL (oneT l) s) rfl rfl rfl rfl rfl rfl (uT.out) (by kernel_rfl) (tagL_len _ _) (sumL_len _ _) (true) (by rw [Htag.out]; simp) ⟨_, rfl, ?_⟩
        refine os_move rfl rfl rfl (Nat.le_of_ble_eq_true rfl) ?_
        apply Exists.intro
        refine ⟨fun w' K hK => ?_, ?_⟩
        (focus
          go_simp
          exact hK)
        refine os_run rfl rfl (fun K hK => ?_)
        go_wp2_with fail
        refine (known_any w9).mono ?_
        rintro e w10 ⟨rfl, hb10⟩
        go_wp2_with fail
        refine ⟨fun _ _ h => Below.tr h (hb10), ?_⟩
        replace hS0 := Below.tr hS0 (hb10)
        refine os_move rfl rfl rfl (Nat.le_of_ble_eq_true rfl) ?_
        apply Exists.intro
        refine ⟨fun w' K hK => ?_, ?_⟩
        (focus
          go_simp
          exact hK)
        refine os_move rfl rfl rfl (Nat.le_of_ble_eq_true rfl) ?_
        apply Exists.intro
        refine ⟨fun w' K hK => ?_, ?_⟩
        (focus
          go_simp
          exact hK)
        refine os_done ⟨rfl, ?_⟩
        go_wp2_with fail
        go_ret
        exact ⟨rfl, Below.tr B7.out (Below.undr hS0)⟩
      · have h0I : (0 : Int) < (n : Int) := by omega
        have h02 : 0 < n := by omega
        have h1I : (n : Int) < 16 := by have := hn16.out; omega
        clear h16 h0
        go_wp2_with (first
          | ((with_reducible refine lst_alloc_d 5 rfl 23 rfl iK _ HiK.out HzK.out ?_ ?_)
             (focus rfl)
             intro g5 w3 Hg5 Hh5 hb3
             have G5 : Hid (w3.heap[g5]? = some (.cells (bs (List.replicate 32 0)).toArray 23 (0, 0))) := Hh5
             have G23 := Lib.hid (heap_bel G22.out hb3)
             have B3 := Lib.hid (Below.tr B2.out hb3)
             have E5 : Hid (g2 < g5) := by have := Hg5.out.1; have := (Array.getElem?_eq_some_iff.1 G22.out).1; show _ < _; omega
             clear Hg5 Hh5 hb3 G22 B2)
          | ((with_reducible refine lst_store_abs 23 (.tmp 5) (.tmp 13) rfl g5 23 (bs (List.replicate 32 0)).toArray (bs K).toArray rfl rfl G5.out (by simpa using iK2.out) (by simp [bs_length, HKl.out]) (by simp; exact bs_oneCell _) ?_ ?_)
             (focus rfl)
             intro w4 Hh4 hg4
             have G54 := Hh4
             have G24 := Lib.hid ((hg4.block g2 (Array.getElem?_eq_some_iff.1 G23.out).1 (by have := E5.out; simp; omega)).trans G23.out)
             have B4 := Lib.hid (B3.out.grown hg4 B3.out.size (fun j hj => by injection hj with hj; have := E5.out; have := Hg2.out; omega))
             clear Hh4 hg4 G23 B3 G5)
          | ((with_reducible refine lst_alloc_d 6 rfl 28 rfl iT _ HiT.out HzT.out ?_ ?_)
             (focus rfl)
             intro g6 w5 Hg6 Hh6 hb5
             have G6 : Hid (w5.heap[g6]? = some (.cells (bs (List.replicate 16 0)).toArray 28 (0, 0))) := Hh6
             have G25 := Lib.hid (heap_bel G24.out hb5)
             have G55 := Lib.hid (heap_bel G54.out hb5)
             have B5 := Lib.hid (Below.tr B4.out hb5)
             have E6 : Hid (g5 < g6) := by have := Hg6.out.1; have := (Array.getElem?_eq_some_iff.1 G54.out).1; show _ < _; omega
             have S5 := Lib.hid (H.out.belF B5.out (fun _ h => h))
             clear Hg6 Hh6 hb5 G24 G54 B4)
          | ((with_reducible refine copy_blk (.tmp 14) (.tmp 15) rfl g6 0 16 16 16 28 (List.replicate 16 0) rfl G6.out (by simp) (by decide) rfl S5.out ?_ ?_)
             (focus rfl)
             intro w6 Hh6 hg6
             have G66 : Hid (w6.heap[g6]? = some (.cells (bs (l ++ List.replicate (16 - n) 0)).toArray 28 (0, 0))) := by
               have h := Hh6.out
               rw [one_copy l n HL.out hn16.out] at h; exact h
             have G26 := Lib.hid ((hg6.block g2 (Array.getElem?_eq_some_iff.1 G25.out).1 (by have := E5.out; have := E6.out; simp; omega)).trans G25.out)
             have G56 := Lib.hid ((hg6.block g5 (Array.getElem?_eq_some_iff.1 G55.out).1 (by have := E6.out; simp; omega)).trans G55.out)
             have B6 := Lib.hid (B5.out.grown hg6 B5.out.size (fun j hj => by injection hj with hj; have := E5.out; have := E6.out; have := Hg2.out; omega))
             have hBy : Hid (ByB w6 28 g6 16 (l ++ List.replicate (16 - n) 0)) := ByB.of_block G66.out rfl hcut.out (by decide)
             have hc6 := hBy.out.cell (i := n) (by rw [hcut.out]; omega)
             have hz6 := World.ownsRow.frozenAt hBy.out n
             clear Hh6 hg6 G25 G55 B5 G6 S5))
        have hf : Fr (fun j => j = g6) w6 (w6.setCell ⟨g6, n, none⟩ (.int .u8 1)) := (Fr.refl (fun j => j = g6) w6).setCell (p := ⟨g6, n, none⟩) (.inl rfl) _
        have G67 : Hid ((w6.setCell ⟨g6, n, none⟩ (.int .u8 1)).heap[g6]? = some (.cells (bs (oneT l)).toArray 28 (0, 0))) := by
          have h := (hBy.out.set n 1).heap
          rw [one_set l n HL.out (by omega) (by omega)] at h
          exact h
        have G27 : Hid ((w6.setCell ⟨g6, n, none⟩ (.int .u8 1)).heap[g2]? = some (.cells (bs s).toArray 28 (0, 0))) := (hf.block g2 (Array.getElem?_eq_some_iff.1 G26.out).1 (by have := E5.out; have := E6.out; omega)).trans G26.out
        have G57 : Hid ((w6.setCell ⟨g6, n, none⟩ (.int .u8 1)).heap[g5]? = some (.cells (bs K).toArray 23 (0, 0))) := (hf.block g5 (Array.getElem?_eq_some_iff.1 G56.out).1 (by have := E6.out; omega)).trans G56.out
        have B7 : Hid (Below w.heap.size w (w6.setCell ⟨g6, n, none⟩ (.int .u8 1))) := ((Fr.of_below B6.out).trans hf (fun i _ h => h)).to_below (fun i hi => by have := E5.out; have := E6.out; have := Hg2.out; omega)
        clear hf hBy hc6 hz6 G66 G26 G56 B6
        generalize w6.setCell ⟨g6, n, none⟩ (.int .u8 1) = w7 at G67 G27 G57 B7 ⊢
        have S7 := Lib.hid (H.out.belF B7.out (fun _ h => h))
        have iO : Hid ((Try.prog.info? 28).map (·.size) = some (bs (oneT l)).length) := by rw [bs_length, oneT_len l (by rw [HL.out]; exact hn16.out)]; exact Try.sizeTag
        have lt2 : g2 < w7.heap.size := (Array.getElem?_eq_some_iff.1 G27.out).1
        have lt5 : g5 < w7.heap.size := (Array.getElem?_eq_some_iff.1 G57.out).1
        have lt6 : g6 < w7.heap.size := (Array.getElem?_eq_some_iff.1 G67.out).1
        have r2 : Hid (w7.rangeAt g2 0 (bs s)) := range_block G27.out
        have r5 : Hid (w7.rangeAt g5 0 (bs K)) := range_block G57.out
        have r6 : Hid (w7.rangeAt g6 0 (bs (oneT l))) := range_block G67.out
        have LT := Lib.hid (And.intro lt2 (And.intro lt5 lt6))
        clear lt2 lt5 lt6
        refine wp_calm ?_
        refine wp_region_os (fun _ w' => Below (w7).drew.heap.size (w7).drew w') [0, 3, 4] (.take 0 (.move 1 (.take 3 (.take 4 (.run 2 [3, 4] (.run 5 [0] (.move 6 (.move 7 (.run 8 [0, 3, 4] (.move 9 (.move 10 .done))))))))))) (by kernel_rfl) (by kernel_rfl) (fun _ _ _ _ _ h => nomatch h.1) ?_
        have hS0 : Below (w7).drew.heap.size (w7).drew (w7).drew := Below.refl _ _
        refine os_load_mid 23 (.tmp 5) (g5) (0) (bs K) _ hS0 rfl rfl rfl rfl rfl (uK.out) rfl (iK2.out) (fun w' h => rangeAt_bel (range_dr (r5.out)) h LT.out.2.1) ⟨_, rfl, ?_⟩
        refine os_move rfl rfl rfl (Nat.le_of_ble_eq_true rfl) ?_
        apply Exists.intro
        refine ⟨fun w' K hK => ?_, ?_⟩
        (focus
          go_simp
          exact hK)
        refine os_load_mid 28 (.tmp 6) (g6) (0) (bs (oneT l)) _ hS0 rfl rfl rfl rfl rfl (uT.out) rfl (iO.out) (fun w' h => rangeAt_bel (range_dr (r6.out)) h LT.out.2.2) ⟨_, rfl, ?_⟩
        refine os_load_mid 28 (.tmp 2) (g2) (0) (bs s) _ hS0 rfl rfl rfl rfl rfl (uT.out) rfl (iS.out) (fun w' h => rangeAt_bel (range_dr (r2.out)) h LT.out.1) ⟨_, rfl, ?_⟩
        refine os_run rfl rfl (fun K hK => ?_)
        go_wp2_with fail
        refine (Sum_any (S7.out.belF (Below.dr1 _) (fun k hk => Nat.lt_of_lt_of_le hk B7.out.size)) (fun k hk => Nat.lt_of_lt_of_le hk B7.out.size) (by have := hn16.out; omega) HKl.out).mono ?_
        rintro e w8 ⟨rfl, hb8⟩
        go_wp2_with fail
        refine ⟨fun _ _ h => Below.tr h (hb8), ?_⟩
        replace hS0 := Below.tr hS0 (hb8)
        refine os_run rfl rfl (fun K hK => ?_)
        go_wp2_with fail
        refine (sum_any w8 (oneT_len l (by rw [HL.out]; exact hn16.out)) HS.out).mono ?_
        rintro e w9 ⟨rfl, hb9⟩
        go_wp2_with fail
        refine ⟨fun _ _ h => Below.tr h (hb9), ?_⟩
        replace hS0 := Below.tr hS0 (hb9)
        refine os_eql_t 28 (.tmp 30) (.tmp 33) _ 16 (tagL K l) (sumL (oneT l) s) rfl rfl rfl rfl rfl rfl (uT.out) (by kernel_rfl) (tagL_len _ _) (sumL_len _ _) (true) (by rw [Htag.out]; simp) ⟨_, rfl, ?_⟩
        refine os_move rfl rfl rfl (Nat.le_of_ble_eq_true rfl) ?_
        apply Exists.intro
        refine ⟨fun w' K hK => ?_, ?_⟩
        (focus
          go_simp
          exact hK)
        refine os_run rfl rfl (fun K hK => ?_)
        go_wp2_with fail
        refine (known_any w9).mono ?_
        rintro e w10 ⟨rfl, hb10⟩
        go_wp2_with fail
        refine ⟨fun _ _ h => Below.tr h (hb10), ?_⟩
        replace hS0 := Below.tr hS0 (hb10)
        refine os_move rfl rfl rfl (Nat.le_of_ble_eq_true rfl) ?_
        apply Exists.intro
        refine ⟨fun w' K hK => ?_, ?_⟩
        (focus
          go_simp
          exact hK)
        refine os_move rfl rfl rfl (Nat.le_of_ble_eq_true rfl) ?_
        apply Exists.intro
        refine ⟨fun w' K hK => ?_, ?_⟩
        (focus
          go_simp
          exact hK)
        refine os_done ⟨rfl, ?_⟩
        go_wp2_with fail
        go_ret
        exact ⟨rfl, Below.tr B7.out (Below.undr hS0)⟩
end Go.Proofs.Ytkikdhjckjmolaa
