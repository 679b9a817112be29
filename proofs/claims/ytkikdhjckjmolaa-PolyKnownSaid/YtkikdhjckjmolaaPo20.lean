/- PolyMoves' walk. -/
import Derived.Test.YtkikdhjckjmolaaPo19
import Derived.Deep.CutRange
namespace Go.Proofs.Ytkikdhjckjmolaa
open Go.RowKit
attribute [local go_sem] yld yldUpon_value

set_option maxRecDepth 100000 in
set_option maxHeartbeats 8000000 in
theorem PolyMoves_any (w : World) (Ky : List UInt8) (hK : Ky.length = 32) (by' : List UInt8) (hby : by'.length = 16) (A : Option Addr) (n c : Nat) (l : List UInt8) (h : Sl w (Old w) A n c l) (_ : n ≤ 140737488351232) :
    Calls Try.prog 4 #[.agg (bs Ky).toArray, .agg (bs by').toArray, .slice A n c] w fun e w' => e = .returned (.bool true) ∧ Below w.heap.size w w' := by
  have HK := Lib.hid hK; have HY := Lib.hid hby; have H := Lib.hid h
  have HL := Lib.hid h.len
  clear hK hby h
  obtain ⟨iT, hiT, zT, _, _⟩ := info_parts Try.infoTag
  have HiT := Lib.hid hiT; have HzT := Lib.hid zT
  obtain ⟨iK, hiK, zK, _, _⟩ := info_parts Try.infoK
  have HiK := Lib.hid hiK; have HzK := Lib.hid zK
  clear hiT zT hiK zK
  have uT := Lib.hid Try.underlying28
  have uK := Lib.hid Try.underlying23
  have iY : Hid ((Try.prog.info? 28).map (·.size) = some (bs by').length) := by rw [bs_length, HY.out]; exact Try.sizeTag
  have iKK : Hid ((Try.prog.info? 23).map (·.size) = some (bs Ky).length) := by rw [bs_length, HK.out]; exact Try.sizeKey
  have hk0 : Hid ((w.alloc (.cells (bs Ky).toArray 23)).heap[w.heap.size]? = some (.cells (bs Ky).toArray 23 (0, 0))) := heap_alloc_new w _
  have B1 : Hid (Below w.heap.size w (w.alloc (.cells (bs Ky).toArray 23))) := Below.al _ _
  obtain ⟨wa, hwa⟩ : ∃ wa, wa = w.alloc (.cells (bs Ky).toArray 23) := ⟨_, rfl⟩
  have hga : Hid (wa.heap.size = w.heap.size + 1) := by rw [hwa]; show _ = _; simp
  rw [← hwa] at hk0 B1
  have hk1 : Hid ((wa.alloc (.cells (bs by').toArray 28)).heap[wa.heap.size]? = some (.cells (bs by').toArray 28 (0, 0))) := heap_alloc_new wa _
  have G3 : Hid ((wa.alloc (.cells (bs by').toArray 28)).heap[w.heap.size]? = some (.cells (bs Ky).toArray 23 (0, 0))) := heap_bel hk0.out (Below.al _ _)
  have B2 : Hid (Below w.heap.size w (wa.alloc (.cells (bs by').toArray 28))) := Below.tr B1.out (Below.al _ _)
  rw [hga.out] at hk1
  rw [hwa] at hk1 G3 B2
  clear hwa hga hk0 B1
  go_enter Try.func4, Try.ntmps4
  by_cases hbig : 4096 < n
  · have hbI : (4096 : Int) < (n : Int) := by omega
    go_wp2_with fail
    refine (known_any _).mono ?_
    rintro e w2 ⟨rfl, hb2⟩
    go_wp2_with fail
    go_ret
    exact ⟨rfl, Below.tr B2.out hb2⟩
  · have hbI : decide ((4096 : Int) < (n : Int)) = false := decide_eq_false (by omega)
    have hn12 : Hid (n ≤ 4096) := by show _ ≤ _; omega
    clear hbig
    have hr1 : Hid (((w.alloc (.cells (bs Ky).toArray 23)).alloc (.cells (bs by').toArray 28)).rangeAt w.heap.size 0 (bs Ky)) := range_block G3.out
    go_wp2_with (
      (with_reducible refine lst_load_mid 23 (.tmp 3) rfl w.heap.size 0 rfl (bs Ky) _ hr1.out uK.out rfl iKK.out ?_ ?_)
      (focus rfl))
    clear hr1
    have hsz : ((w.alloc (.cells (bs Ky).toArray 23)).alloc (.cells (bs by').toArray 28)).heap.size = w.heap.size + 2 := by simp
    generalize (w.alloc (.cells (bs Ky).toArray 23)).alloc (.cells (bs by').toArray 28) = w1 at G3 hk1 B2 hsz ⊢
    obtain ⟨g3, hg3⟩ : ∃ g3, g3 = w.heap.size := ⟨_, rfl⟩
    obtain ⟨g4, hg4⟩ : ∃ g4, g4 = w.heap.size + 1 := ⟨_, rfl⟩
    rw [← hg4] at hk1
    rw [← hg3] at G3
    rw [← hg4, ← hg3]
    have E4 : Hid (w.heap.size ≤ g3 ∧ g3 < g4 ∧ g4 < w1.heap.size) := by show _ ∧ _; omega
    clear hg3 hg4 hsz
    refine (half_any w1 HK.out 16 (by decide)).mono ?_
    rintro e w2 ⟨rfl, hb2⟩
    obtain ⟨s, hs⟩ : ∃ s, s = Ky.drop 16 := ⟨_, rfl⟩
    have hs16 : (Ky.drop 16).take 16 = s := by rw [hs, List.take_of_length_le (by rw [List.length_drop, HK.out]; decide)]
    rw [hs16]
    have HSl : Hid (s.length = 16) := by rw [hs]; show _ = _; rw [List.length_drop, HK.out]
    have Hs := Lib.hid hs
    have iS : Hid ((Try.prog.info? 28).map (·.size) = some (bs s).length) := by rw [bs_length, HSl.out]; exact Try.sizeTag
    have G32 := Lib.hid (heap_bel G3.out hb2)
    have G42 := Lib.hid (heap_bel hk1.out hb2)
    have B22 := Lib.hid (Below.tr B2.out hb2)
    have E42 : Hid (w.heap.size ≤ g3 ∧ g3 < g4 ∧ g4 < w2.heap.size) := by have := E4.out; have := hb2.size; show _ ∧ _; omega
    clear hs hs16 hb2 G3 hk1 B2 E4
    go_wp2_with (first
      | ((with_reducible refine lst_alloc_d 7 rfl 28 rfl iT _ HiT.out HzT.out ?_ ?_)
         (focus rfl)
         intro g7 w3 Hg7 Hh7 hb3
         have G7 : Hid (w3.heap[g7]? = some (.cells (bs (List.replicate 16 0)).toArray 28 (0, 0))) := Hh7
         have G33 := Lib.hid (heap_bel G32.out hb3)
         have G43 := Lib.hid (heap_bel G42.out hb3)
         have B3 := Lib.hid (Below.tr B22.out hb3)
         have E7 : Hid (w.heap.size ≤ g3 ∧ g3 < g4 ∧ g4 < g7 ∧ g7 < w3.heap.size) := by have := Hg7.out; have := E42.out; show _ ∧ _; omega
         clear Hg7 Hh7 hb3 G32 G42 B22 E42)
      | ((with_reducible refine lst_store_abs 28 (.tmp 7) (.tmp 15) rfl g7 28 (bs (List.replicate 16 0)).toArray (bs s).toArray rfl rfl G7.out (by simpa using iS.out) (by simp [bs_length, HSl.out]) (by simp; exact bs_oneCell _) ?_ ?_)
         (focus rfl)
         intro w4 Hh4 hg4
         have G74 : Hid (w4.heap[g7]? = some (.cells (bs s).toArray 28 (0, 0))) := Hh4
         have G34 := Lib.hid ((hg4.block g3 (Array.getElem?_eq_some_iff.1 G33.out).1 (by have := E7.out; simp; omega)).trans G33.out)
         have G44 := Lib.hid ((hg4.block g4 (Array.getElem?_eq_some_iff.1 G43.out).1 (by have := E7.out; simp; omega)).trans G43.out)
         have B4 := Lib.hid (B3.out.grown hg4 B3.out.size (fun j hj => by injection hj with hj; have := E7.out; omega))
         have E4 : Hid (w.heap.size ≤ g3 ∧ g3 < g4 ∧ g4 < g7 ∧ g7 < w4.heap.size) := by have := E7.out; have := hg4.size; show _ ∧ _; omega
         clear Hh4 hg4 G33 G43 B3 G7 E7))
    simp only [Act.put, List.setIfInBounds_toArray, List.set_cons_succ, List.set_cons_zero]
    obtain ⟨M, hM⟩ : ∃ M, M = Ky.take 16 ++ sumL s by' := ⟨_, rfl⟩
    have h0 : (Ky.drop 0).take 16 = Ky.take 16 := rfl
    have hT16 : Hid ((Ky.take 16).length = 16) := by show _ = _; rw [List.length_take, HK.out]; rfl
    have HMl : Hid (M.length = 32) := by rw [hM]; show _ = _; rw [List.length_append, hT16.out, sumL_len]
    have HM := Lib.hid hM
    have iM : Hid ((Try.prog.info? 23).map (·.size) = some (bs M).length) := by rw [bs_length, HMl.out]; exact Try.sizeKey
    have r3 : Hid (w4.rangeAt g3 0 (bs Ky)) := range_block G34.out
    have r4 : Hid (w4.rangeAt g4 0 (bs by')) := range_block G44.out
    have r7 : Hid (w4.rangeAt g7 0 (bs s)) := range_block G74.out
    clear hM h0
    go_cut [8] from 8 to 21 (fun s8 wx => ∃ g8, s8 = .pointer (some ⟨g8, 0, none⟩) ∧ Hid (Below w4.heap.size w4 wx ∧ w4.heap.size ≤ g8 ∧ wx.heap[g8]? = some (.cells (bs M).toArray 23 (0, 0))))
    case first =>
      --dev<
      refine wp_calm ?_
      refine wp_region_os (fun _ w' => Below (w4).drew.heap.size (w4).drew w') [0, 2, 3] (.take 0 (.take 2 (.take 3 (.two 1 [2, 3] (.two 4 [0] (.two 5 [0, 2, 3] (.run 6 [0, 2, 3] (.run 7 [] .done)) 6 [0, 2, 3] (.run 5 [0, 2, 3] (.run 7 [] .done))) 6 [0, 2, 3] (.run 4 [0] (.run 5 [0, 2, 3] (.run 7 [] .done)))) 6 [0, 2, 3] (.run 1 [2, 3] (.run 4 [0] (.run 5 [0, 2, 3] (.run 7 [] .done)))))))) (by kernel_rfl) (by kernel_rfl) (fun _ _ _ _ _ h => nomatch h.1) ?_
      have hS0 : Below (w4).drew.heap.size (w4).drew (w4).drew := Below.refl _ _
      refine os_load_mid 23 (.tmp 3) (g3) (0) (bs Ky) _ hS0 rfl rfl rfl rfl rfl (uK.out) rfl (iKK.out) (fun w' h => rangeAt_bel (range_dr (r3.out)) h (show g3 < w4.heap.size by have := E4.out; omega)) ⟨_, rfl, ?_⟩
      refine os_load_mid 28 (.tmp 7) (g7) (0) (bs s) _ hS0 rfl rfl rfl rfl rfl (uT.out) rfl (iS.out) (fun w' h => rangeAt_bel (range_dr (r7.out)) h (show g7 < w4.heap.size by have := E4.out; omega)) ⟨_, rfl, ?_⟩
      refine os_load_mid 28 (.tmp 4) (g4) (0) (bs by') _ hS0 rfl rfl rfl rfl rfl (uT.out) rfl (iY.out) (fun w' h => rangeAt_bel (range_dr (r4.out)) h (show g4 < w4.heap.size by have := E4.out; omega)) ⟨_, rfl, ?_⟩
      refine os_two rfl rfl rfl rfl (fun K hK => ?_) (fun K hK => ?_)
      · go_wp2_with fail
        refine (half_any _ HK.out 0 (by decide)).mono ?_
        rintro e wh ⟨rfl, hbh⟩
        rw [show (Ky.drop 0).take 16 = Ky.take 16 from rfl]
        try replace Hh := Lib.hid (heap_bel Hh.out hbh)
        go_wp2_with fail
        refine ⟨fun _ _ h => Below.tr h (hbh), ?_⟩
        replace hS0 := Below.tr hS0 (hbh)
        refine os_two rfl rfl rfl rfl (fun K hK => ?_) (fun K hK => ?_)
        · go_wp2_with fail
          refine (sum_any _ HSl.out HY.out).mono ?_
          rintro e ws ⟨rfl, hbs⟩
          try replace Hh := Lib.hid (heap_bel Hh.out hbs)
          go_wp2_with fail
          refine ⟨fun _ _ h => Below.tr h (hbs), ?_⟩
          replace hS0 := Below.tr hS0 (hbs)
          refine os_two rfl rfl rfl rfl (fun K hK => ?_) (fun K hK => ?_)
          · go_wp2_with fail
            refine (with_any _ hT16.out (sumL_len s by')).mono ?_
            rintro e wm ⟨rfl, hbm⟩
            rw [← HM.out]
            try replace Hh := Lib.hid (heap_bel Hh.out hbm)
            go_wp2_with fail
            refine ⟨fun _ _ h => Below.tr h (hbm), ?_⟩
            replace hS0 := Below.tr hS0 (hbm)
            refine os_run rfl rfl (fun K hK => ?_)
            refine wp_alloc_abs 23 rfl iK _ HiK.out HzK.out ?_
            intro g8 wk Hg Hh hb
            have hE : w4.heap.size ≤ g8 := by
              have e1 := Hg.out.1; have e2 := hS0.size
              have e3 : w4.drew.heap.size = w4.heap.size := rfl
              omega
            clear Hg
            refine hK _ _ ⟨fun _ _ h => Below.tr h (hb), ?_⟩
            clear hK
            replace hS0 := Below.tr hS0 (hb)
            refine os_run rfl rfl (fun K hK => ?_)
            refine wp_store_abs 23 (.tmp 8) (.tmp 21) rfl g8 23 _ (bs M).toArray rfl rfl Hh.out (by simpa using iM.out) (by simp [Value.cells, bs_length, HMl.out]) (by simp; exact bs_oneCell _) ?_
            intro w9 Hh9 hg9
            refine hK _ _ ⟨fun _ hk => absurd hk List.not_mem_nil, ?_⟩
            clear hK
            refine os_done ⟨rfl, ?_⟩
            go_wp2_with fail
            go_meet
            exact ⟨g8, rfl, Lib.hid ⟨(Below.undr hS0).grown hg9 (Below.undr hS0).size (fun j hj => by injection hj with hj; omega), hE, Hh9.out⟩⟩
          · refine wp_alloc_abs 23 rfl iK _ HiK.out HzK.out ?_
            intro g8 wk Hg Hh hb
            have hE : w4.heap.size ≤ g8 := by
              have e1 := Hg.out.1; have e2 := hS0.size
              have e3 : w4.drew.heap.size = w4.heap.size := rfl
              omega
            clear Hg
            refine hK _ _ ⟨fun _ _ h => Below.tr h (hb), ?_⟩
            clear hK
            replace hS0 := Below.tr hS0 (hb)
            refine os_run rfl rfl (fun K hK => ?_)
            go_wp2_with fail
            refine (with_any _ hT16.out (sumL_len s by')).mono ?_
            rintro e wm ⟨rfl, hbm⟩
            rw [← HM.out]
            try replace Hh := Lib.hid (heap_bel Hh.out hbm)
            go_wp2_with fail
            refine ⟨fun _ _ h => Below.tr h (hbm), ?_⟩
            replace hS0 := Below.tr hS0 (hbm)
            refine os_run rfl rfl (fun K hK => ?_)
            refine wp_store_abs 23 (.tmp 8) (.tmp 21) rfl g8 23 _ (bs M).toArray rfl rfl Hh.out (by simpa using iM.out) (by simp [Value.cells, bs_length, HMl.out]) (by simp; exact bs_oneCell _) ?_
            intro w9 Hh9 hg9
            refine hK _ _ ⟨fun _ hk => absurd hk List.not_mem_nil, ?_⟩
            clear hK
            refine os_done ⟨rfl, ?_⟩
            go_wp2_with fail
            go_meet
            exact ⟨g8, rfl, Lib.hid ⟨(Below.undr hS0).grown hg9 (Below.undr hS0).size (fun j hj => by injection hj with hj; omega), hE, Hh9.out⟩⟩
        · refine wp_alloc_abs 23 rfl iK _ HiK.out HzK.out ?_
          intro g8 wk Hg Hh hb
          have hE : w4.heap.size ≤ g8 := by
            have e1 := Hg.out.1; have e2 := hS0.size
            have e3 : w4.drew.heap.size = w4.heap.size := rfl
            omega
          clear Hg
          refine hK _ _ ⟨fun _ _ h => Below.tr h (hb), ?_⟩
          clear hK
          replace hS0 := Below.tr hS0 (hb)
          refine os_run rfl rfl (fun K hK => ?_)
          go_wp2_with fail
          refine (sum_any _ HSl.out HY.out).mono ?_
          rintro e ws ⟨rfl, hbs⟩
          try replace Hh := Lib.hid (heap_bel Hh.out hbs)
          go_wp2_with fail
          refine ⟨fun _ _ h => Below.tr h (hbs), ?_⟩
          replace hS0 := Below.tr hS0 (hbs)
          refine os_run rfl rfl (fun K hK => ?_)
          go_wp2_with fail
          refine (with_any _ hT16.out (sumL_len s by')).mono ?_
          rintro e wm ⟨rfl, hbm⟩
          rw [← HM.out]
          try replace Hh := Lib.hid (heap_bel Hh.out hbm)
          go_wp2_with fail
          refine ⟨fun _ _ h => Below.tr h (hbm), ?_⟩
          replace hS0 := Below.tr hS0 (hbm)
          refine os_run rfl rfl (fun K hK => ?_)
          refine wp_store_abs 23 (.tmp 8) (.tmp 21) rfl g8 23 _ (bs M).toArray rfl rfl Hh.out (by simpa using iM.out) (by simp [Value.cells, bs_length, HMl.out]) (by simp; exact bs_oneCell _) ?_
          intro w9 Hh9 hg9
          refine hK _ _ ⟨fun _ hk => absurd hk List.not_mem_nil, ?_⟩
          clear hK
          refine os_done ⟨rfl, ?_⟩
          go_wp2_with fail
          go_meet
          exact ⟨g8, rfl, Lib.hid ⟨(Below.undr hS0).grown hg9 (Below.undr hS0).size (fun j hj => by injection hj with hj; omega), hE, Hh9.out⟩⟩
      · refine wp_alloc_abs 23 rfl iK _ HiK.out HzK.out ?_
        intro g8 wk Hg Hh hb
        have hE : w4.heap.size ≤ g8 := by
          have e1 := Hg.out.1; have e2 := hS0.size
          have e3 : w4.drew.heap.size = w4.heap.size := rfl
          omega
        clear Hg
        refine hK _ _ ⟨fun _ _ h => Below.tr h (hb), ?_⟩
        clear hK
        replace hS0 := Below.tr hS0 (hb)
        refine os_run rfl rfl (fun K hK => ?_)
        go_wp2_with fail
        refine (half_any _ HK.out 0 (by decide)).mono ?_
        rintro e wh ⟨rfl, hbh⟩
        rw [show (Ky.drop 0).take 16 = Ky.take 16 from rfl]
        try replace Hh := Lib.hid (heap_bel Hh.out hbh)
        go_wp2_with fail
        refine ⟨fun _ _ h => Below.tr h (hbh), ?_⟩
        replace hS0 := Below.tr hS0 (hbh)
        refine os_run rfl rfl (fun K hK => ?_)
        go_wp2_with fail
        refine (sum_any _ HSl.out HY.out).mono ?_
        rintro e ws ⟨rfl, hbs⟩
        try replace Hh := Lib.hid (heap_bel Hh.out hbs)
        go_wp2_with fail
        refine ⟨fun _ _ h => Below.tr h (hbs), ?_⟩
        replace hS0 := Below.tr hS0 (hbs)
        refine os_run rfl rfl (fun K hK => ?_)
        go_wp2_with fail
        refine (with_any _ hT16.out (sumL_len s by')).mono ?_
        rintro e wm ⟨rfl, hbm⟩
        rw [← HM.out]
        try replace Hh := Lib.hid (heap_bel Hh.out hbm)
        go_wp2_with fail
        refine ⟨fun _ _ h => Below.tr h (hbm), ?_⟩
        replace hS0 := Below.tr hS0 (hbm)
        refine os_run rfl rfl (fun K hK => ?_)
        refine wp_store_abs 23 (.tmp 8) (.tmp 21) rfl g8 23 _ (bs M).toArray rfl rfl Hh.out (by simpa using iM.out) (by simp [Value.cells, bs_length, HMl.out]) (by simp; exact bs_oneCell _) ?_
        intro w9 Hh9 hg9
        refine hK _ _ ⟨fun _ hk => absurd hk List.not_mem_nil, ?_⟩
        clear hK
        refine os_done ⟨rfl, ?_⟩
        go_wp2_with fail
        go_meet
        exact ⟨g8, rfl, Lib.hid ⟨(Below.undr hS0).grown hg9 (Below.undr hS0).size (fun j hj => by injection hj with hj; omega), hE, Hh9.out⟩⟩
      --dev>
    case rest =>
      obtain ⟨g8, rfl, hC⟩ := hcut
      have Bc := Lib.hid hC.out.1
      have E8 : Hid (w.heap.size ≤ g3 ∧ g3 < g4 ∧ g4 < g7 ∧ g7 < g8 ∧ g8 < wc.heap.size) := by have := E4.out; have := hC.out.2.1; have := (Array.getElem?_eq_some_iff.1 hC.out.2.2).1; show _ ∧ _; omega
      have G8c : Hid (wc.heap[g8]? = some (.cells (bs M).toArray 23 (0, 0))) := hC.out.2.2
      have G3c := Lib.hid (heap_bel G34.out Bc.out); have G4c := Lib.hid (heap_bel G44.out Bc.out); have G7c := Lib.hid (heap_bel G74.out Bc.out)
      have BC := Lib.hid (Below.tr B4.out Bc.out)
      have rc7 : Hid (wc.rangeAt g7 0 (bs s)) := range_block G7c.out
      clear hC Bc G34 G44 G74 B4 E4 r3 r4 r7
      go_wp2_with (
        (with_reducible refine lst_load_mid 28 (.tmp 7) rfl g7 0 rfl (bs s) _ rc7.out uT.out rfl iS.out ?_ ?_)
        (focus rfl))
      clear rc7
      refine (with_any wc (r := List.replicate 16 0) rfl HSl.out).mono ?_
      rintro e w5 ⟨rfl, hb5⟩
      obtain ⟨N, hN⟩ : ∃ N, N = List.replicate 16 0 ++ s := ⟨_, rfl⟩
      have HNl : Hid (N.length = 32) := by rw [hN]; show _ = _; rw [List.length_append, HSl.out, List.length_replicate]
      have T1 : Hid (tagL M l = sumL (tagL Ky l) by') := by rw [HM.out, Hs.out]; exact tag_moved HK.out l
      have T2 : Hid (tagL Ky [] = s) := by rw [Hs.out]; exact tag_nil HK.out
      have T3 : Hid (tagL N l = s) := by rw [hN]; exact tag_none HSl.out l
      have iN : Hid ((Try.prog.info? 23).map (·.size) = some (bs N).length) := by rw [bs_length, HNl.out]; exact Try.sizeKey
      rw [← hN]
      have G85 := Lib.hid (heap_bel G8c.out hb5); have G35 := Lib.hid (heap_bel G3c.out hb5); have G45 := Lib.hid (heap_bel G4c.out hb5); have G75 := Lib.hid (heap_bel G7c.out hb5)
      have B5 := Lib.hid (Below.tr BC.out hb5)
      have E5 : Hid (w.heap.size ≤ g3 ∧ g3 < g4 ∧ g4 < g7 ∧ g7 < g8 ∧ g8 < w5.heap.size) := by have := E8.out; have := hb5.size; show _ ∧ _; omega
      clear hN hb5 G8c G3c G4c G7c BC E8
      go_wp2_with (first
        | ((with_reducible refine lst_alloc_d 9 rfl 23 rfl iK _ HiK.out HzK.out ?_ ?_)
           (focus rfl)
           intro g9 w6 Hg9 Hh9 hb6
           have G9 : Hid (w6.heap[g9]? = some (.cells (bs (List.replicate 32 0)).toArray 23 (0, 0))) := Hh9
           have G86 := Lib.hid (heap_bel G85.out hb6); have G36 := Lib.hid (heap_bel G35.out hb6); have G46 := Lib.hid (heap_bel G45.out hb6); have G76 := Lib.hid (heap_bel G75.out hb6)
           have B6 := Lib.hid (Below.tr B5.out hb6)
           have E6 : Hid (w.heap.size ≤ g3 ∧ g3 < g4 ∧ g4 < g7 ∧ g7 < g8 ∧ g8 < g9 ∧ g9 < w6.heap.size) := by have := E5.out; have := Hg9.out; show _ ∧ _; omega
           clear Hg9 Hh9 hb6 G85 G35 G45 G75 B5 E5)
        | ((with_reducible refine lst_store_abs 23 (.tmp 9) (.tmp 24) rfl g9 23 (bs (List.replicate 32 0)).toArray (bs N).toArray rfl rfl G9.out (by simpa using iN.out) (by simp [bs_length, HNl.out]) (by simp; exact bs_oneCell _) ?_ ?_)
           (focus rfl)
           intro w7 Hh7 hg7
           have G97 : Hid (w7.heap[g9]? = some (.cells (bs N).toArray 23 (0, 0))) := Hh7
           have G87 := Lib.hid ((hg7.block g8 (Array.getElem?_eq_some_iff.1 G86.out).1 (by have := E6.out; simp; omega)).trans G86.out)
           have G37 := Lib.hid ((hg7.block g3 (Array.getElem?_eq_some_iff.1 G36.out).1 (by have := E6.out; simp; omega)).trans G36.out)
           have G47 := Lib.hid ((hg7.block g4 (Array.getElem?_eq_some_iff.1 G46.out).1 (by have := E6.out; simp; omega)).trans G46.out)
           have G77 := Lib.hid ((hg7.block g7 (Array.getElem?_eq_some_iff.1 G76.out).1 (by have := E6.out; simp; omega)).trans G76.out)
           have B7 := Lib.hid (B6.out.grown hg7 B6.out.size (fun j hj => by injection hj with hj; have := E6.out; omega))
           have E7 : Hid (w.heap.size ≤ g3 ∧ g3 < g4 ∧ g4 < g7 ∧ g7 < g8 ∧ g8 < g9 ∧ g9 < w7.heap.size) := by have := E6.out; have := hg7.size; show _ ∧ _; omega
           clear Hh7 hg7 G86 G36 G46 G76 B6 E6 G9))
      have S7 := Lib.hid (H.out.belF B7.out (fun _ h => h))
      have r3 : Hid (w7.rangeAt g3 0 (bs Ky)) := range_block G37.out
      have r4 : Hid (w7.rangeAt g4 0 (bs by')) := range_block G47.out
      have r7 : Hid (w7.rangeAt g7 0 (bs s)) := range_block G77.out
      have r8 : Hid (w7.rangeAt g8 0 (bs M)) := range_block G87.out
      have r9 : Hid (w7.rangeAt g9 0 (bs N)) := range_block G97.out
      refine wp_calm ?_
      refine wp_region_os (fun _ w' => Below (w7).drew.heap.size (w7).drew w') [0, 3, 6, 10, 12, 16, 19] (.take 0 (.move 1 (.take 3 (.move 4 (.take 6 (.run 2 [3, 6, 10, 12, 16, 19] (.run 5 [0, 6, 10, 12, 16, 19] (.run 7 [0, 3, 10, 12, 16, 19] (.move 8 (.move 9 (.take 10 (.take 12 (.run 11 [0, 3, 6, 12, 16, 19] (.move 13 (.move 14 (.move 15 (.take 16 (.move 17 (.take 19 (.run 18 [0, 3, 6, 10, 12, 19] (.move 20 (.move 21 (.move 22 (.run 23 [0, 3, 6, 10, 12, 16, 19] (.move 24 (.move 25 .done)))))))))))))))))))))))))) (by kernel_rfl) (by kernel_rfl) (fun _ _ _ _ _ h => nomatch h.1) ?_
      have hS0 : Below (w7).drew.heap.size (w7).drew (w7).drew := Below.refl _ _
      refine os_load_mid 23 (.tmp 8) (g8) (0) (bs M) _ hS0 rfl rfl rfl rfl rfl (uK.out) rfl (iM.out) (fun w' h => rangeAt_bel (range_dr (r8.out)) h (show g8 < w7.heap.size by have := E7.out; omega)) ⟨_, rfl, ?_⟩
      refine os_move rfl rfl rfl (Nat.le_of_ble_eq_true rfl) ?_
      apply Exists.intro
      refine ⟨fun w' K hK => ?_, ?_⟩
      (focus
        go_simp
        exact hK)
      refine os_load_mid 23 (.tmp 3) (g3) (0) (bs Ky) _ hS0 rfl rfl rfl rfl rfl (uK.out) rfl (iKK.out) (fun w' h => rangeAt_bel (range_dr (r3.out)) h (show g3 < w7.heap.size by have := E7.out; omega)) ⟨_, rfl, ?_⟩
      refine os_move rfl rfl rfl (Nat.le_of_ble_eq_true rfl) ?_
      apply Exists.intro
      refine ⟨fun w' K hK => ?_, ?_⟩
      (focus
        go_simp
        exact hK)
      refine os_load_mid 28 (.tmp 4) (g4) (0) (bs by') _ hS0 rfl rfl rfl rfl rfl (uT.out) rfl (iY.out) (fun w' h => rangeAt_bel (range_dr (r4.out)) h (show g4 < w7.heap.size by have := E7.out; omega)) ⟨_, rfl, ?_⟩
      refine os_run rfl rfl (fun K hK => ?_)
      go_wp2_with fail
      refine (Sum_any (H.out.belF (Below.tr B7.out (Below.undr hS0)) (fun _ h => h)) (fun k hk => Nat.lt_of_lt_of_le hk (Below.tr B7.out (Below.undr hS0)).size) (by have := hn12.out; omega) HMl.out).mono ?_
      rintro e wp ⟨rfl, hbp⟩
      go_wp2_with fail
      refine ⟨fun _ _ h => Below.tr h (hbp), ?_⟩
      replace hS0 := Below.tr hS0 (hbp)
      refine os_run rfl rfl (fun K hK => ?_)
      go_wp2_with fail
      refine (Sum_any (H.out.belF (Below.tr B7.out (Below.undr hS0)) (fun _ h => h)) (fun k hk => Nat.lt_of_lt_of_le hk (Below.tr B7.out (Below.undr hS0)).size) (by have := hn12.out; omega) HK.out).mono ?_
      rintro e wq ⟨rfl, hbq⟩
      go_wp2_with fail
      refine ⟨fun _ _ h => Below.tr h (hbq), ?_⟩
      replace hS0 := Below.tr hS0 (hbq)
      refine os_run rfl rfl (fun K hK => ?_)
      go_wp2_with fail
      refine (sum_any wq (tagL_len Ky l) HY.out).mono ?_
      rintro e wr ⟨rfl, hbr⟩
      go_wp2_with fail
      refine ⟨fun _ _ h => Below.tr h (hbr), ?_⟩
      replace hS0 := Below.tr hS0 (hbr)
      refine os_eql_t 28 (.tmp 27) (.tmp 32) _ 16 (tagL M l) (sumL (tagL Ky l) by') rfl rfl rfl rfl rfl rfl (uT.out) (by kernel_rfl) (tagL_len _ _) (sumL_len _ _) (true) (by rw [T1.out]; simp) ⟨_, rfl, ?_⟩
      refine os_move rfl rfl rfl (Nat.le_of_ble_eq_true rfl) ?_
      apply Exists.intro
      refine ⟨fun w' K hK => ?_, ?_⟩
      (focus
        go_simp
        exact hK)
      refine os_load_mid 23 (.tmp 3) (g3) (0) (bs Ky) _ hS0 rfl rfl rfl rfl rfl (uK.out) rfl (iKK.out) (fun w' h => rangeAt_bel (range_dr (r3.out)) h (show g3 < w7.heap.size by have := E7.out; omega)) ⟨_, rfl, ?_⟩
      refine os_load_mid 28 (.tmp 7) (g7) (0) (bs s) _ hS0 rfl rfl rfl rfl rfl (uT.out) rfl (iS.out) (fun w' h => rangeAt_bel (range_dr (r7.out)) h (show g7 < w7.heap.size by have := E7.out; omega)) ⟨_, rfl, ?_⟩
      refine os_run rfl rfl (fun K hK => ?_)
      go_wp2_with fail
      refine (Sum_any (Sl.nil_ _ (Old w)) (fun k hk => Nat.lt_of_lt_of_le hk (Below.tr B7.out (Below.undr hS0)).size) (by decide) HK.out).mono ?_
      rintro e wt ⟨rfl, hbt⟩
      go_wp2_with fail
      refine ⟨fun _ _ h => Below.tr h (hbt), ?_⟩
      replace hS0 := Below.tr hS0 (hbt)
      refine os_eql_t 28 (.tmp 36) (.tmp 37) _ 16 (tagL Ky []) (s) rfl rfl rfl rfl rfl rfl (uT.out) (by kernel_rfl) (tagL_len _ _) (HSl.out) (true) (by rw [T2.out]; simp) ⟨_, rfl, ?_⟩
      refine os_move rfl rfl rfl (Nat.le_of_ble_eq_true rfl) ?_
      apply Exists.intro
      refine ⟨fun w' K hK => ?_, ?_⟩
      (focus
        go_simp
        exact hK)
      refine os_move rfl rfl rfl (Nat.le_of_ble_eq_true rfl) ?_
      apply Exists.intro
      refine ⟨fun w' K hK => ?_, ?_⟩
      (focus
        go_simp
        exact hK)
      refine os_load_mid 23 (.tmp 9) (g9) (0) (bs N) _ hS0 rfl rfl rfl rfl rfl (uK.out) rfl (iN.out) (fun w' h => rangeAt_bel (range_dr (r9.out)) h (show g9 < w7.heap.size by have := E7.out; omega)) ⟨_, rfl, ?_⟩
      refine os_moveg rfl rfl rfl (Nat.le_of_ble_eq_true rfl) ?_
      apply Exists.intro
      refine ⟨fun w' K hK => ?_, ?_⟩
      (focus
        go_simp
        exact hK)
      refine os_load_mid 28 (.tmp 7) (g7) (0) (bs s) _ hS0 rfl rfl rfl rfl rfl (uT.out) rfl (iS.out) (fun w' h => rangeAt_bel (range_dr (r7.out)) h (show g7 < w7.heap.size by have := E7.out; omega)) ⟨_, rfl, ?_⟩
      refine os_run rfl rfl (fun K hK => ?_)
      go_wp2_with fail
      refine (Sum_any (H.out.belF (Below.tr B7.out (Below.undr hS0)) (fun _ h => h)) (fun k hk => Nat.lt_of_lt_of_le hk (Below.tr B7.out (Below.undr hS0)).size) (by have := hn12.out; omega) HNl.out).mono ?_
      rintro e wu ⟨rfl, hbu⟩
      go_wp2_with fail
      refine ⟨fun _ _ h => Below.tr h (hbu), ?_⟩
      replace hS0 := Below.tr hS0 (hbu)
      refine os_eql_t 28 (.tmp 43) (.tmp 44) _ 16 (tagL N l) (s) rfl rfl rfl rfl rfl rfl (uT.out) (by kernel_rfl) (tagL_len _ _) (HSl.out) (true) (by rw [T3.out]; simp) ⟨_, rfl, ?_⟩
      refine os_move rfl rfl rfl (Nat.le_of_ble_eq_true rfl) ?_
      apply Exists.intro
      refine ⟨fun w' K hK => ?_, ?_⟩
      (focus
        go_simp
        exact hK)
      refine os_move rfl rfl rfl (Nat.le_of_ble_eq_true rfl) ?_
      apply Exists.intro
      refine ⟨fun w' K hK => ?_, ?_⟩
      (focus
        go_simp
        exact hK)
      refine os_run rfl rfl (fun K hK => ?_)
      go_wp2_with fail
      refine (known_any wu).mono ?_
      rintro e wv ⟨rfl, hbv⟩
      go_wp2_with fail
      refine ⟨fun _ _ h => Below.tr h (hbv), ?_⟩
      replace hS0 := Below.tr hS0 (hbv)
      refine os_move rfl rfl rfl (Nat.le_of_ble_eq_true rfl) ?_
      apply Exists.intro
      refine ⟨fun w' K hK => ?_, ?_⟩
      (focus
        go_simp
        exact hK)
      refine os_move rfl rfl rfl (Nat.le_of_ble_eq_true rfl) ?_
      apply Exists.intro
      refine ⟨fun w' K hK => ?_, ?_⟩
      (focus
        go_simp
        exact hK)
      refine os_done ⟨rfl, ?_⟩
      go_wp2_with fail
      refine bodyPost_ret (v := .bool true) ?_ rfl ?_
      · simp [results, Try.results4, go_sem]
      · exact ⟨rfl, Below.tr B7.out (Below.undr hS0)⟩
end Go.Proofs.Ytkikdhjckjmolaa
