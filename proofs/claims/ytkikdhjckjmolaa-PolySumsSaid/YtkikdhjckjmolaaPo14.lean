/- Poly: with, published. -/
import Derived.Test.YtkikdhjckjmolaaPo13
namespace Go.Proofs.Ytkikdhjckjmolaa
open Go.RowKit
attribute [local go_sem] yld yldUpon_value

set_option maxRecDepth 100000 in
set_option maxHeartbeats 8000000 in
theorem with_any (w : World) {r s : List UInt8} (hr : r.length = 16) (hs : s.length = 16) :
    Calls Try.prog 14 #[.agg (bs r).toArray, .agg (bs s).toArray] w fun e w' => e = .returned (.agg (bs (r ++ s)).toArray) ∧ Below w.heap.size w w' := by
  have HR := Lib.hid hr; have HS := Lib.hid hs
  clear hr hs
  obtain ⟨iK, hiK, zK, _, _⟩ := info_parts Try.infoK
  have HiK := Lib.hid hiK; have HzK := Lib.hid zK
  clear hiK zK
  have uK := Lib.hid Try.underlying23
  obtain ⟨D, hD⟩ : ∃ D, D = r ++ s := ⟨_, rfl⟩
  have HDl : Hid (D.length = 32) := by rw [hD]; show _ = _; rw [List.length_append, HR.out, HS.out]
  have iK2 : Hid ((Try.prog.info? 23).map (·.size) = some (bs D).length) := by rw [bs_length, HDl.out]; exact Try.sizeKey
  rw [← hD]
  have HD := Lib.hid hD
  clear hD
  have hk0 : Hid ((w.alloc (.cells (bs r).toArray 28)).heap[w.heap.size]? = some (.cells (bs r).toArray 28 (0, 0))) := heap_alloc_new w _
  have B1 : Hid (Below w.heap.size w (w.alloc (.cells (bs r).toArray 28))) := Below.al _ _
  obtain ⟨wa, hwa⟩ : ∃ wa, wa = w.alloc (.cells (bs r).toArray 28) := ⟨_, rfl⟩
  have hga : Hid (wa.heap.size = w.heap.size + 1) := by rw [hwa]; show _ = _; simp
  rw [← hwa] at hk0 B1
  have hk1 : Hid ((wa.alloc (.cells (bs s).toArray 28)).heap[wa.heap.size]? = some (.cells (bs s).toArray 28 (0, 0))) := heap_alloc_new wa _
  have hk0' : Hid ((wa.alloc (.cells (bs s).toArray 28)).heap[w.heap.size]? = some (.cells (bs r).toArray 28 (0, 0))) := heap_bel hk0.out (Below.al _ _)
  have B2 : Hid (Below w.heap.size w (wa.alloc (.cells (bs s).toArray 28))) := Below.tr B1.out (Below.al _ _)
  rw [hga.out] at hk1
  rw [hwa] at hk1 hk0' B2
  clear hwa hga hk0 B1
  go_enter Try.func14, Try.ntmps14
  go_wp2_with (first
    | ((with_reducible refine lst_alloc_d 4 rfl 23 rfl iK _ HiK.out HzK.out ?_ ?_)
       (focus rfl)
       intro g4 w2 Hg4 Hh4 hb2
       have G4 : Hid (w2.heap[g4]? = some (.cells (bs (List.replicate 32 0)).toArray 23 (0, 0))) := Hh4
       have G2 := Lib.hid (heap_bel hk0'.out hb2)
       have G3 := Lib.hid (heap_bel hk1.out hb2)
       have B3 := Lib.hid (Below.tr B2.out hb2)
       have E4 : Hid (w.heap.size + 1 < g4) := by have := Hg4.out.1; rw [World.size_alloc, World.size_alloc] at this; show _ < _; omega
       clear Hg4 Hh4 hb2 hk0' hk1 B2)
    | ((with_reducible refine lst_alloc_d 5 rfl 23 rfl iK _ HiK.out HzK.out ?_ ?_)
       (focus rfl)
       intro g5 w3 Hg5 Hh5 hb3
       have G5 : Hid (w3.heap[g5]? = some (.cells (bs (List.replicate 32 0)).toArray 23 (0, 0))) := Hh5
       have G23 := Lib.hid (heap_bel G2.out hb3)
       have G33 := Lib.hid (heap_bel G3.out hb3)
       have G43 := Lib.hid (heap_bel G4.out hb3)
       have B4 := Lib.hid (Below.tr B3.out hb3)
       have E5 : Hid (g4 < g5) := by have := Hg5.out.1; have := (Array.getElem?_eq_some_iff.1 G4.out).1; show _ < _; omega
       clear Hg5 Hh5 hb3 G2 G3 G4 B3))
  simp only [Act.put, List.setIfInBounds_toArray, List.set_cons_succ, List.set_cons_zero]
  have hS : Hid (Sl w3.drew (fun j => j = w.heap.size) (some ⟨w.heap.size, 0, none⟩) 16 16 r) := Sl.of_block (w := w3.drew) G23.out rfl 16 HR.out
  refine wp_calm ?_
  refine wp_region_os (fun _ w' => Below (w3).drew.heap.size (w3).drew w') [] (.move 0 (.move 1 (.run 2 [] .done))) (by kernel_rfl) (by kernel_rfl) (fun _ _ _ _ _ h => nomatch h.1) ?_
  have hS0 : Below (w3).drew.heap.size (w3).drew (w3).drew := Below.refl _ _
  refine os_move rfl rfl rfl (Nat.le_of_ble_eq_true rfl) ?_
  apply Exists.intro
  refine ⟨fun w' K hK => ?_, ?_⟩
  (focus
    go_simp
    exact hK)
  refine os_move rfl rfl rfl (Nat.le_of_ble_eq_true rfl) ?_
  apply Exists.intro
  refine ⟨fun w' K hK => ?_, ?_⟩
  (focus
    go_simp
    exact hK)
  refine os_run rfl rfl (fun K hK => ?_)
  refine wp_copy_blk (.tmp 6) (.tmp 7) rfl g5 0 16 32 32 23 (List.replicate 32 0) rfl G5.out (by simp) (by decide) rfl hS.out ?_
  intro w6 Hh6 hg6
  refine hK _ _ ⟨fun _ hk => absurd hk List.not_mem_nil, ?_⟩
  clear hK
  refine os_done ⟨rfl, ?_⟩
  have G6 : Hid (w6.heap[g5]? = some (.cells (bs (r ++ List.replicate 16 0)).toArray 23 (0, 0))) := by
    have h := Hh6.out
    have e : (List.replicate 32 (0 : UInt8)).take 0 ++ (r.take 16 ++ (List.replicate 32 (0 : UInt8)).drop (0 + min 16 16)) = r ++ List.replicate 16 0 := by
      rw [List.take_of_length_le (l := r) (by rw [HR.out]; exact Nat.le_refl _)]; rfl
    rw [e] at h; exact h
  have G46 : Hid (w6.heap[g4]? = some (.cells (bs (List.replicate 32 0)).toArray 23 (0, 0))) := (hg6.block g4 (Array.getElem?_eq_some_iff.1 G43.out).1 (by have := E5.out; simp; omega)).trans G43.out
  have G36 : Hid (w6.heap[w.heap.size + 1]? = some (.cells (bs s).toArray 28 (0, 0))) := (hg6.block _ (Array.getElem?_eq_some_iff.1 G33.out).1 (by have := E5.out; have := E4.out; simp; omega)).trans G33.out
  have B6 : Hid (Below w.heap.size w w6) := ((below_drewN B4.out 1).grown hg6 B4.out.size (fun j hj => by injection hj with hj; have := E5.out; have := E4.out; omega))
  clear Hh6 hg6 hS0 hS G23 G33 G43 G5 B4
  go_wp2_with fail
  have hS : Hid (Sl w6.drew (fun j => j = w.heap.size + 1) (some ⟨w.heap.size + 1, 0, none⟩) 16 16 s) := Sl.of_block (w := w6.drew) G36.out rfl 16 HS.out
  refine wp_calm ?_
  refine wp_region_os (fun _ w' => Below (w6).drew.heap.size (w6).drew w') [] (.move 0 (.move 1 (.run 2 [] .done))) (by kernel_rfl) (by kernel_rfl) (fun _ _ _ _ _ h => nomatch h.1) ?_
  have hS0 : Below (w6).drew.heap.size (w6).drew (w6).drew := Below.refl _ _
  refine os_move rfl rfl rfl (Nat.le_of_ble_eq_true rfl) ?_
  apply Exists.intro
  refine ⟨fun w' K hK => ?_, ?_⟩
  (focus
    go_simp
    exact hK)
  refine os_move rfl rfl rfl (Nat.le_of_ble_eq_true rfl) ?_
  apply Exists.intro
  refine ⟨fun w' K hK => ?_, ?_⟩
  (focus
    go_simp
    exact hK)
  refine os_run rfl rfl (fun K hK => ?_)
  refine wp_copy_blk (.tmp 9) (.tmp 10) rfl g5 16 16 16 32 23 (r ++ List.replicate 16 0) rfl G6.out (by simp [HR.out]) (by decide) rfl hS.out ?_
  intro w7 Hh7 hg7
  refine hK _ _ ⟨fun _ hk => absurd hk List.not_mem_nil, ?_⟩
  clear hK
  refine os_done ⟨rfl, ?_⟩
  have G7 : Hid (w7.heap[g5]? = some (.cells (bs D).toArray 23 (0, 0))) := by
    have h := Hh7.out
    have e : (r ++ List.replicate 16 (0 : UInt8)).take 16 ++ (s.take 16 ++ (r ++ List.replicate 16 (0 : UInt8)).drop (16 + min 16 16)) = D := by
      rw [HD.out, List.take_of_length_le (l := s) (by rw [HS.out]; exact Nat.le_refl _), List.take_left' HR.out, List.drop_of_length_le (by simp [HR.out]), List.append_nil]
    rw [e] at h; exact h
  have G47 : Hid (w7.heap[g4]? = some (.cells (bs (List.replicate 32 0)).toArray 23 (0, 0))) := (hg7.block g4 (Array.getElem?_eq_some_iff.1 G46.out).1 (by have := E5.out; simp; omega)).trans G46.out
  have B7 : Hid (Below w.heap.size w w7) := ((below_drewN B6.out 1).grown hg7 B6.out.size (fun j hj => by injection hj with hj; have := E5.out; have := E4.out; omega))
  clear Hh7 hg7 hS0 hS G46 G36 G6 B6
  have hr7 : Hid (w7.rangeAt g5 0 (bs D)) := range_block G7.out
  go_wp2_with (first
    | ((with_reducible refine lst_load_mid 23 (.tmp 5) rfl g5 0 rfl (bs D) _ hr7.out uK.out rfl iK2.out ?_ ?_)
       (focus rfl))
    | ((with_reducible refine lst_store_abs 23 (.tmp 4) (.tmp 12) rfl g4 23 (bs (List.replicate 32 0)).toArray (bs D).toArray rfl rfl G47.out (by simpa using iK2.out) (by simp [bs_length, HDl.out]) (by simp; exact bs_oneCell _) ?_ ?_)
       (focus rfl)
       intro w20 Hh20 hg20))
  refine bodyPost_ret (v := .agg (bs D).toArray) ?_ rfl ⟨rfl, ?_⟩
  · exact results_cell Try.results14 rfl (run_loadVar_mid w20 g4 0 23 (bs D) _ (range_block Hh20.out) uK.out rfl iK2.out)
  · exact B7.out.grown hg20 B7.out.size (fun j hj => by injection hj with hj; have := E4.out; omega)
end Go.Proofs.Ytkikdhjckjmolaa
