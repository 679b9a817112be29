/- Poly: half, with, published. -/
import Derived.Test.YtkikdhjckjmolaaPo12
namespace Go.Proofs.Ytkikdhjckjmolaa
open Go.RowKit
attribute [local go_sem] yld yldUpon_value

theorem wp_copy_blk {w : World} {o : Oper} {a : Act} {K : Act → World → Prop} {Q : Exit → Act → World → Prop} (d s : Operand)
    (ho : o.op = .call { callee := .builtin .copy, args := #[d, s], argTypes := #[24, 24] })
    (g off dl dc N T : Nat) (L : List UInt8) (hd : a.eval d = .slice (some ⟨g, off, none⟩) dl dc) (hb : w.heap[g]? = some (.cells (bs L).toArray T (0, 0))) (hL : L.length = N)
    (hfit : off + dl ≤ N) {F : Nat → Prop} {A : Option Addr} {sn sc : Nat} {l : List UInt8} (hsv : a.eval s = .slice A sn sc) (hs : Sl w F A sn sc l)
    (h : ∀ w', Hid (w'.heap[g]? = some (.cells (bs (L.take off ++ (l.take dl ++ L.drop (off + min sn dl)))).toArray T (0, 0))) → w.grownBy w' (some g) →
      K (a.put o.dst (.int .i64 (min sn dl : Nat))) w') : o.wp Try.prog a w K Q := by
  obtain ⟨w', hrun, h2, h3⟩ := run_copy_blk o.type g off dl dc N T L hb hL hfit hs
  unfold Oper.wp
  simp [execOp, ho, resolve, invoke, builtin, hd, hsv, hrun, Result.andThen]
  exact h w' (Lib.hid h2) h3

set_option maxRecDepth 100000 in
set_option maxHeartbeats 8000000 in
theorem half_any (w : World) {K : List UInt8} (hK : K.length = 32) (p : Nat) (hp : p ≤ 16) :
    Calls Try.prog 13 #[.agg (bs K).toArray, .int .i64 p] w fun e w' => e = .returned (.agg (bs ((K.drop p).take 16)).toArray) ∧ Below w.heap.size w w' := by
  have HK := Lib.hid hK
  clear hK
  obtain ⟨iT, hiT, zT, _, _⟩ := info_parts Try.infoTag
  have HiT := Lib.hid hiT; have HzT := Lib.hid zT
  clear hiT zT
  have uT := Lib.hid Try.underlying28
  obtain ⟨D, hD⟩ : ∃ D, D = (K.drop p).take 16 := ⟨_, rfl⟩
  have HDl : Hid (D.length = 16) := by rw [hD]; show _ = _; rw [List.length_take, List.length_drop, HK.out]; omega
  have iT2 : Hid ((Try.prog.info? 28).map (·.size) = some (bs D).length) := by rw [bs_length, HDl.out]; exact Try.sizeTag
  have hk0 : Hid ((w.alloc (.cells (bs K).toArray 23)).heap[w.heap.size]? = some (.cells (bs K).toArray 23 (0, 0))) := heap_alloc_new w _
  have B1 : Hid (Below w.heap.size w (w.alloc (.cells (bs K).toArray 23))) := Below.al _ _
  obtain ⟨q, hq⟩ : ∃ q : Nat, (p : Int) + 16 = (q : Int) := ⟨p + 16, by omega⟩
  have hq32 : (q : Int) ≤ 32 := by omega
  have hpq : (p : Int) ≤ (q : Int) := by omega
  have hp0 : (0 : Int) ≤ (p : Int) := by omega
  have hwq : IntKind.i64.wrap ((p : Int) + 16) = (q : Int) := by rw [IntKind.wrap_i64]; omega
  have hqp : Hid (q = p + 16) := by show _ = _; omega
  have hqn : (q : Int) - (p : Int) = 16 := by omega
  clear hq
  have hp32 : (p : Int) ≤ 32 := by omega
  rw [← hD]
  have HD := Lib.hid hD
  clear hD
  go_enter Try.func13, Try.ntmps13
  go_wp2_with (first
    | ((with_reducible refine lst_alloc_d 4 rfl 28 rfl iT _ HiT.out HzT.out ?_ ?_)
       (focus rfl)
       intro g4 w2 Hg4 Hh4 hb2
       have G4 : Hid (w2.heap[g4]? = some (.cells (bs (List.replicate 16 0)).toArray 28 (0, 0))) := Hh4
       have G2 := Lib.hid (heap_bel hk0.out hb2)
       have B2 := Lib.hid (Below.tr B1.out hb2)
       have E4 : Hid (w.heap.size < g4) := by have := Hg4.out.1; rw [World.size_alloc] at this; show _ < _; omega
       clear Hg4 Hh4 hb2 hk0 B1)
    | ((with_reducible refine lst_alloc_d 5 rfl 28 rfl iT _ HiT.out HzT.out ?_ ?_)
       (focus rfl)
       intro g5 w3 Hg5 Hh5 hb3
       have G5 : Hid (w3.heap[g5]? = some (.cells (bs (List.replicate 16 0)).toArray 28 (0, 0))) := Hh5
       have G23 := Lib.hid (heap_bel G2.out hb3)
       have G43 := Lib.hid (heap_bel G4.out hb3)
       have B3 := Lib.hid (Below.tr B2.out hb3)
       have E5 : Hid (g4 < g5) := by have := Hg5.out.1; have := (Array.getElem?_eq_some_iff.1 G4.out).1; show _ < _; omega
       clear Hg5 Hh5 hb3 G2 G4 B2))
  simp only [Act.put, List.setIfInBounds_toArray, List.set_cons_succ, List.set_cons_zero]
  have hS : Hid (Sl w3.drew (fun j => j = w.heap.size) (some ⟨w.heap.size, p, none⟩) (q - p) (32 - p) D) := by
    have h := (Sl.of_block (w := w3.drew) G23.out rfl 32 HK.out).drop_ (m := p) (A' := some ⟨w.heap.size, p, none⟩) (by omega) (.inr (by simp [addr_add_zero]))
    rw [← List.take_append_drop 16 (K.drop p), ← HD.out] at h
    exact Sl.take_ h (by have := hqp.out; rw [HDl.out]; omega)
  refine wp_calm ?_
  refine wp_region_os (fun _ w' => Below (w3).drew.heap.size (w3).drew w') [] (.move 0 (.move 1 (.move 2 (.move 3 (.run 4 [] (.run 5 [] .done)))))) (by kernel_rfl) (by kernel_rfl) (fun _ _ _ _ _ h => nomatch h.1) ?_
  have hS0 : Below (w3).drew.heap.size (w3).drew (w3).drew := Below.refl _ _
  refine os_move rfl rfl rfl (Nat.le_of_ble_eq_true rfl) ?_
  apply Exists.intro
  refine ⟨fun w' K hK => ?_, ?_⟩
  (focus
    go_simp
    exact hK)
  refine os_move rfl rfl rfl (Nat.le_of_ble_eq_true rfl) ?_
  apply Exists.intro
  refine ⟨fun w' K hK => ?_, ?_⟩
  (focus
    go_simp
    exact hK)
  refine os_move rfl rfl rfl (Nat.le_of_ble_eq_true rfl) ?_
  apply Exists.intro
  refine ⟨fun w' K hK => ?_, ?_⟩
  (focus
    go_simp
    exact hK)
  refine os_move rfl rfl rfl (Nat.le_of_ble_eq_true rfl) ?_
  apply Exists.intro
  refine ⟨fun w' K hK => ?_, ?_⟩
  (focus
    go_simp
    exact hK)
  refine os_run rfl rfl (fun K hK => ?_)
  go_wp2_with fail
  refine ⟨fun _ hk => absurd hk List.not_mem_nil, ?_⟩
  refine os_run rfl rfl (fun K hK => ?_)
  refine wp_copy_blk (.tmp 6) (.tmp 10) rfl g5 0 16 16 16 28 (List.replicate 16 0) rfl G5.out (by simp) (by decide) rfl hS.out ?_
  intro w6 Hh6 hg6
  refine hK _ _ ⟨fun _ hk => absurd hk List.not_mem_nil, ?_⟩
  clear hK
  refine os_done ⟨rfl, ?_⟩
  have G6 : Hid (w6.heap[g5]? = some (.cells (bs D).toArray 28 (0, 0))) := by
    have h := Hh6.out
    have e : (List.replicate 16 (0 : UInt8)).take 0 ++ (D.take 16 ++ (List.replicate 16 (0 : UInt8)).drop (0 + min (q - p) 16)) = D := by
      rw [List.take_of_length_le (l := D) (by rw [HDl.out]; exact Nat.le_refl _), Nat.zero_add, show min (q - p) 16 = 16 by have := hqp.out; omega]
      simp
    rw [e] at h; exact h
  have G46 : Hid (w6.heap[g4]? = some (.cells (bs (List.replicate 16 0)).toArray 28 (0, 0))) := (hg6.block g4 (Array.getElem?_eq_some_iff.1 G43.out).1 (by have := E5.out; simp; omega)).trans G43.out
  have B6 : Hid (Below w.heap.size w w6) := ((below_drewN B3.out 1).grown hg6 B3.out.size (fun j hj => by injection hj with hj; have := E5.out; have := E4.out; omega))
  clear Hh6 hg6 hS0 hS G23 G43 G5 B3
  have hr6 : Hid (w6.rangeAt g5 0 (bs D)) := range_block G6.out
  go_wp2_with (first
    | ((with_reducible refine lst_load_mid 28 (.tmp 5) rfl g5 0 rfl (bs D) _ hr6.out uT.out rfl iT2.out ?_ ?_)
       (focus rfl))
    | ((with_reducible refine lst_store_abs 28 (.tmp 4) (.tmp 12) rfl g4 28 (bs (List.replicate 16 0)).toArray (bs D).toArray rfl rfl G46.out (by simpa using iT2.out) (by simp [bs_length, HDl.out]) (by simp; exact bs_oneCell _) ?_ ?_)
       (focus rfl)
       intro w20 Hh20 hg20))
  refine bodyPost_ret (v := .agg (bs D).toArray) ?_ rfl ⟨rfl, ?_⟩
  · exact results_cell Try.results13 rfl (run_loadVar_mid w20 g4 0 28 (bs D) _ (range_block Hh20.out) uT.out rfl iT2.out)
  · exact B6.out.grown hg20 B6.out.size (fun j hj => by injection hj with hj; have := E4.out; omega)
end Go.Proofs.Ytkikdhjckjmolaa
