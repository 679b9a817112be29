/- Aead: once, tag. -/
import Derived.Test.YtklclbppdoahjaaAe2
import Derived.Test.YtklclbppdoahjaaHas
namespace Go.Proofs.Ytklclbppdoahjaa
set_option maxRecDepth 100000
open Go.RowKit
attribute [local go_sem] yld yldUpon_value

theorem wp_copy_b {w : World} {o : Oper} {a : Act} {K : Act → World → Prop} {Q : Exit → Act → World → Prop} (d s : Operand)
    (ho : o.op = .call { callee := .builtin .copy, args := #[d, s], argTypes := #[26, 26] })
    (g off dl dc N T : Nat) (L : List UInt8) (hd : a.eval d = .slice (some ⟨g, off, none⟩) dl dc) (hb : w.heap[g]? = some (.cells (bs L).toArray T (0, 0))) (hL : L.length = N)
    (hfit : off + dl ≤ N) {F : Nat → Prop} {A : Option Addr} {sn sc : Nat} {l : List UInt8} (hsv : a.eval s = .slice A sn sc) (hs : Sl w F A sn sc l)
    (h : ∀ w', Hid (w'.heap[g]? = some (.cells (bs (L.take off ++ (l.take dl ++ L.drop (off + min sn dl)))).toArray T (0, 0))) → w.grownBy w' (some g) →
      K (a.put o.dst (.int .i64 (min sn dl : Nat))) w') : o.wp Try.prog a w K Q := by
  obtain ⟨w', hrun, h2, h3⟩ := run_copy_blk o.type g off dl dc N T L hb hL hfit hs
  unfold Oper.wp
  simp [execOp, ho, resolve, invoke, builtin, hd, hsv, hrun, Result.andThen]
  exact h w' (Lib.hid h2) h3
/-- the key of a tag -/
def onceL (ky nc : List UInt8) : List UInt8 := (blockP ky 0 nc).take 32
theorem onceL_len (ky nc : List UInt8) : (onceL ky nc).length = 32 := by unfold onceL; rw [List.length_take, blockP_len]; rfl
set_option maxHeartbeats 8000000 in
theorem once_any (w : World) {ky nc : List UInt8} (hk : ky.length = 32) (hn : nc.length = 12) :
    Calls Try.prog 32 #[.agg (bs ky).toArray, .agg (bs nc).toArray] w fun e w' => e = .returned (.agg (bs (onceL ky nc)).toArray) ∧ Below w.heap.size w w' := by
  have HK := Lib.hid hk; have HN := Lib.hid hn
  clear hk hn
  obtain ⟨iK, hiK, zK, _, _⟩ := info_parts Try.infoK
  have HiK := Lib.hid hiK; have HzK := Lib.hid zK
  obtain ⟨iO, hiO, zO, _, _⟩ := info_parts Try.infoO
  have HiO := Lib.hid hiO; have HzO := Lib.hid zO
  clear hiK zK hiO zO
  have uK := Lib.hid Try.underlying23
  have uN := Lib.hid Try.underlying25
  have i1 : Hid ((Try.prog.info? 23).map (·.size) = some (bs ky).length) := by rw [bs_length, HK.out]; exact Try.sizeKey
  have i2 : Hid ((Try.prog.info? 25).map (·.size) = some (bs nc).length) := by rw [bs_length, HN.out]; exact Try.sizeN
  have i3 : Hid ((Try.prog.info? 23).map (·.size) = some (bs (onceL ky nc)).length) := by rw [bs_length, onceL_len]; exact Try.sizeKey
  obtain ⟨w0, hw0⟩ : ∃ w0, w0 = (w.alloc (.cells (bs ky).toArray 23)).alloc (.cells (bs nc).toArray 25) := ⟨_, rfl⟩
  have H0 : Hid (Has w w0 [(w.heap.size + 1, .cells (bs nc).toArray 25 (0, 0)), (w.heap.size, .cells (bs ky).toArray 23 (0, 0))]) := by
    have h1 : Has w (w.alloc (.cells (bs ky).toArray 23)) [(w.heap.size, .cells (bs ky).toArray 23 (0, 0))] := (Has.start (Below.refl _ w)).new (Below.al _ _) (Nat.le_refl _) (heap_alloc_new w _)
    rw [hw0]
    have h2 := heap_alloc_new (w.alloc (.cells (bs ky).toArray 23)) (.cells (bs nc).toArray 25)
    rw [World.size_alloc] at h2
    exact h1.new (Below.al _ _) (by rw [World.size_alloc]; exact Nat.le_refl _) h2
  subst hw0
  go_enter Try.func32, Try.ntmps32
  go_wp2_with (first
    | ((with_reducible refine lst_alloc_d 4 rfl 23 rfl iK _ HiK.out HzK.out ?_ ?_)
       (focus rfl)
       intro g4 w1 Hg4 Hh4 hb4
       have H1 : Hid (Has w w1 [(g4, .cells (bs (List.replicate 32 0)).toArray 23 (0, 0)), (w.heap.size + 1, .cells (bs nc).toArray 25 (0, 0)), (w.heap.size, .cells (bs ky).toArray 23 (0, 0))]) := H0.out.new hb4 (Nat.le_of_eq Hg4.out.1.symm) Hh4.out
       have r1 : Hid (w1.rangeAt w.heap.size 0 (bs ky)) := range_block (H1.out.get (by simp) : w1.heap[w.heap.size]? = some (.cells (bs ky).toArray 23 (0, 0)))
       have r2 : Hid (w1.rangeAt (w.heap.size + 1) 0 (bs nc)) := range_block (H1.out.get (by simp) : w1.heap[w.heap.size + 1]? = some (.cells (bs nc).toArray 25 (0, 0)))
       clear Hg4 Hh4 hb4 H0)
    | ((with_reducible refine lst_load_mid 23 (.tmp 2) rfl w.heap.size 0 rfl (bs ky) _ r1.out uK.out rfl i1.out ?_ ?_)
       (focus rfl))
    | ((with_reducible refine lst_load_mid 25 (.tmp 3) rfl (w.heap.size + 1) 0 rfl (bs nc) _ r2.out uN.out rfl i2.out ?_ ?_)
       (focus rfl)))
  clear r1 r2
  refine (Block_any w1 ky nc 0 HK.out HN.out).mono ?_
  rintro e w2 ⟨rfl, hb2⟩
  have H2 := Lib.hid (H1.out.bl hb2)
  obtain ⟨Z, hZ⟩ : ∃ Z, Z = blockP ky 0 nc := ⟨_, rfl⟩
  have HZl : Hid (Z.length = 64) := by rw [hZ]; exact blockP_len _ _ _
  have HZo : Hid (onceL ky nc = Z.take 32) := by rw [hZ]; rfl
  have i4 : Hid ((Try.prog.info? 61).map (·.size) = some (bs Z).length) := by rw [bs_length, HZl.out]; exact Try.sizeO
  rw [← hZ]
  clear hb2 H1 hZ
  go_wp2_with (first
    | ((with_reducible refine lst_alloc_d 5 rfl 61 rfl iO _ HiO.out HzO.out ?_ ?_)
       (focus rfl)
       intro g5 w3 Hg5 Hh5 hb5
       have H3 := Lib.hid (H2.out.new hb5 (Nat.le_of_eq Hg5.out.1.symm) Hh5.out)
       have h5 : Hid (w3.heap[g5]? = some (.cells (bs (List.replicate 64 0)).toArray 61 (0, 0))) := Hh5
       clear Hg5 Hh5 hb5 H2)
    | ((with_reducible refine lst_store_abs 61 (.tmp 5) (.tmp 8) rfl g5 61 (bs (List.replicate 64 0)).toArray (bs Z).toArray rfl rfl h5.out (by simpa using i4.out) (by simp [bs_length, HZl.out]) (by simp; exact bs_oneCell _) ?_ ?_)
       (focus rfl)
       intro w4 Hh4 hg4
       have H4 : Hid (Has w w4 [(g5, .cells (bs Z).toArray 61 (0, 0)), (g4, .cells (bs (List.replicate 32 0)).toArray 23 (0, 0)), (w.heap.size + 1, .cells (bs nc).toArray 25 (0, 0)), (w.heap.size, .cells (bs ky).toArray 23 (0, 0))]) := Has.wr (L := []) H3.out hg4 Hh4.out
       clear Hh4 hg4 H3 h5))
  have h44 : Hid (w4.heap[g4]? = some (.cells (bs (List.replicate 32 0)).toArray 23 (0, 0))) := H4.out.get (by simp)
  have h45 : w4.heap[g5]? = some (.cells (bs Z).toArray 61 (0, 0)) := H4.out.get (by simp)
  have S4 : Hid (Sl w4.drew (fun k => k = g5) (some ⟨g5, 0, none⟩) 64 64 Z) := Sl.of_block (w := w4.drew) h45 rfl 64 HZl.out
  clear h45
  refine wp_calm ?_
  refine wp_region_os (fun _ w' => Below (w4).drew.heap.size (w4).drew w') [] (.move 0 (.move 1 (.run 2 [] .done))) (by kernel_rfl) (by kernel_rfl) (fun _ _ _ _ _ h => nomatch h.1) ?_
  have hS0 : Below (w4).drew.heap.size (w4).drew (w4).drew := Below.refl _ _
  refine os_move rfl rfl rfl (Nat.le_of_ble_eq_true rfl) ?_
  apply Exists.intro
  refine ⟨fun w' K hK => ?_, ?_⟩
  (focus
    go_simp
    exact hK)
  refine os_move rfl rfl rfl (Nat.le_of_ble_eq_true rfl) ?_
  apply Exists.intro
  refine ⟨fun w' K hK => ?_, ?_⟩
  (focus
    go_simp
    exact hK)
  refine os_run rfl rfl (fun K hK => ?_)
  refine wp_copy_b (.tmp 9) (.tmp 10) rfl g4 0 32 32 32 23 (List.replicate 32 0) rfl h44.out (by simp) (by decide) rfl S4.out ?_
  intro w5 Hh5 hg5
  refine hK _ _ ⟨fun _ hk => absurd hk List.not_mem_nil, ?_⟩
  clear hK
  refine os_done ⟨rfl, ?_⟩
  have G5 : Hid (w5.heap[g4]? = some (.cells (bs (onceL ky nc)).toArray 23 (0, 0))) := by
    have h := Hh5.out
    have e : (List.replicate 32 (0 : UInt8)).take 0 ++ (Z.take 32 ++ (List.replicate 32 (0 : UInt8)).drop (0 + min 64 32)) = onceL ky nc := by
      rw [HZo.out]; simp
    rw [e] at h; exact h
  have L4 : Hid (w.heap.size ≤ g4) := H4.out.ge (g := g4) (o := .cells (bs (List.replicate 32 0)).toArray 23 (0, 0)) (by simp)
  have B5 : Hid (Below w.heap.size w w5) := ((below_drewN H4.out.bel 1).grown hg5 H4.out.bel.size (fun j hj => by injection hj with hj; have := L4.out; omega))
  have r5 : Hid (w5.rangeAt g4 0 (bs (onceL ky nc))) := range_block G5.out
  clear Hh5 hg5 hS0 S4 h44 H4
  go_wp2_with (first
    | ((with_reducible refine lst_load_mid 23 (.tmp 4) rfl g4 0 rfl (bs (onceL ky nc)) _ r5.out uK.out rfl i3.out ?_ ?_)
       (focus rfl))
    | ((with_reducible refine lst_store_abs 23 (.tmp 4) (.tmp 12) rfl g4 23 (bs (onceL ky nc)).toArray (bs (onceL ky nc)).toArray rfl rfl G5.out (by simpa using i3.out) rfl (by simp; exact bs_oneCell _) ?_ ?_)
       (focus rfl)
       intro w6 Hh6 hg6))
  refine bodyPost_ret (v := .agg (bs (onceL ky nc)).toArray) ?_ rfl ⟨rfl, ?_⟩
  · exact results_cell Try.results32 rfl (run_loadVar_mid w6 g4 0 23 (bs (onceL ky nc)) _ (range_block Hh6.out) uK.out rfl i3.out)
  · exact B5.out.grown hg6 B5.out.size (fun j hj => by injection hj with hj; have := L4.out; omega)
end Go.Proofs.Ytklclbppdoahjaa
