/- Aead: works. -/
import Derived.Test.YtklclbppdoahjaaAe8
namespace Go.Proofs.Ytklclbppdoahjaa
set_option maxRecDepth 100000
open Go.RowKit
attribute [local go_sem] yld yldUpon_value

theorem Sl.blk {w : World} {F : Nat → Prop} {ad : Addr} {n c : Nat} {l : List UInt8} (h : Sl w F (some ad) n c l) (hl : 0 < l.length) : ad.block < w.heap.size := by
  obtain ⟨ad', ha, hc⟩ := h.rd.at_ hl
  injection ha with ha; subst ha
  exact block_lt_of hc
def pubS : List UInt8 := pubC ++ pubG
theorem pubS_len : pubS.length = 130 := by kernel_rfl
theorem pubS_end : pubS.drop 114 = pubG := by kernel_rfl
theorem pub_open : openL pubK pubN pubH pubS = some pubT := by
  have h := open_seal pubK pubN pubH pubT
  rw [pub_seal] at h; exact h
theorem infoN_ : (Try.prog.info? 25).map (fun i => (i.zero, i.size, i.bytes)) = some (some (.agg (bs (List.replicate 12 0)).toArray), 12, 12) := by kernel_rfl
set_option maxHeartbeats 8000000 in
theorem works_any (w : World) : Calls Try.prog 9 #[] w fun e w' => e = .returned (.bool true) ∧ Below w.heap.size w w' := by
  obtain ⟨iK, hiK, zK, _, _⟩ := info_parts Try.infoK
  have HiK := Lib.hid hiK; have HzK := Lib.hid zK
  obtain ⟨iN, hiN, zN, _, _⟩ := info_parts infoN_
  have HiN := Lib.hid hiN; have HzN := Lib.hid zN
  obtain ⟨iB, hiB, zB, sB, _⟩ := info_parts Try.infoB
  have HiB := Lib.hid hiB; have HzB := Lib.hid zB; have HsB := Lib.hid sB
  clear hiK zK hiN zN hiB zB sB
  have uK := Lib.hid Try.underlying23
  have uN := Lib.hid Try.underlying25
  have uS := Lib.hid Try.underlying26
  have i1 : Hid ((Try.prog.info? 23).map (·.size) = some (bs pubK).length) := by rw [bs_length, pubK_len]; exact Try.sizeKey
  have i2 : Hid ((Try.prog.info? 25).map (·.size) = some (bs pubN).length) := by rw [bs_length]; exact Try.sizeN
  go_enter Try.func9, Try.ntmps9
  go_wp2_with fail
  refine (published_any w).mono ?_
  rintro e w1 ⟨gh, gt, rfl, sh, st, bh, bt, hb1⟩
  have H1 := Lib.hid sh; have T1 := Lib.hid st; have B1 := Lib.hid hb1
  have zh : Hid (∀ k, k = gh → k < w1.heap.size) := fun k e => by rw [e]; exact sh.blk (by decide)
  have zt : Hid (∀ k, k = gt → k < w1.heap.size) := fun k e => by rw [e]; exact st.blk (by rw [pubT_len]; decide)
  clear sh st bh bt hb1
  go_wp2_with (first
    | ((with_reducible refine lst_alloc_d 1 rfl 23 rfl iK _ HiK.out HzK.out ?_ ?_)
       (focus rfl)
       intro g1 w2 Hg Hh hb
       have X2 : Hid (Has w1 w2 [(g1, .cells (bs (List.replicate 32 0)).toArray 23 (0, 0))]) := (Has.start (Below.refl _ w1)).new hb (Nat.le_of_eq Hg.out.1.symm) Hh.out
       clear Hg Hh hb)
    | ((with_reducible refine lst_alloc_d 2 rfl 25 rfl iN _ HiN.out HzN.out ?_ ?_)
       (focus rfl)
       intro g2 w3 Hg Hh hb
       have X3 : Hid (Has w1 w3 [(g2, .cells (bs (List.replicate 12 0)).toArray 25 (0, 0)), (g1, .cells (bs (List.replicate 32 0)).toArray 23 (0, 0))]) := X2.out.new hb (Nat.le_of_eq Hg.out.1.symm) Hh.out
       have h31 : Hid (w3.heap[g1]? = some (.cells (bs (List.replicate 32 0)).toArray 23 (0, 0))) := X3.out.get (by simp)
       clear Hg Hh hb X2)
    | ((with_reducible refine lst_store_abs 23 (.tmp 1) (.tmp 10) rfl g1 23 (bs (List.replicate 32 0)).toArray (bs pubK).toArray rfl rfl h31.out (by simpa using i1.out) (by simp [bs_length, pubK_len]) (by simp; exact bs_oneCell _) ?_ ?_)
       (focus rfl)
       intro w4 Hh4 hg4
       have X4 : Hid (Has w1 w4 [(g2, .cells (bs (List.replicate 12 0)).toArray 25 (0, 0)), (g1, .cells (bs pubK).toArray 23 (0, 0))]) := Has.wr (L := [_]) X3.out hg4 Hh4.out
       have h42 : Hid (w4.heap[g2]? = some (.cells (bs (List.replicate 12 0)).toArray 25 (0, 0))) := X4.out.get (by simp)
       clear Hh4 hg4 X3 h31)
    | ((with_reducible refine lst_store_abs 25 (.tmp 2) (.tmp 11) rfl g2 25 (bs (List.replicate 12 0)).toArray (bs pubN).toArray rfl rfl h42.out (by simpa using i2.out) (by simp [bs_length, pubN]) (by simp; exact bs_oneCell _) ?_ ?_)
       (focus rfl)
       intro w5 Hh5 hg5
       have X5 : Hid (Has w1 w5 [(g2, .cells (bs pubN).toArray 25 (0, 0)), (g1, .cells (bs pubK).toArray 23 (0, 0))]) := Has.wr (L := []) X4.out hg5 Hh5.out
       clear Hh5 hg5 X4 h42))
  have r1 : Hid (w5.rangeAt g1 0 (bs pubK)) := range_block (X5.out.get (by simp) : w5.heap[g1]? = some (.cells (bs pubK).toArray 23 (0, 0)))
  have r2 : Hid (w5.rangeAt g2 0 (bs pubN)) := range_block (X5.out.get (by simp) : w5.heap[g2]? = some (.cells (bs pubN).toArray 25 (0, 0)))
  have l1 := X5.out.lt (g := g1) (o := .cells (bs pubK).toArray 23 (0, 0)) (by simp)
  have l2 := X5.out.lt (g := g2) (o := .cells (bs pubN).toArray 25 (0, 0)) (by simp)
  have H5 := Lib.hid (H1.out.belF X5.out.bel zh.out)
  have T5 := Lib.hid (T1.out.belF X5.out.bel zt.out)
  have zh5 : Hid (∀ k, k = gh → k < w5.heap.size) := fun k hk => Nat.lt_of_lt_of_le (zh.out k hk) X5.out.bel.size
  have zt5 : Hid (∀ k, k = gt → k < w5.heap.size) := fun k hk => Nat.lt_of_lt_of_le (zt.out k hk) X5.out.bel.size
  have B5 := Lib.hid (Below.tr B1.out X5.out.bel)
  clear H1 T1 zh zt B1
  refine wp_calm ?_
  refine wp_region_os (fun _ w' => Below (w5).drew.heap.size (w5).drew w') [1, 2] (.take 1 (.take 2 (.move 3 (.move 4 (.run 0 [1, 2] (.run 5 [] (.move 6 .done))))))) (by kernel_rfl) (by kernel_rfl) (fun _ _ _ _ _ h => nomatch h.1) ?_
  have hS0 : Below (w5).drew.heap.size (w5).drew (w5).drew := Below.refl _ _
  refine os_load_mid 23 (.tmp 1) (g1) (0) (bs pubK) _ hS0 rfl rfl rfl rfl rfl (uK.out) rfl (i1.out) (fun w' h => rangeAt_bel (range_dr (r1.out)) h l1) ⟨_, rfl, ?_⟩
  refine os_load_mid 25 (.tmp 2) (g2) (0) (bs pubN) _ hS0 rfl rfl rfl rfl rfl (uN.out) rfl (i2.out) (fun w' h => rangeAt_bel (range_dr (r2.out)) h l2) ⟨_, rfl, ?_⟩
  refine os_move rfl rfl rfl (Nat.le_of_ble_eq_true rfl) ?_
  apply Exists.intro
  refine ⟨fun w' K hK => ?_, ?_⟩
  (focus
    go_simp
    exact hK)
  refine os_move rfl rfl rfl (Nat.le_of_ble_eq_true rfl) ?_
  apply Exists.intro
  refine ⟨fun w' K hK => ?_, ?_⟩
  (focus
    go_simp
    exact hK)
  refine os_run rfl rfl (fun K hK => ?_)
  go_wp2_with fail
  refine (ANew_any _).mono ?_
  rintro e wq ⟨gq, rfl, hbq⟩
  go_wp2_with fail
  refine ⟨fun _ _ h => Below.tr h (hbq), ?_⟩
  replace hS0 := Below.tr hS0 (hbq)
  refine os_run rfl rfl (fun K hK => ?_)
  go_wp2_with fail
  refine (Seal_any _ pubK_len (by rfl) (H5.out.belF (Below.undr hS0) zh5.out) (fun k hk => Nat.lt_of_lt_of_le (zh5.out k hk) (Below.undr hS0).size) (T5.out.belF (Below.undr hS0) zt5.out) (fun k hk => Nat.lt_of_lt_of_le (zt5.out k hk) (Below.undr hS0).size) (by decide) (by decide)).mono ?_
  rintro e w6 ⟨Ax, nx, cx, rfl, hox, hbx⟩
  go_wp2_with fail
  refine ⟨fun _ hk => absurd hk List.not_mem_nil, ?_⟩
  replace hS0 := Below.tr hS0 (hbx)
  refine os_move rfl rfl rfl (Nat.le_of_ble_eq_true rfl) ?_
  apply Exists.intro
  refine ⟨fun w' K hK => ?_, ?_⟩
  (focus
    go_simp
    exact hK)
  refine os_done ⟨rfl, ?_⟩
  rw [pub_seal] at hox
  obtain rfl : nx = 130 := by have h := hox.1; rw [bs_length] at h; have h2 := pubS_len; unfold pubS at h2; omega
  obtain ⟨ad, rfl⟩ : ∃ ad, Ax = some ad := by
    cases Ax with
    | some ad => exact ⟨ad, rfl⟩
    | none => have := (Sl.of_own hox).zero rfl; omega
  have B6 : Hid (Below w5.heap.size w5 w6) := Below.undr hS0
  have S6 : Hid (Sl w6 (fun k => k < w6.heap.size) (some ad) 130 cx pubS) := (Sl.of_own hox).mono (fun k h => h.2.1)
  have hcx := S6.out.cap
  have H6 := Lib.hid (H5.out.belF B6.out zh5.out)
  have T6 := Lib.hid (T5.out.belF B6.out zt5.out)
  have X6 := Lib.hid (X5.out.bl B6.out)
  have zh6 : Hid (∀ k, k = gh → k < w6.heap.size) := fun k hk => Nat.lt_of_lt_of_le (zh5.out k hk) B6.out.size
  have zt6 : Hid (∀ k, k = gt → k < w6.heap.size) := fun k hk => Nat.lt_of_lt_of_le (zt5.out k hk) B6.out.size
  have BB6 := Lib.hid (Below.tr B5.out B6.out)
  clear hS0 hox B6 H5 T5 X5 zh5 zt5 B5 r1 r2 l1 l2
  go_wp2_with (first
    | ((refine lst_buildSlice_bytes 26 5 16 [(0, .const (.int .u8 211)), (1, .const (.int .u8 26)), (2, .const (.int .u8 141)), (3, .const (.int .u8 52)), (4, .const (.int .u8 100)), (5, .const (.int .u8 142)), (6, .const (.int .u8 96)), (7, .const (.int .u8 219)), (8, .const (.int .u8 123)), (9, .const (.int .u8 134)), (10, .const (.int .u8 175)), (11, .const (.int .u8 188)), (12, .const (.int .u8 83)), (13, .const (.int .u8 239)), (14, .const (.int .u8 126)), (15, .const (.int .u8 194))] iB (pubS.take 16) rfl rfl rfl (by decide) uS.out HiB.out HzB.out HsB.out rfl ?_)
       intro gb w7 Eb Hb7 hb7
       have X7 := Lib.hid (X6.out.bl hb7)
       have S7 := Lib.hid (S6.out.belF hb7 (fun _ h => h))
       have D7 : Hid (Sl w7 (fun k => k = gb) (some ⟨gb, 0, none⟩) 16 16 (pubS.take 16)) := Sl.of_block Hb7.out rfl 16 rfl
       have H7 := Lib.hid (H6.out.belF hb7 zh6.out)
       have T7 := Lib.hid (T6.out.belF hb7 zt6.out)
       have zh7 : Hid (∀ k, k = gh → k < w7.heap.size) := fun k hk => Nat.lt_of_lt_of_le (zh6.out k hk) hb7.size
       have zt7 : Hid (∀ k, k = gt → k < w7.heap.size) := fun k hk => Nat.lt_of_lt_of_le (zt6.out k hk) hb7.size
       have BB7 := Lib.hid (Below.tr BB6.out hb7)
       have zz7 := Lib.hid hb7.size
       clear Eb Hb7 hb7 X6 S6 H6 T6 zh6 zt6 BB6))
  refine (Same_at (Sl.take_ (l := pubS.take 16) (l' := pubS.drop 16) (by rw [List.take_append_drop]; exact S7.out) rfl) D7.out (by decide) (by decide) true (by simp)).mono ?_
  rintro e w8 ⟨rfl, x8, rfl⟩
  have X8 := Lib.hid (X7.out.bl (Below.drN _ x8))
  have S8 : Hid (Sl (w7.drewN x8) (fun k => k < (w7.drewN x8).heap.size) (some ad) 130 cx pubS) := (S7.out.dr x8).mono (fun k h => Nat.lt_of_lt_of_le h zz7.out)
  have H8 := Lib.hid (H7.out.dr x8)
  have T8 := Lib.hid (T7.out.dr x8)
  have BB8 := Lib.hid (Below.tr BB7.out (Below.drN w7 x8))
  have zh8 : Hid (∀ k, k = gh → k < (w7.drewN x8).heap.size) := zh7.out
  have zt8 : Hid (∀ k, k = gt → k < (w7.drewN x8).heap.size) := zt7.out
  generalize w7.drewN x8 = w8 at X8 S8 H8 T8 BB8 zh8 zt8 ⊢
  clear X7 S7 D7 H7 T7 zh7 zt7 BB7 zz7
  go_wp2_with fail
  have r1 : Hid (w8.rangeAt g1 0 (bs pubK)) := range_block (X8.out.get (by simp) : w8.heap[g1]? = some (.cells (bs pubK).toArray 23 (0, 0)))
  have r2 : Hid (w8.rangeAt g2 0 (bs pubN)) := range_block (X8.out.get (by simp) : w8.heap[g2]? = some (.cells (bs pubN).toArray 25 (0, 0)))
  have l1 := X8.out.lt (g := g1) (o := .cells (bs pubK).toArray 23 (0, 0)) (by simp)
  have l2 := X8.out.lt (g := g2) (o := .cells (bs pubN).toArray 25 (0, 0)) (by simp)
  refine wp_calm ?_
  refine wp_region_os (fun _ w' => Below (w8).drew.heap.size (w8).drew w') [1, 2] (.take 1 (.take 2 (.move 3 (.move 4 (.run 0 [1, 2] (.run 5 [] (.move 6 (.move 7 (.move 8 (.move 9 (.move 10 .done))))))))))) (by kernel_rfl) (by kernel_rfl) (fun _ _ _ _ _ h => nomatch h.1) ?_
  have hS0 : Below (w8).drew.heap.size (w8).drew (w8).drew := Below.refl _ _
  refine os_load_mid 23 (.tmp 1) (g1) (0) (bs pubK) _ hS0 rfl rfl rfl rfl rfl (uK.out) rfl (i1.out) (fun w' h => rangeAt_bel (range_dr (r1.out)) h l1) ⟨_, rfl, ?_⟩
  refine os_load_mid 25 (.tmp 2) (g2) (0) (bs pubN) _ hS0 rfl rfl rfl rfl rfl (uN.out) rfl (i2.out) (fun w' h => rangeAt_bel (range_dr (r2.out)) h l2) ⟨_, rfl, ?_⟩
  refine os_move rfl rfl rfl (Nat.le_of_ble_eq_true rfl) ?_
  apply Exists.intro
  refine ⟨fun w' K hK => ?_, ?_⟩
  (focus
    go_simp
    exact hK)
  refine os_move rfl rfl rfl (Nat.le_of_ble_eq_true rfl) ?_
  apply Exists.intro
  refine ⟨fun w' K hK => ?_, ?_⟩
  (focus
    go_simp
    exact hK)
  refine os_run rfl rfl (fun K hK => ?_)
  go_wp2_with fail
  refine (ANew_any _).mono ?_
  rintro e wq ⟨gq, rfl, hbq⟩
  go_wp2_with fail
  refine ⟨fun _ _ h => Below.tr h (hbq), ?_⟩
  replace hS0 := Below.tr hS0 (hbq)
  refine os_run rfl rfl (fun K hK => ?_)
  go_wp2_with fail
  refine (Open_any _ pubK_len (by rfl) (H8.out.belF (Below.undr hS0) zh8.out) (fun k hk => Nat.lt_of_lt_of_le (zh8.out k hk) (Below.undr hS0).size) (S8.out.belF (Below.undr hS0) (fun _ h => h)) (fun k hk => Nat.lt_of_lt_of_le hk (Below.undr hS0).size) (by decide) (by decide)).mono ?_
  rw [pub_open]
  rintro e w9 ⟨⟨A9, n9, c9, rfl, ho9⟩, hb9⟩
  go_wp2_with fail
  refine ⟨fun _ hk => absurd hk List.not_mem_nil, ?_⟩
  replace hS0 := Below.tr hS0 (hb9)
  refine os_move rfl rfl rfl (Nat.le_of_ble_eq_true rfl) ?_
  apply Exists.intro
  refine ⟨fun w' K hK => ?_, ?_⟩
  (focus
    go_simp
    exact hK)
  refine os_move rfl rfl rfl (Nat.le_of_ble_eq_true rfl) ?_
  apply Exists.intro
  refine ⟨fun w' K hK => ?_, ?_⟩
  (focus
    go_simp
    exact hK)
  refine os_move rfl rfl rfl (Nat.le_of_ble_eq_true rfl) ?_
  apply Exists.intro
  refine ⟨fun w' K hK => ?_, ?_⟩
  (focus
    go_simp
    exact hK)
  refine os_move rfl rfl rfl (Nat.le_of_ble_eq_true rfl) ?_
  apply Exists.intro
  refine ⟨fun w' K hK => ?_, ?_⟩
  (focus
    go_simp
    exact hK)
  refine os_move rfl rfl rfl (Nat.le_of_ble_eq_true rfl) ?_
  apply Exists.intro
  refine ⟨fun w' K hK => ?_, ?_⟩
  (focus
    go_simp
    exact hK)
  refine os_done ⟨rfl, ?_⟩
  obtain rfl : n9 = 114 := by have h := ho9.1; simp only [Option.getD_some] at h; rw [bs_length, pubT_len] at h; omega
  have X9 := Lib.hid (X8.out.bl (Below.undr hS0))
  have S9 := Lib.hid (S8.out.belF (Below.undr hS0) (fun _ h => h))
  have T9 := Lib.hid (T8.out.belF (Below.undr hS0) zt8.out)
  have R9 := Lib.hid (Sl.of_own ho9)
  have BB9 := Lib.hid (Below.tr BB8.out (Below.undr hS0))
  have zz9 : Hid (w8.heap.size ≤ w9.heap.size) := (Below.undr hS0).size
  clear hS0 ho9 X8 S8 H8 T8 BB8 zh8 zt8 r1 r2 l1 l2
  go_wp2_with fail
  refine (Same_at R9.out T9.out (by decide) (by decide) true (by simp)).mono ?_
  rintro e w10 ⟨rfl, x10, rfl⟩
  have S10 := Lib.hid (S9.out.dr x10)
  have BB10 := Lib.hid (Below.tr BB9.out (Below.drN w9 x10))
  have zz10 : Hid (w8.heap.size ≤ (w9.drewN x10).heap.size) := zz9.out
  clear X9 S9 T9 R9 BB9 zz9
  generalize w9.drewN x10 = w10 at S10 BB10 zz10 ⊢
  go_wp2_with (first
    | ((refine lst_buildSlice_bytes 26 5 16 [(0, .const (.int .u8 26)), (1, .const (.int .u8 225)), (2, .const (.int .u8 11)), (3, .const (.int .u8 89)), (4, .const (.int .u8 79)), (5, .const (.int .u8 9)), (6, .const (.int .u8 226)), (7, .const (.int .u8 106)), (8, .const (.int .u8 126)), (9, .const (.int .u8 144)), (10, .const (.int .u8 46)), (11, .const (.int .u8 203)), (12, .const (.int .u8 208)), (13, .const (.int .u8 96)), (14, .const (.int .u8 6)), (15, .const (.int .u8 145))] iB pubG rfl rfl rfl (by decide) uS.out HiB.out HzB.out HsB.out rfl ?_)
       intro gb w11 Eb Hb hb
       have S11 := Lib.hid (S10.out.belF hb (fun k h => Nat.lt_of_lt_of_le h zz10.out))
       have D11 : Hid (Sl w11 (fun k => k = gb) (some ⟨gb, 0, none⟩) 16 16 pubG) := Sl.of_block Hb.out rfl 16 rfl
       have BB11 := Lib.hid (Below.tr BB10.out hb)
       clear Eb Hb hb S10 BB10))
  have E11 : Hid (Sl w11 (fun k => k < w8.heap.size) (some (ad.add 114)) 16 (cx - 114) pubG) := by
    have h := S11.out.drop_ (m := 114) (A' := some (ad.add 114)) (by decide) (.inr rfl)
    rw [pubS_end] at h; exact h
  refine (Same_at E11.out D11.out (by decide) (by decide) true (by simp)).mono ?_
  rintro e w12 ⟨rfl, x12, rfl⟩
  go_wp2_with fail
  go_ret
  exact ⟨rfl, Below.tr BB11.out (Below.drN _ _)⟩
end Go.Proofs.Ytklclbppdoahjaa
