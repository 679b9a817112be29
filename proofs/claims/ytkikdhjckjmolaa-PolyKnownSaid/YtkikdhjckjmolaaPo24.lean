/- PolyKnown's walk. -/
import Derived.Test.YtkikdhjckjmolaaPo22
import Derived.Test.YtkikdhjckjmolaaPo23
namespace Go.Proofs.Ytkikdhjckjmolaa
open Go.RowKit
attribute [local go_sem] yld yldUpon_value

set_option maxRecDepth 100000 in
set_option maxHeartbeats 8000000 in
theorem PolyKnown_any (w : World) :
    Calls Try.prog 7 #[] w fun e w' => e = .returned (.bool true) ∧ Below w.heap.size w w' := by
  obtain ⟨iT, hiT, zT, _, _⟩ := info_parts Try.infoTag
  have HiT := Lib.hid hiT; have HzT := Lib.hid zT
  clear hiT zT
  have uT := Lib.hid Try.underlying28
  go_enter Try.func7, Try.ntmps7
  go_wp2_with (
    (with_reducible refine make_bytes rfl (.const (.int .i64 16)) (.const (.int .i64 16)) rfl w.heap.size 16 16 16 rfl rfl rfl rfl (by decide) (Nat.le_refl _) ?_)
    intro g1 w1 hg1 hb1 hown1 hgr1)
  have hB1 : Hid (ByB w1 5 g1 16 (partT 16 onesL 0)) := by rw [hg1.out]; rw [hg1.out] at hown1; exact hown1
  have hbel1 : Hid (Below w.heap.size w w1) := (Below.refl _ w).grown hgr1 (Nat.le_refl _) (fun j hj => by cases hj)
  have Hg1 : Hid (w.heap.size ≤ g1) := hb1
  clear hg1 hb1 hown1 hgr1
  go_loopw [2] (fun i wr => ∃ k : Nat, k ≤ 16 ∧ i = .int .i64 (k : Nat) ∧ Hid (ByB wr 5 g1 16 (partT 16 onesL k) ∧ Below w.heap.size w wr)) (fun i _ => 16 - (intOf i).toNat)
  case atStart => exact ⟨0, Nat.zero_le _, rfl, hB1.out, hbel1.out⟩
  case round =>
    clear hB1 hbel1
    obtain ⟨k, hk, rfl, HI⟩ := hrel
    by_cases hlt : k < 16
    · have hkI : (k : Int) < 16 := by omega
      have hk0 : (0 : Int) ≤ (k : Int) := by omega
      have hc := HI.out.1.cell (i := k) (by rw [partT_len 16 onesL rfl k (by omega)]; exact hlt)
      have hz := World.ownsRow.frozenAt HI.out.1 k
      have G1 : Hid (ByB (wr.setCell ⟨g1, k, none⟩ (.int .u8 255)) 5 g1 16 (partT 16 onesL (k + 1)) ∧ Below w.heap.size w (wr.setCell ⟨g1, k, none⟩ (.int .u8 255))) := by
        have h := HI.out.1.set k 255
        have e := partT_set 16 onesL rfl k hlt
        have e2 : onesL[k]'(by show k < 16; exact hlt) = 255 := by simp only [onesL, List.getElem_replicate]
        rw [e2] at e
        rw [e] at h
        refine ⟨h, ((Fr.of_below HI.out.2).trans ((Fr.refl (fun j => j = g1) wr).setCell (p := ⟨g1, k, none⟩) (.inl rfl) _) (fun i _ h => h)).to_below (fun i hi => by have := Hg1.out; omega)⟩
      clear HI
      go_wp2_with fail
      go_roundw
      case rel => exact ⟨k + 1, by omega, by go_num, G1.out⟩
      case measure => simp [intOf]; omega
    · have hkI : decide ((k : Int) < 16) = false := decide_eq_false (by omega)
      have hk16 : k = 16 := by omega
      subst hk16
      have H0 : Hid (Has w wr [(g1, .cells (bs onesL).toArray 5 (0, 0))]) := by
        have h := HI.out.1
        rw [partT_end 16 onesL rfl] at h
        exact ⟨fun p hp => by simp at hp; subst hp; exact ⟨h.heap, Hg1.out⟩, by simp, HI.out.2⟩
      clear HI
      go_wp2_with (first
        | ((with_reducible refine lst_alloc_d 3 rfl 28 rfl iT _ HiT.out HzT.out ?_ ?_)
           (focus rfl)
           intro g3 w3 Hg3 Hh3 hb3
           have H1 : Hid (Has w w3 [(g3, .cells (bs (List.replicate 16 0)).toArray 28 (0, 0)), (g1, .cells (bs onesL).toArray 5 (0, 0))]) := H0.out.new hb3 (Nat.le_of_eq Hg3.out.1.symm) Hh3.out
           have h31 : w3.heap[g1]? = some (.cells (bs onesL).toArray 5 (0, 0)) := H1.out.get (by simp)
           have h33 : Hid (w3.heap[g3]? = some (.cells (bs (List.replicate 16 0)).toArray 28 (0, 0))) := H1.out.get (by simp)
           have S3 : Hid (Sl w3 (fun k => k = g1) (some ⟨g1, 0, none⟩) 16 16 onesL) := Sl.of_block h31 rfl 16 rfl
           clear h31
           clear Hg3 Hh3 hb3 H0)
        | ((with_reducible refine copy_blk (.tmp 18) (.tmp 19) rfl g3 0 16 16 16 28 (List.replicate 16 0) rfl h33.out (by simp) (by decide) rfl S3.out ?_ ?_)
           (focus rfl)
           intro w4 Hh4 hg4
           have H2 : Hid (Has w w4 [(g3, .cells (bs onesL).toArray 28 (0, 0)), (g1, .cells (bs onesL).toArray 5 (0, 0))]) := Has.wr (L := []) H1.out hg4 Hh4.out
           clear Hh4 hg4 H1 S3 h33)
        | ((with_reducible refine make_bytes rfl (.const (.int .i64 16)) (.const (.int .i64 16)) rfl w4.heap.size 16 16 16 rfl rfl rfl rfl (by decide) (Nat.le_refl _) ?_)
           intro g4 w5 hg4 hb4 hown4 hgr4
           have B4 : Hid (ByB w5 5 g4 16 z16) := by rw [hg4.out]; rw [hg4.out] at hown4; exact hown4
           have H3 : Hid (Has w w5 [(g4, .cells (bs z16).toArray 5 (0, 0)), (g3, .cells (bs onesL).toArray 28 (0, 0)), (g1, .cells (bs onesL).toArray 5 (0, 0))]) := H2.out.new ((Below.refl _ w4).grown hgr4 (Nat.le_refl _) (fun j hj => by cases hj)) hb4 B4.out.heap
           have hc4 := B4.out.cell (i := 0) (by decide)
           have hz4 := World.ownsRow.frozenAt B4.out 0
           clear hg4 hb4 hown4 hgr4 H2))
      have H4 : Hid (Has w (w5.setCell ⟨g4, 0, none⟩ (.int .u8 2)) [(g4, .cells (bs (2 :: z15)).toArray 5 (0, 0)), (g3, .cells (bs onesL).toArray 28 (0, 0)), (g1, .cells (bs onesL).toArray 5 (0, 0))]) :=
        Has.wr (L := []) H3.out (grown_set w5 g4 0 _) (B4.out.set 0 2).heap
      clear hc4 hz4 B4 H3
      generalize w5.setCell ⟨g4, 0, none⟩ (.int .u8 2) = w6 at H4 ⊢
      refine (with_any w6 (r := 2 :: z15) (s := z16) rfl rfl).mono ?_
      rintro e w7 ⟨rfl, hb7⟩
      have H5 := Lib.hid (H4.out.bl hb7)
      have h51 : w7.heap[g1]? = some (.cells (bs onesL).toArray 5 (0, 0)) := H5.out.get (by simp)
      have S5 : Hid (Sl w7 (fun k => k = g1) (some ⟨g1, 0, none⟩) 16 16 onesL) := Sl.of_block h51 rfl 16 rfl
      have L5 : Hid (g1 < w7.heap.size) := (Array.getElem?_eq_some_iff.1 h51).1
      clear hb7 H4 h51
      go_wp2_with fail
      refine (Sum_any S5.out (fun k e => by rw [e]; exact L5.out) (by decide) (show ((2 :: z15) ++ z16).length = 32 from rfl)).mono ?_
      rintro e w8 ⟨rfl, hb8⟩
      rw [pk_a]
      have H6 := Lib.hid (H5.out.bl hb8)
      clear hb8 H5 S5 L5
      have iA : Hid ((Try.prog.info? 28).map (·.size) = some (bs (3 :: z15)).length) := Try.sizeTag
      have iO : Hid ((Try.prog.info? 28).map (·.size) = some (bs onesL).length) := Try.sizeTag
      go_wp2_with (first
        | ((with_reducible refine lst_alloc_d 5 rfl 28 rfl iT _ HiT.out HzT.out ?_ ?_)
           (focus rfl)
           intro g5 w9 Hg9 Hh9 hb9
           have H7 : Hid (Has w w9 [(g5, .cells (bs (List.replicate 16 0)).toArray 28 (0, 0)), (g4, .cells (bs (2 :: z15)).toArray 5 (0, 0)), (g3, .cells (bs onesL).toArray 28 (0, 0)), (g1, .cells (bs onesL).toArray 5 (0, 0))]) := H6.out.new hb9 (Nat.le_of_eq Hg9.out.1.symm) Hh9.out
           have h75 : Hid (w9.heap[g5]? = some (.cells (bs (List.replicate 16 0)).toArray 28 (0, 0))) := H7.out.get (by simp)
           clear Hg9 Hh9 hb9 H6)
        | ((with_reducible refine lst_store_abs 28 (.tmp 5) (.tmp 28) rfl g5 28 (bs (List.replicate 16 0)).toArray (bs (3 :: z15)).toArray rfl rfl h75.out (by simpa using iA.out) (by simp [bs_length, z15]) (by simp; exact bs_oneCell _) ?_ ?_)
           (focus rfl)
           intro w10 Hh10 hg10
           have H8 : Hid (Has w w10 [(g5, .cells (bs (3 :: z15)).toArray 28 (0, 0)), (g4, .cells (bs (2 :: z15)).toArray 5 (0, 0)), (g3, .cells (bs onesL).toArray 28 (0, 0)), (g1, .cells (bs onesL).toArray 5 (0, 0))]) := Has.wr (L := []) H7.out hg10 Hh10.out
           have r8 : Hid (w10.rangeAt g3 0 (bs onesL)) := range_block (H8.out.get (by simp) : w10.heap[g3]? = some (.cells (bs onesL).toArray 28 (0, 0)))
           clear Hh10 hg10 H7 h75)
        | ((with_reducible refine lst_load_mid 28 (.tmp 3) rfl g3 0 rfl (bs onesL) _ r8.out uT.out rfl iO.out ?_ ?_)
           (focus rfl)))
      clear r8
      refine (with_any w10 (r := 2 :: z15) (s := onesL) rfl rfl).mono ?_
      rintro e w11 ⟨rfl, hb11⟩
      have H9 := Lib.hid (H8.out.bl hb11)
      have h94 : w11.heap[g4]? = some (.cells (bs (2 :: z15)).toArray 5 (0, 0)) := H9.out.get (by simp)
      have S9 : Hid (Sl w11 (fun k => k = g4) (some ⟨g4, 0, none⟩) 16 16 (2 :: z15)) := Sl.of_block h94 rfl 16 rfl
      have L9 : Hid (g4 < w11.heap.size) := (Array.getElem?_eq_some_iff.1 h94).1
      clear hb11 H8 h94
      go_wp2_with fail
      refine (Sum_any S9.out (fun k e => by rw [e]; exact L9.out) (by decide) (show ((2 :: z15) ++ onesL).length = 32 from rfl)).mono ?_
      rintro e w12 ⟨rfl, hb12⟩
      rw [pk_b]
      have H10 := Lib.hid (H9.out.bl hb12)
      clear hb12 H9 S9 L9
      go_wp2_with (first
        | ((with_reducible refine lst_alloc_d 6 rfl 28 rfl iT _ HiT.out HzT.out ?_ ?_)
           (focus rfl)
           intro g6 w13 Hg13 Hh13 hb13
           have H11 : Hid (Has w w13 [(g6, .cells (bs (List.replicate 16 0)).toArray 28 (0, 0)), (g5, .cells (bs (3 :: z15)).toArray 28 (0, 0)), (g4, .cells (bs (2 :: z15)).toArray 5 (0, 0)), (g3, .cells (bs onesL).toArray 28 (0, 0)), (g1, .cells (bs onesL).toArray 5 (0, 0))]) := H10.out.new hb13 (Nat.le_of_eq Hg13.out.1.symm) Hh13.out
           have h116 : Hid (w13.heap[g6]? = some (.cells (bs (List.replicate 16 0)).toArray 28 (0, 0))) := H11.out.get (by simp)
           clear Hg13 Hh13 hb13 H10)
        | ((with_reducible refine lst_store_abs 28 (.tmp 6) (.tmp 33) rfl g6 28 (bs (List.replicate 16 0)).toArray (bs (3 :: z15)).toArray rfl rfl h116.out (by simpa using iA.out) (by simp [bs_length, z15]) (by simp; exact bs_oneCell _) ?_ ?_)
           (focus rfl)
           intro w14 Hh14 hg14
           have H12 : Hid (Has w w14 [(g6, .cells (bs (3 :: z15)).toArray 28 (0, 0)), (g5, .cells (bs (3 :: z15)).toArray 28 (0, 0)), (g4, .cells (bs (2 :: z15)).toArray 5 (0, 0)), (g3, .cells (bs onesL).toArray 28 (0, 0)), (g1, .cells (bs onesL).toArray 5 (0, 0))]) := Has.wr (L := []) H11.out hg14 Hh14.out
           clear Hh14 hg14 H11 h116))
      have h121 : w14.heap[g1]? = some (.cells (bs onesL).toArray 5 (0, 0)) := H12.out.get (by simp)
      have L12 : Hid (g1 < w14.heap.size) := (Array.getElem?_eq_some_iff.1 h121).1
      refine (CopyBytes_any (some ⟨g1, 0, none⟩) 16 16 onesL w14 rfl (by have := Rd.of_block h121; simpa using this) (fun ad e _ => by injection e with e; subst e; exact L12.out) (by decide)).mono ?_
      rintro e w15 ⟨A7, c7, rfl, hown7, hb15⟩
      have H13 := Lib.hid (H12.out.bl hb15)
      have O7 := Lib.hid hown7
      have h131 : w15.heap[g1]? = some (.cells (bs onesL).toArray 5 (0, 0)) := H13.out.get (by simp)
      have R13 := Lib.hid (show Rd w15 (some ⟨g1, 0, none⟩) (bs onesL) by have := Rd.of_block h131; simpa using this)
      have Z14 : Hid (w14.heap.size ≤ w15.heap.size) := hb15.size
      clear hb15 hown7 h131 h121
      go_upto_region 13 with (
        at_builtin
        refine append_bytes rfl (.tmp 35) (.tmp 36) rfl w14.heap.size A7 16 c7 onesL rfl O7.out (some ⟨g1, 0, none⟩) 16 16 onesL rfl rfl R13.out (by decide) Z14.out ?_
        intro A8 c8 w16 hown8 hg8 hor8)
      obtain ⟨g8, k8, e8, hge8, hlt8⟩ := World.ownsRow.form hown8 (by decide)
      injection e8 with e81 e82 e83
      subst e81; subst e83
      have O8 := Lib.hid hown8
      have hge : w14.heap.size ≤ g8 := hge8
      have H14 : Hid (Has w w16 [(g6, .cells (bs (3 :: z15)).toArray 28 (0, 0)), (g5, .cells (bs (3 :: z15)).toArray 28 (0, 0)), (g4, .cells (bs (2 :: z15)).toArray 5 (0, 0)), (g3, .cells (bs onesL).toArray 28 (0, 0)), (g1, .cells (bs onesL).toArray 5 (0, 0))]) :=
        H13.out.fr (M := fun k => w14.heap.size ≤ k) ((Fr.of_grown hg8).mono (fun k _ e => (O7.out.lt k e.symm).1)) (fun p hp => by have := H12.out.lt (g := p.1) (o := p.2) hp; omega) (fun k hk => Nat.le_trans H12.out.bel.size hk)
      have hc8 : w16.cell? ⟨g8, 16, none⟩ = some (.int .u8 255) := (World.ownsRow.cellAt hown8 16 (by decide)).trans rfl
      have hz8 := World.ownsRow.frozenAt hown8 16
      have L8 : Hid (g8 < w16.heap.size) := hlt8
      clear hown8 hg8 hor8 hge8 hlt8
      go_wp2_with (
        (with_reducible refine make_bytes rfl (.const (.int .i64 16)) (.const (.int .i64 16)) rfl (w16.setCell ⟨g8, 16, none⟩ (.int .u8 240)).heap.size 16 16 16 rfl rfl rfl rfl (by decide) (Nat.le_refl _) ?_)
        intro g9 w17 hg9 hb9 hown9 hgr9
        have B9 : Hid (ByB w17 5 g9 16 z16) := by rw [hg9.out]; rw [hg9.out] at hown9; exact hown9
        have hc9 := B9.out.cell (i := 0) (by decide)
        have hz9 := World.ownsRow.frozenAt B9.out 0)
      have Z9 : Hid (w14.heap.size ≤ g9 ∧ g8 ≠ g9) := by
        have h1 := (Fr.of_set w16 g8 16 (.int .u8 240) (M := fun _ => True) trivial).size
        have := L8.out; have := hge
        show _ ∧ _; omega
      have F18 : Hid (Fr (fun k => w14.heap.size ≤ k) w16 (w17.setCell ⟨g9, 0, none⟩ (.int .u8 17))) :=
        (Fr.of_set w16 g8 16 _ hge).tr ((Fr.of_none hgr9 _).tr (Fr.of_set w17 g9 0 _ Z9.out.1))
      have O18 : Hid ((w17.setCell ⟨g9, 0, none⟩ (.int .u8 17)).ownsRow w14.heap.size 5 1 (.slice (some ⟨g8, 0, none⟩) 32 c8) 32 (bs nearL)) := by
        have h1 := (World.ownsRow.stored O8.out 16 (bv 240)).1
        have h2 := own_fr h1 (Fr.of_none hgr9 NoB) (fun _ _ e => e)
        exact own_fr h2 (Fr.of_set w17 g9 0 _ (M := fun k => k = g9) rfl) (fun k hk e => by have e' : k = g9 := e; simp [Value.ownBlock] at hk; have := Z9.out.2; omega)
      have B18 : Hid (ByB (w17.setCell ⟨g9, 0, none⟩ (.int .u8 17)) 5 g9 16 (17 :: z15)) := B9.out.set 0 17
      clear hc8 hz8 hc9 hz9 hg9 hb9 hown9 hgr9 B9 O8
      generalize w17.setCell ⟨g9, 0, none⟩ (.int .u8 17) = w18 at F18 O18 B18 ⊢
      have H18 := Lib.hid (H14.out.fr F18.out (fun p hp => by have := H12.out.lt (g := p.1) (o := p.2) hp; omega) (fun k hk => Nat.le_trans H12.out.bel.size hk))
      clear H14 F18
      refine (with_any w18 (r := 1 :: z15) (s := z16) rfl rfl).mono ?_
      rintro e w19 ⟨rfl, hb19⟩
      have H19 := Lib.hid (H18.out.bl hb19)
      have F19 : Fr NoB w18 w19 := Fr.of_below hb19
      have O19 := Lib.hid (own_fr O18.out F19 (fun _ _ e => e))
      have B19 : Hid (ByB w19 5 g9 16 (17 :: z15)) := own_fr B18.out F19 (fun _ _ e => e)
      have S19 : Hid (Sl w19 (fun k => k = g9) (some ⟨g9, 0, none⟩) 16 16 (17 :: z15)) := Sl.of_block B19.out.heap rfl 16 rfl
      have Z19 : Hid (w14.heap.size ≤ w19.heap.size) := by have := (O18.out.lt g8 rfl); have := hb19.size; show _ ≤ _; omega
      clear hb19 F19 O18 B18 H18
      go_wp2_with (
        at_builtin
        refine append_bytes rfl (.tmp 46) (.tmp 47) rfl w14.heap.size (some ⟨g8, 0, none⟩) 32 c8 nearL rfl O19.out (some ⟨g9, 0, none⟩) 16 16 (17 :: z15) rfl rfl S19.out.rd (by decide) Z19.out ?_
        intro A20 c20 w20 hown20 hg20 hor20)
      have H20 := Lib.hid (H19.out.fr (M := fun k => w14.heap.size ≤ k) ((Fr.of_grown hg20).mono (fun k _ e => by simp [Value.ownBlock] at e; omega)) (fun p hp => by have := H12.out.lt (g := p.1) (o := p.2) hp; omega) (fun k hk => Nat.le_trans H12.out.bel.size hk))
      have S20 := Lib.hid (Sl.of_own hown20)
      clear hown20 hg20 hor20 H19 O19 B19 S19
      refine (Sum_any S20.out (fun k hk => hk.2.1) (by decide) (show ((1 :: z15) ++ z16).length = 32 from rfl)).mono ?_
      rintro e w21 ⟨rfl, hb21⟩
      rw [pk_c]
      have H21 := Lib.hid (H20.out.bl hb21)
      clear hb21 H20 S20
      have iC : Hid ((Try.prog.info? 28).map (·.size) = some (bs (5 :: z15)).length) := Try.sizeTag
      go_wp2_with (first
        | ((with_reducible refine lst_alloc_d 9 rfl 28 rfl iT _ HiT.out HzT.out ?_ ?_)
           (focus rfl)
           intro g22 w22 Hg22 Hh22 hb22
           have H22 := Lib.hid (H21.out.new hb22 (Nat.le_of_eq Hg22.out.1.symm) Hh22.out)
           have h22 : Hid (w22.heap[g22]? = some (.cells (bs (List.replicate 16 0)).toArray 28 (0, 0))) := Hh22
           clear Hg22 Hh22 hb22 H21)
        | ((with_reducible refine lst_store_abs 28 (.tmp 9) (.tmp 49) rfl g22 28 (bs (List.replicate 16 0)).toArray (bs (5 :: z15)).toArray rfl rfl h22.out (by simpa using iC.out) (by simp [bs_length, z15]) (by simp; exact bs_oneCell _) ?_ ?_)
           (focus rfl)
           intro w23 Hh23 hg23
           have H23 : Hid (Has w w23 [(g22, .cells (bs (5 :: z15)).toArray 28 (0, 0)), (g6, .cells (bs (3 :: z15)).toArray 28 (0, 0)), (g5, .cells (bs (3 :: z15)).toArray 28 (0, 0)), (g4, .cells (bs (2 :: z15)).toArray 5 (0, 0)), (g3, .cells (bs onesL).toArray 28 (0, 0)), (g1, .cells (bs onesL).toArray 5 (0, 0))]) := Has.wr (L := []) H22.out hg23 Hh23.out
           have r5 : Hid (w23.rangeAt g5 0 (bs (3 :: z15))) := range_block (H23.out.get (by simp) : w23.heap[g5]? = some (.cells (bs (3 :: z15)).toArray 28 (0, 0)))
           have r6 : Hid (w23.rangeAt g6 0 (bs (3 :: z15))) := range_block (H23.out.get (by simp) : w23.heap[g6]? = some (.cells (bs (3 :: z15)).toArray 28 (0, 0)))
           have r9 : Hid (w23.rangeAt g22 0 (bs (5 :: z15))) := range_block (H23.out.get (by simp) : w23.heap[g22]? = some (.cells (bs (5 :: z15)).toArray 28 (0, 0)))
           clear Hh23 hg23 H22 h22)
        | ((with_reducible refine lst_load_mid 28 (.tmp 5) rfl g5 0 rfl (bs (3 :: z15)) _ r5.out uT.out rfl iA.out ?_ ?_)
           (focus rfl))
        | ((with_reducible refine lst_load_mid 28 (.tmp 6) rfl g6 0 rfl (bs (3 :: z15)) _ r6.out uT.out rfl iA.out ?_ ?_)
           (focus rfl))
        | ((with_reducible refine lst_load_mid 28 (.tmp 9) rfl g22 0 rfl (bs (5 :: z15)) _ r9.out uT.out rfl iC.out ?_ ?_)
           (focus rfl))
        | (refine lst_eql_arr 28 (.tmp 50) (.tmp 51) _ rfl 16 (3 :: z15) (3 :: z15) rfl rfl uT.out (by kernel_rfl) rfl rfl true (by simp) rfl ?_)
        | (refine lst_eql_arr 28 (.tmp 54) (.tmp 55) _ rfl 16 (3 :: z15) (3 :: z15) rfl rfl uT.out (by kernel_rfl) rfl rfl true (by simp) rfl ?_)
        | (refine lst_eql_arr 28 (.tmp 59) (.tmp 60) _ rfl 16 (5 :: z15) (5 :: z15) rfl rfl uT.out (by kernel_rfl) rfl rfl true (by simp) rfl ?_))
      clear r5 r6 r9
      have h231 : w23.heap[g1]? = some (.cells (bs onesL).toArray 5 (0, 0)) := H23.out.get (by simp)
      have S23 : Hid (Sl w23 (fun k => k = g1) (some ⟨g1, 0, none⟩) 16 16 onesL) := Sl.of_block h231 rfl 16 rfl
      have L23 : Hid (g1 < w23.heap.size) := (Array.getElem?_eq_some_iff.1 h231).1
      clear h231
      refine (Sum_any (K := List.replicate 32 0) S23.out (fun k e => by rw [e]; exact L23.out) (by decide) rfl).mono ?_
      rintro e w24 ⟨rfl, hb24⟩
      rw [pk_d]
      have B24 := Lib.hid (Below.tr H23.out.bel hb24)
      clear hb24 H23 S23 L23
      go_wp2_with (
        (refine lst_eql_arr 28 (.tmp 66) (.tmp 67) _ rfl 16 z16 z16 rfl rfl uT.out (by kernel_rfl) rfl rfl true (by simp) rfl ?_))
      refine (known_any w24).mono ?_
      rintro e w25 ⟨rfl, hb25⟩
      have B25 := Lib.hid (Below.tr B24.out hb25)
      clear hb25 B24
      go_wp2_with fail
      go_ret
      exact ⟨rfl, B25.out⟩
end Go.Proofs.Ytkikdhjckjmolaa
