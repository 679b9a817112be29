/- ChachaKnown's walk. -/
import Derived.Test.YtobbcnajmocpfaaCh22
namespace Go.Proofs.Ytobbcnajmocpfaa
open Go.RowKit
attribute [local go_sem] yld yldUpon_value

def nvL : List (BitVec 32) := [0, 1, 2, 2147483647, 2147483648, 4294967294, 4294967295]
set_option maxRecDepth 100000 in
set_option maxHeartbeats 8000000 in
theorem ChachaKnown_any (w : World) :
    Calls Try.prog 8 #[] w fun e w' => e = .returned (.bool true) ∧ Below w.heap.size w w' := by
  obtain ⟨io, hio, hzo, _, _⟩ := info_parts Try.infoO
  have Hio := Lib.hid hio; have Hzo := Lib.hid hzo
  clear hio hzo
  have S0 : Hid (SqB (w.alloc (.cells #[.int .u32 286331153, .int .u32 16909060, .int .u32 2609737539, .int .u32 19088743] 24)) 24 w.heap.size 4 4 qL) := SqB.of_block (heap_alloc_new w _) rfl rfl (by decide)
  have B0 : Hid (Below w.heap.size w (w.alloc (.cells #[.int .u32 286331153, .int .u32 16909060, .int .u32 2609737539, .int .u32 19088743] 24))) := (Below.refl _ _).alloc (Nat.le_refl _) _
  go_enter Try.func8, Try.ntmps8
  go_wp2_with fail
  refine (QuarterN_any 4 _ w.heap.size 4 qL S0.out 0 1 2 3 (by decide) (by decide) (by decide) (by decide)).mono ?_
  rintro e w1 ⟨rfl, s1, f1⟩
  rw [qL_done] at s1
  have B1 : Hid (Below w.heap.size w w1) := ((Fr.of_below (M := fun k => k = w.heap.size) B0.out).trans f1 (fun _ _ e => e)).to_below (fun i hi e => by omega)
  have c0 : w1.cell? ⟨w.heap.size, 0, none⟩ = some (.int .u32 3928658676) := s1.cell (i := 0) (by decide)
  have c1 : w1.cell? ⟨w.heap.size, 1, none⟩ = some (.int .u32 3407673550) := s1.cell (i := 1) (by decide)
  have c2 : w1.cell? ⟨w.heap.size, 2, none⟩ = some (.int .u32 1166100270) := s1.cell (i := 2) (by decide)
  have c3 : w1.cell? ⟨w.heap.size, 3, none⟩ = some (.int .u32 1484899515) := s1.cell (i := 3) (by decide)
  clear s1 f1 S0 B0
  go_wp2_with fail
  clear c0 c1 c2 c3
  refine (Block_any w1 (List.replicate 32 0) (List.replicate 12 0) 0 rfl rfl).mono ?_
  rintro e w2 ⟨rfl, hb2⟩
  obtain ⟨Z, hZ⟩ : ∃ Z, Z = blockP (List.replicate 32 0) 0 (List.replicate 12 0) := ⟨_, rfl⟩
  rw [← hZ]
  have HZ := Lib.hid hZ
  have HZl : Hid (Z.length = 64) := by rw [hZ]; exact blockP_len _ _ _
  have B2 : Hid (Below w.heap.size w w2) := B1.out.trans (hb2.mono B1.out.size)
  clear hb2 hZ B1
  have iO : Hid ((Try.prog.info? 27).map (·.size) = some (bs Z).length) := by rw [bs_length, HZl.out]; exact Try.sizeO
  go_wp2_with (first
    | ((with_reducible refine lst_alloc_d 2 rfl 27 rfl io _ Hio.out Hzo.out ?_ ?_)
       (focus rfl)
       intro g3 w3 Hg3 Hh3 hb3
       have Hb3 : Hid (Below w.heap.size w w3) := B2.out.trans (hb3.mono B2.out.size)
       have Hg3' : Hid (w.heap.size ≤ g3 ∧ g3 < w3.heap.size) := by
         have := Hg3.out; have := B2.out.size
         show _ ∧ _
         omega
       have Hh3' : Hid (w3.heap[g3]? = some (.cells (bs (List.replicate 64 0)).toArray 27 (0, 0))) := Hh3
       clear hb3 B2 Hg3 Hh3)
    | ((with_reducible refine lst_store_abs 27 (.tmp 2) (.tmp 34) rfl g3 27 (bs (List.replicate 64 0)).toArray (bs Z).toArray rfl rfl Hh3'.out (by simpa using iO.out) (by simp [bs_length, HZl.out]) (by simp; exact bs_oneCell _) ?_ ?_)
       (focus rfl)
       intro w4 Hh4 hg4
       have Hb4 : Hid (Below w.heap.size w w4) := Hb3.out.grown hg4 Hb3.out.size (fun j hj => by injection hj with hj; have := Hg3'.out; omega)
       have Hg4 : Hid (w.heap.size ≤ g3 ∧ g3 < w4.heap.size) := by have := hg4.size; have := Hg3'.out; show _ ∧ _; omega
       clear hg4 Hg3' Hb3 Hh3'))
  refine (counted_any w4).mono ?_
  rintro e w5 ⟨rfl, hb5⟩
  have q38 := Lib.run_convert_bytes_const (P := Try.prog) w5 31 5 #[.int .u8 76, .int .u8 97, .int .u8 100, .int .u8 105, .int .u8 101, .int .u8 115, .int .u8 32, .int .u8 97, .int .u8 110, .int .u8 100, .int .u8 32, .int .u8 71, .int .u8 101, .int .u8 110, .int .u8 116, .int .u8 108] 16 16 Try.underlying31 Try.underlying5
  have B5 : Hid (Below w.heap.size w w5) := Hb4.out.trans (hb5.mono Hb4.out.size)
  have z5 : Hid (Sl w5 (fun k => k = g3) (some ⟨g3, 0, none⟩) 16 64 (Z.take 16)) := by
    have h := (Sl.of_block Hh4.out rfl 64 HZl.out).fr (Fr.of_below (M := NoB) hb5) (fun k hk => ⟨by rw [hk]; exact Hg4.out.2, id⟩)
    rw [← List.take_append_drop 16 Z] at h
    exact Sl.take_ h (by rw [List.length_take, HZl.out]; rfl)
  have G5 : Hid (w.heap.size ≤ g3 ∧ g3 < w5.heap.size) := ⟨Hg4.out.1, Nat.lt_of_lt_of_le Hg4.out.2 hb5.size⟩
  clear hb5 Hh4 Hb4 Hg4
  go_wp2_with fail
  clear q38
  have L6 : Hid (Sl (w5.alloc (.cells (bs ladies).toArray 5 (16, 17))) (fun k => k = w5.heap.size) (some ⟨w5.heap.size, 0, none⟩) 16 16 ladies) := Sl.of_block (heap_alloc_new w5 _) rfl 16 rfl
  have L6' : Hid (Sl (w5.alloc (.cells #[.int .u8 76, .int .u8 97, .int .u8 100, .int .u8 105, .int .u8 101, .int .u8 115, .int .u8 32, .int .u8 97, .int .u8 110, .int .u8 100, .int .u8 32, .int .u8 71, .int .u8 101, .int .u8 110, .int .u8 116, .int .u8 108] 5 (16, 17))) (fun k => k = w5.heap.size) (some ⟨w5.heap.size, 0, none⟩) 16 16 ladies) := L6.out
  have B6 : Hid (Below w5.heap.size w5 (w5.alloc (.cells #[.int .u8 76, .int .u8 97, .int .u8 100, .int .u8 105, .int .u8 101, .int .u8 115, .int .u8 32, .int .u8 97, .int .u8 110, .int .u8 100, .int .u8 32, .int .u8 71, .int .u8 101, .int .u8 110, .int .u8 116, .int .u8 108] 5 (16, 17)))) := (Below.refl _ _).alloc (Nat.le_refl _) _
  have z6 : Hid (w5.heap.size < (w5.alloc (.cells #[.int .u8 76, .int .u8 97, .int .u8 100, .int .u8 105, .int .u8 101, .int .u8 115, .int .u8 32, .int .u8 97, .int .u8 110, .int .u8 100, .int .u8 32, .int .u8 71, .int .u8 101, .int .u8 110, .int .u8 116, .int .u8 108] 5 (16, 17))).heap.size) := by show _ < _; simp
  clear L6
  generalize w5.alloc (.cells #[.int .u8 76, .int .u8 97, .int .u8 100, .int .u8 105, .int .u8 101, .int .u8 115, .int .u8 32, .int .u8 97, .int .u8 110, .int .u8 100, .int .u8 32, .int .u8 71, .int .u8 101, .int .u8 110, .int .u8 116, .int .u8 108] 5 (16, 17)) = w6 at L6' B6 z6 ⊢
  refine (Xor_any w6 countedL nonceS 1 countedL_len rfl L6'.out (fun k hk => by rw [hk]; exact z6.out) (by decide)).mono ?_
  rintro e w7 ⟨A7, c7, rfl, hown7, hb7⟩
  rw [ladies_done] at hown7
  have b57 : Hid (Below w5.heap.size w5 w7) := B6.out.trans (hb7.mono B6.out.size)
  have B7 : Hid (Below w.heap.size w w7) := B5.out.trans (b57.out.mono B5.out.size)
  have Z7 : Hid (Sl w7 (fun k => k = g3) (some ⟨g3, 0, none⟩) 16 64 (beL [1991827629, 2700164496, 1079864037, 1401339176])) := by
    have h := z5.out.fr (Fr.of_below (M := NoB) b57.out) (fun k hk => ⟨by rw [hk]; exact G5.out.2, id⟩)
    rw [HZ.out, zero_block] at h
    exact h
  have G7 : Hid (w.heap.size ≤ g3 ∧ g3 < w7.heap.size) := ⟨G5.out.1, Nat.lt_of_lt_of_le G5.out.2 b57.out.size⟩
  have X7 : Hid (Sl w7 (Iv w6.heap.size w7.heap.size) A7 16 c7 (beL [1848522138, 627636608, 1102710568, 3708643713])) := Sl.own_ hown7
  clear hown7 hb7 b57 L6' B6 z6 z5 G5 B5 HZ iO HZl
  go_wp2_with fail
  have c16 : (16 : Int) ≤ 64 := by decide
  refine wp_calm ?_
  refine wp_region_os (fun _ _ => True) []
    (.move 0 (.run 1 [] (.run 2 [] (.run 3 [] (.move 4 (.move 5 (.move 6 (.run 7 [] (.run 8 [] (.run 9 [] (.move 10 (.move 11 .done)))))))))))) (by kernel_rfl) (by kernel_rfl) (fun _ _ _ _ _ h => nomatch h.1) ?_
  refine os_move rfl rfl rfl (Nat.le_of_ble_eq_true rfl) ?_
  apply Exists.intro
  refine ⟨fun w' K hK => ?_, ?_⟩
  (focus
    go_simp
    exact hK)
  refine os_run rfl rfl (fun K hK => ?_)
  go_wp2_with fail
  refine ⟨fun k hk => absurd hk List.not_mem_nil, ?_⟩
  refine os_run rfl rfl (fun K hK => ?_)
  go_wp2_with fail
  have r8 : Hid (Rd (w7.alloc (.cells #[.int .u32 1991827629, .int .u32 2700164496, .int .u32 1079864037, .int .u32 1401339176] 24)).drew (some ⟨w7.heap.size, 0, none⟩) (wl [1991827629, 2700164496, 1079864037, 1401339176])) := Rd.of_block (heap_alloc_new w7 _)
  have b8 : Hid (Below w7.heap.size w7 (w7.alloc (.cells #[.int .u32 1991827629, .int .u32 2700164496, .int .u32 1079864037, .int .u32 1401339176] 24)).drew) := below_drewN ((Below.refl _ _).alloc (Nat.le_refl _) _) 1
  generalize (w7.alloc (.cells #[.int .u32 1991827629, .int .u32 2700164496, .int .u32 1079864037, .int .u32 1401339176] 24)).drew = w8 at r8 b8 ⊢
  refine (words_any w8 _ 4 4 [1991827629, 2700164496, 1079864037, 1401339176] rfl r8.out (by decide)).mono ?_
  rintro e w9 ⟨A9, c9, rfl, hown9, hb9⟩
  have b79 : Hid (Below w7.heap.size w7 w9) := b8.out.trans (hb9.mono b8.out.size)
  have v9 : Hid (Sl w9 (Iv w8.heap.size w9.heap.size) A9 (4 * 4) c9 (beL [1991827629, 2700164496, 1079864037, 1401339176])) := Sl.own_ hown9
  have Z9 : Hid (Sl w9 (fun k => k = g3) (some ⟨g3, 0, none⟩) 16 64 (beL [1991827629, 2700164496, 1079864037, 1401339176])) := Z7.out.fr (Fr.of_below (M := NoB) b79.out) (fun k hk => ⟨by rw [hk]; exact G7.out.2, id⟩)
  have X9 : Hid (Sl w9 (Iv w6.heap.size w7.heap.size) A7 16 c7 (beL [1848522138, 627636608, 1102710568, 3708643713])) := X7.out.bel b79.out (Nat.le_refl _)
  have B9 : Hid (Below w.heap.size w w9) := B7.out.trans (b79.out.mono B7.out.size)
  have z79 : Hid (w7.heap.size ≤ w9.heap.size) := b79.out.size
  clear hown9 hb9 b79 b8 r8 Z7 X7 B7
  go_wp2_with fail
  refine ⟨fun k hk => absurd hk List.not_mem_nil, ?_⟩
  refine os_run rfl rfl (fun K hK => ?_)
  go_wp2_with fail
  refine (Same_at Z9.out v9.out (by decide) (by decide) true (by simp)).mono ?_
  rintro e w10 ⟨rfl, x10, rfl⟩
  have X10 : Hid (Sl (w9.drewN x10) (Iv w6.heap.size w7.heap.size) A7 16 c7 (beL [1848522138, 627636608, 1102710568, 3708643713])) := X9.out.dr x10
  have B10 : Hid (Below w.heap.size w (w9.drewN x10)) := below_drewN B9.out x10
  have z10 : Hid (w7.heap.size ≤ (w9.drewN x10).heap.size) := z79.out
  clear Z9 v9 X9 B9 z79
  generalize w9.drewN x10 = w10 at X10 B10 z10 ⊢
  go_wp2_with fail
  refine ⟨fun k hk => absurd hk List.not_mem_nil, ?_⟩
  iterate 2 (
    refine os_move rfl rfl rfl (Nat.le_of_ble_eq_true rfl) ?_
    apply Exists.intro
    refine ⟨fun w' K hK => ?_, ?_⟩
    (focus
      go_simp
      exact hK))
  refine os_moveg rfl rfl rfl (Nat.le_of_ble_eq_true rfl) ?_
  apply Exists.intro
  refine ⟨fun w' K hK => ?_, ?_⟩
  (focus
    go_simp
    exact hK)
  refine os_run rfl rfl (fun K hK => ?_)
  go_wp2_with fail
  refine ⟨fun k hk => absurd hk List.not_mem_nil, ?_⟩
  refine os_run rfl rfl (fun K hK => ?_)
  go_wp2_with fail
  have r8 : Hid (Rd (w10.alloc (.cells #[.int .u32 1848522138, .int .u32 627636608, .int .u32 1102710568, .int .u32 3708643713] 24)) (some ⟨w10.heap.size, 0, none⟩) (wl [1848522138, 627636608, 1102710568, 3708643713])) := Rd.of_block (heap_alloc_new w10 _)
  have b8 : Hid (Below w10.heap.size w10 (w10.alloc (.cells #[.int .u32 1848522138, .int .u32 627636608, .int .u32 1102710568, .int .u32 3708643713] 24))) := (Below.refl _ _).alloc (Nat.le_refl _) _
  generalize w10.alloc (.cells #[.int .u32 1848522138, .int .u32 627636608, .int .u32 1102710568, .int .u32 3708643713] 24) = w11 at r8 b8 ⊢
  refine (words_any w11 _ 4 4 [1848522138, 627636608, 1102710568, 3708643713] rfl r8.out (by decide)).mono ?_
  rintro e w12 ⟨A12, c12, rfl, hown12, hb12⟩
  have b12 : Hid (Below w10.heap.size w10 w12) := b8.out.trans (hb12.mono b8.out.size)
  have v12 : Hid (Sl w12 (Iv w11.heap.size w12.heap.size) A12 (4 * 4) c12 (beL [1848522138, 627636608, 1102710568, 3708643713])) := Sl.own_ hown12
  have X12 : Hid (Sl w12 (Iv w6.heap.size w7.heap.size) A7 16 c7 (beL [1848522138, 627636608, 1102710568, 3708643713])) := X10.out.bel b12.out z10.out
  have B12 : Hid (Below w.heap.size w w12) := B10.out.trans (b12.out.mono B10.out.size)
  clear hown12 hb12 b12 b8 r8 X10 B10 z10
  go_wp2_with fail
  refine ⟨fun k hk => absurd hk List.not_mem_nil, ?_⟩
  refine os_run rfl rfl (fun K hK => ?_)
  go_wp2_with fail
  refine (Same_at X12.out v12.out (by decide) (by decide) true (by simp)).mono ?_
  rintro e w13 ⟨rfl, x13, rfl⟩
  have B13 : Hid (Below w.heap.size w (w12.drewN x13)) := below_drewN B12.out x13
  clear X12 v12 B12
  generalize w12.drewN x13 = w13 at B13 ⊢
  go_wp2_with fail
  refine ⟨fun k hk => absurd hk List.not_mem_nil, ?_⟩
  refine os_moveg rfl rfl rfl (Nat.le_of_ble_eq_true rfl) ?_
  apply Exists.intro
  refine ⟨fun w' K hK => ?_, ?_⟩
  (focus
    go_simp
    exact hK)
  refine os_move rfl rfl rfl (Nat.le_of_ble_eq_true rfl) ?_
  apply Exists.intro
  refine ⟨fun w' K hK => ?_, ?_⟩
  (focus
    go_simp
    exact hK)
  refine os_done ⟨rfl, ?_⟩
  have S0 : Hid (SqB (w13.alloc (.cells #[.int .u32 0, .int .u32 1, .int .u32 2, .int .u32 2147483647, .int .u32 2147483648, .int .u32 4294967294, .int .u32 4294967295] 24)) 24 w13.heap.size 7 7 nvL) := SqB.of_block (heap_alloc_new w13 _) rfl rfl (by decide)
  have B14 : Hid (Below w.heap.size w (w13.alloc (.cells #[.int .u32 0, .int .u32 1, .int .u32 2, .int .u32 2147483647, .int .u32 2147483648, .int .u32 4294967294, .int .u32 4294967295] 24))) := B13.out.alloc B13.out.size _
  have hgn : w.heap.size ≤ w13.heap.size := B13.out.size
  clear B13 G7 Hio Hzo
  go_wp2_with fail
  generalize w13.alloc (.cells #[.int .u32 0, .int .u32 1, .int .u32 2, .int .u32 2147483647, .int .u32 2147483648, .int .u32 4294967294, .int .u32 4294967295] 24) = w14 at S0 B14 ⊢
  generalize w13.heap.size = gn at S0 hgn ⊢
  go_loopw [5] (fun i wr => ∃ k : Nat, k ≤ 7 ∧ i = .int .i64 (k : Nat) ∧ Hid (SqB wr 24 gn 7 7 nvL ∧ Below w.heap.size w wr)) (fun i _ => 7 - (intOf i).toNat)
  case atStart => exact ⟨0, Nat.zero_le _, rfl, S0.out, B14.out⟩
  case round =>
    clear S0 B14
    obtain ⟨k, hk, rfl, HI⟩ := hrel
    by_cases hlt : k < 7
    · have hkI : (k : Int) < 7 := by omega
      have hk0 : (0 : Int) ≤ (k : Int) := by omega
      obtain ⟨u, hu⟩ : ∃ u : UInt8, (u.toNat : Int) = (k : Int) := ⟨UInt8.ofNat k, by rw [UInt8.toNat_ofNat']; omega⟩
      have Hu := Lib.hid hu
      obtain ⟨x, hx⟩ : ∃ x, x = gw nvL k := ⟨_, rfl⟩
      have Hx := Lib.hid hx
      have hkw : IntKind.u8.wrap (k : Int) = (u.toNat : Int) := by rw [wrap_u8]; omega
      have cd : Hid (wr.drew.cell? ⟨gn, k, none⟩ = some (.int .u32 (wv x))) := by rw [hx]; exact HI.out.1.cell hlt
      have HId : Hid (SqB wr.drew 24 gn 7 7 nvL ∧ Below w.heap.size w wr.drew) := ⟨HI.out.1.drewN 1, below_drewN HI.out.2 1⟩
      clear hu hx HI
      go_wp2_with fail
      refine wp_calm ?_
      refine wp_region_os (fun _ w' => w'.cell? ⟨gn, k, none⟩ = some (.int .u32 (wv x))) [4, 15]
        (.move 1 (.move 2 (.move 3 (.take 4 (.move 5 (.move 6 (.move 7 (.run 0 [4, 15] (.run 8 [4, 15] (.move 9 (.move 10 (.move 12 (.move 13 (.move 14 (.take 15 (.move 16 (.run 11 [4, 15] (.run 17 [4, 15] (.move 18 (.move 19 .done)))))))))))))))))))) (by kernel_rfl) (by kernel_rfl) (fun _ _ _ _ _ h => nomatch h.1) ?_
      iterate 3 (
        refine os_move rfl rfl rfl (Nat.le_of_ble_eq_true rfl) ?_
        apply Exists.intro
        refine ⟨fun w' K hK => ?_, ?_⟩
        (focus
          go_simp
          exact hK))
      refine os_yld cd.out rfl rfl rfl (Nat.le_of_ble_eq_true rfl) ?_
      apply Exists.intro
      refine ⟨fun w' hS' K hK => ?_, ?_⟩
      (focus
        have hS2 : (fun w' => w'.cell? ⟨gn, k, none⟩ = some (.int .u32 (wv x))) w' := hS'
        clear hS'
        try dsimp only at hS2
        go_simp
        exact hK)
      iterate 3 (
        refine os_move rfl rfl rfl (Nat.le_of_ble_eq_true rfl) ?_
        apply Exists.intro
        refine ⟨fun w' K hK => ?_, ?_⟩
        (focus
          go_simp
          exact hK))
      generalize wr.drew = w1 at cd HId ⊢
      refine os_run rfl rfl (fun K hK => ?_)
      go_wp2_with fail
      refine (counted_any w1).mono ?_
      rintro e w2 ⟨rfl, hb2⟩
      have HI2 : Hid (SqB w2 24 gn 7 7 nvL ∧ Below w.heap.size w w2) := ⟨HId.out.1.fr (Fr.of_below (M := NoB) hb2) id (by decide), HId.out.2.trans (hb2.mono HId.out.2.size)⟩
      have k2 : Hid (∀ i ∈ [4, 15], w1.cell? ⟨gn, k, none⟩ = some (.int .u32 (wv x)) → w2.cell? ⟨gn, k, none⟩ = some (.int .u32 (wv x))) := fun _ _ h => cell_fr h (Fr.of_below (M := NoB) hb2) id
      clear hb2 HId cd
      go_wp2_with fail
      refine ⟨k2.out, ?_⟩
      clear k2
      refine os_run rfl rfl (fun K hK => ?_)
      go_wp2_with fail
      refine (ChachaBlocks_any w2 countedL (u :: List.replicate 11 0) x countedL_len rfl).mono ?_
      rintro e w3 ⟨rfl, hb3⟩
      have HI3 : Hid (SqB w3 24 gn 7 7 nvL ∧ Below w.heap.size w w3) := ⟨HI2.out.1.fr (Fr.of_below (M := NoB) hb3) id (by decide), HI2.out.2.trans (hb3.mono HI2.out.2.size)⟩
      have k3 : Hid (∀ i ∈ [4, 15], w2.cell? ⟨gn, k, none⟩ = some (.int .u32 (wv x)) → w3.cell? ⟨gn, k, none⟩ = some (.int .u32 (wv x))) := fun _ _ h => cell_fr h (Fr.of_below (M := NoB) hb3) id
      clear hb3 HI2
      go_wp2_with fail
      refine ⟨k3.out, ?_⟩
      clear k3
      iterate 2 (
        refine os_move rfl rfl rfl (Nat.le_of_ble_eq_true rfl) ?_
        apply Exists.intro
        refine ⟨fun w' K hK => ?_, ?_⟩
        (focus
          go_simp
          exact hK))
      iterate 3 (
        refine os_moveg rfl rfl rfl (Nat.le_of_ble_eq_true rfl) ?_
        apply Exists.intro
        refine ⟨fun w' K hK => ?_, ?_⟩
        (focus
          go_simp
          exact hK))
      have cd : Hid (w3.cell? ⟨gn, k, none⟩ = some (.int .u32 (wv x))) := by rw [Hx.out]; exact HI3.out.1.cell hlt
      refine os_yldg cd.out rfl rfl rfl (Nat.le_of_ble_eq_true rfl) ?_
      apply Exists.intro
      refine ⟨fun w' hS' K hK => ?_, ?_⟩
      (focus
        have hS2 : (fun w' => w'.cell? ⟨gn, k, none⟩ = some (.int .u32 (wv x))) w' := hS'
        clear hS'
        try dsimp only at hS2
        go_simp
        exact hK)
      refine os_moveg rfl rfl rfl (Nat.le_of_ble_eq_true rfl) ?_
      apply Exists.intro
      refine ⟨fun w' K hK => ?_, ?_⟩
      (focus
        go_simp
        exact hK)
      refine os_run rfl rfl (fun K hK => ?_)
      go_wp2_with fail
      refine (counted_any w3).mono ?_
      rintro e w4 ⟨rfl, hb4⟩
      have HI4 : Hid (SqB w4 24 gn 7 7 nvL ∧ Below w.heap.size w w4) := ⟨HI3.out.1.fr (Fr.of_below (M := NoB) hb4) id (by decide), HI3.out.2.trans (hb4.mono HI3.out.2.size)⟩
      have k4 : Hid (∀ i ∈ [4, 15], w3.cell? ⟨gn, k, none⟩ = some (.int .u32 (wv x)) → w4.cell? ⟨gn, k, none⟩ = some (.int .u32 (wv x))) := fun _ _ h => cell_fr h (Fr.of_below (M := NoB) hb4) id
      clear hb4 HI3 cd
      go_wp2_with fail
      refine ⟨k4.out, ?_⟩
      clear k4
      refine os_run rfl rfl (fun K hK => ?_)
      go_wp2_with fail
      refine (ChachaStream_any w4 countedL (1 :: List.replicate 11 0) x countedL_len rfl 200).mono ?_
      rintro e w5 ⟨rfl, hb5⟩
      have HI5 : Hid (SqB w5 24 gn 7 7 nvL ∧ Below w.heap.size w w5) := ⟨HI4.out.1.fr (Fr.of_below (M := NoB) hb5) id (by decide), HI4.out.2.trans (hb5.mono HI4.out.2.size)⟩
      have k5 : Hid (∀ i ∈ [4, 15], w4.cell? ⟨gn, k, none⟩ = some (.int .u32 (wv x)) → w5.cell? ⟨gn, k, none⟩ = some (.int .u32 (wv x))) := fun _ _ h => cell_fr h (Fr.of_below (M := NoB) hb5) id
      clear hb5 HI4
      go_wp2_with fail
      refine ⟨k5.out, ?_⟩
      clear k5
      refine os_moveg rfl rfl rfl (Nat.le_of_ble_eq_true rfl) ?_
      apply Exists.intro
      refine ⟨fun w' K hK => ?_, ?_⟩
      (focus
        go_simp
        exact hK)
      refine os_move rfl rfl rfl (Nat.le_of_ble_eq_true rfl) ?_
      apply Exists.intro
      refine ⟨fun w' K hK => ?_, ?_⟩
      (focus
        go_simp
        exact hK)
      refine os_done ⟨rfl, ?_⟩
      go_wp2_with fail
      go_loopw [6] (fun i wr => ∃ m : Nat, m ≤ 10 ∧ i = .int .i64 ((13 * m : Nat) : Int) ∧ Hid (SqB wr 24 gn 7 7 nvL ∧ Below w.heap.size w wr)) (fun i _ => 130 - (intOf i).toNat)
      case atStart => exact ⟨0, Nat.zero_le _, rfl, HI5.out⟩
      case round =>
        clear HI5
        obtain ⟨m, hm, rfl, HI⟩ := hrel
        by_cases hlm : m < 10
        · obtain ⟨q, hq⟩ : ∃ q, q = 13 * m := ⟨_, rfl⟩
          rw [← hq]
          have Hq := Lib.hid hq
          have hq1 : q ≤ 117 := by omega
          have hqI : (q : Int) < 130 := by omega
          have hq0 : (0 : Int) ≤ (q : Int) := by omega
          obtain ⟨v, hv⟩ : ∃ v : UInt8, (v.toNat : Int) = (q : Int) := ⟨UInt8.ofNat q, by rw [UInt8.toNat_ofNat']; omega⟩
          have hqw : IntKind.u8.wrap (q : Int) = (v.toNat : Int) := by rw [wrap_u8]; omega
          have hqs : IntKind.i64.wrap ((q : Int) - 1) = (q : Int) - 1 := by rw [IntKind.wrap_i64]; omega
          have cd : Hid (wr.drew.cell? ⟨gn, k, none⟩ = some (.int .u32 (wv x))) := by rw [Hx.out]; exact HI.out.1.cell hlt
          have HId : Hid (SqB wr.drew 24 gn 7 7 nvL ∧ Below w.heap.size w wr.drew) := ⟨HI.out.1.drewN 1, below_drewN HI.out.2 1⟩
          clear hq hv HI
          go_wp2_with fail
          refine wp_calm ?_
          refine wp_region_os (fun _ w' => w'.cell? ⟨gn, k, none⟩ = some (.int .u32 (wv x))) [6, 19]
            (.move 0 (.move 1 (.move 2 (.move 3 (.move 4 (.move 5 (.take 6 (.move 7 (.move 8 (.move 9 (.move 10 (.run 11 [6, 19] (.run 12 [6, 19] (.move 13 (.move 14 (.move 16 (.move 17 (.move 18 (.take 19 (.move 20 (.move 21 (.move 23 (.move 24 (.run 15 [6, 19] (.run 22 [6, 19] (.run 25 [6, 19] (.move 26 (.move 27 .done)))))))))))))))))))))))))))) (by kernel_rfl) (by kernel_rfl) (fun _ _ _ _ _ h => nomatch h.1) ?_
          iterate 6 (
            refine os_move rfl rfl rfl (Nat.le_of_ble_eq_true rfl) ?_
            apply Exists.intro
            refine ⟨fun w' K hK => ?_, ?_⟩
            (focus
              go_simp
              exact hK))
          refine os_yld cd.out rfl rfl rfl (Nat.le_of_ble_eq_true rfl) ?_
          apply Exists.intro
          refine ⟨fun w' hS' K hK => ?_, ?_⟩
          (focus
            have hS2 : (fun w' => w'.cell? ⟨gn, k, none⟩ = some (.int .u32 (wv x))) w' := hS'
            clear hS'
            try dsimp only at hS2
            go_simp
            exact hK)
          iterate 4 (
            refine os_move rfl rfl rfl (Nat.le_of_ble_eq_true rfl) ?_
            apply Exists.intro
            refine ⟨fun w' K hK => ?_, ?_⟩
            (focus
              go_simp
              exact hK))
          generalize wr.drew = w1 at cd HId ⊢
          refine os_run rfl rfl (fun K hK => ?_)
          go_wp2_with fail
          refine (Row_any q w1 (by omega)).mono ?_
          rintro e w2 ⟨A2, c2, rfl, hown2, hb2⟩
          have HI2 : Hid (SqB w2 24 gn 7 7 nvL ∧ Below w.heap.size w w2) := ⟨HId.out.1.fr (Fr.of_below (M := NoB) hb2) id (by decide), HId.out.2.trans (hb2.mono HId.out.2.size)⟩
          have k2 : Hid (∀ i ∈ [6, 19], w1.cell? ⟨gn, k, none⟩ = some (.int .u32 (wv x)) → w2.cell? ⟨gn, k, none⟩ = some (.int .u32 (wv x))) := fun _ _ h => cell_fr h (Fr.of_below (M := NoB) hb2) id
          have s2 : Hid (Sl w2 (Old w2) A2 q c2 (rowL q)) := (Sl.of_own hown2).mono (fun k h => h.2.1)
          clear hb2 HId cd hown2
          go_wp2_with fail
          refine ⟨k2.out, ?_⟩
          clear k2
          refine os_run rfl rfl (fun K hK => ?_)
          go_wp2_with fail
          refine (ChachaXors_any w2 (v :: List.replicate 31 0) (2 :: u :: List.replicate 10 0) x rfl rfl s2.out (by omega)).mono ?_
          rintro e w3 ⟨rfl, hb3⟩
          have HI3 : Hid (SqB w3 24 gn 7 7 nvL ∧ Below w.heap.size w w3) := ⟨HI2.out.1.fr (Fr.of_below (M := NoB) hb3) id (by decide), HI2.out.2.trans (hb3.mono HI2.out.2.size)⟩
          have k3 : Hid (∀ i ∈ [6, 19], w2.cell? ⟨gn, k, none⟩ = some (.int .u32 (wv x)) → w3.cell? ⟨gn, k, none⟩ = some (.int .u32 (wv x))) := fun _ _ h => cell_fr h (Fr.of_below (M := NoB) hb3) id
          clear hb3 HI2 s2
          go_wp2_with fail
          refine ⟨k3.out, ?_⟩
          clear k3
          iterate 2 (
            refine os_move rfl rfl rfl (Nat.le_of_ble_eq_true rfl) ?_
            apply Exists.intro
            refine ⟨fun w' K hK => ?_, ?_⟩
            (focus
              go_simp
              exact hK))
          iterate 3 (
            refine os_moveg rfl rfl rfl (Nat.le_of_ble_eq_true rfl) ?_
            apply Exists.intro
            refine ⟨fun w' K hK => ?_, ?_⟩
            (focus
              go_simp
              exact hK))
          have cd : Hid (w3.cell? ⟨gn, k, none⟩ = some (.int .u32 (wv x))) := by rw [Hx.out]; exact HI3.out.1.cell hlt
          refine os_yldg cd.out rfl rfl rfl (Nat.le_of_ble_eq_true rfl) ?_
          apply Exists.intro
          refine ⟨fun w' hS' K hK => ?_, ?_⟩
          (focus
            have hS2 : (fun w' => w'.cell? ⟨gn, k, none⟩ = some (.int .u32 (wv x))) w' := hS'
            clear hS'
            try dsimp only at hS2
            go_simp
            exact hK)
          iterate 4 (
            refine os_moveg rfl rfl rfl (Nat.le_of_ble_eq_true rfl) ?_
            apply Exists.intro
            refine ⟨fun w' K hK => ?_, ?_⟩
            (focus
              go_simp
              exact hK))
          refine os_run rfl rfl (fun K hK => ?_)
          go_wp2_with fail
          refine (counted_any w3).mono ?_
          rintro e w4 ⟨rfl, hb4⟩
          have HI4 : Hid (SqB w4 24 gn 7 7 nvL ∧ Below w.heap.size w w4) := ⟨HI3.out.1.fr (Fr.of_below (M := NoB) hb4) id (by decide), HI3.out.2.trans (hb4.mono HI3.out.2.size)⟩
          have k4 : Hid (∀ i ∈ [6, 19], w3.cell? ⟨gn, k, none⟩ = some (.int .u32 (wv x)) → w4.cell? ⟨gn, k, none⟩ = some (.int .u32 (wv x))) := fun _ _ h => cell_fr h (Fr.of_below (M := NoB) hb4) id
          clear hb4 HI3 cd
          go_wp2_with fail
          refine ⟨k4.out, ?_⟩
          clear k4
          refine os_run rfl rfl (fun K hK => ?_)
          go_wp2_with fail
          refine (Row_any q w4 (by omega)).mono ?_
          rintro e w5 ⟨A5, c5, rfl, hown5, hb5⟩
          have HI5 : Hid (SqB w5 24 gn 7 7 nvL ∧ Below w.heap.size w w5) := ⟨HI4.out.1.fr (Fr.of_below (M := NoB) hb5) id (by decide), HI4.out.2.trans (hb5.mono HI4.out.2.size)⟩
          have k5 : Hid (∀ i ∈ [6, 19], w4.cell? ⟨gn, k, none⟩ = some (.int .u32 (wv x)) → w5.cell? ⟨gn, k, none⟩ = some (.int .u32 (wv x))) := fun _ _ h => cell_fr h (Fr.of_below (M := NoB) hb5) id
          have s5 : Hid (Sl w5 (Old w5) A5 q c5 (rowL q)) := (Sl.of_own hown5).mono (fun k h => h.2.1)
          clear hb5 HI4 hown5
          go_wp2_with fail
          refine ⟨k5.out, ?_⟩
          clear k5
          refine os_run rfl rfl (fun K hK => ?_)
          go_wp2_with fail
          refine (ChachaPlaces_any w5 countedL (List.replicate 12 0) x countedL_len rfl s5.out (by omega) ((q : Int) - 1) 1).mono ?_
          rintro e w6 ⟨rfl, hb6⟩
          have HI6 : Hid (SqB w6 24 gn 7 7 nvL ∧ Below w.heap.size w w6) := ⟨HI5.out.1.fr (Fr.of_below (M := NoB) hb6) id (by decide), HI5.out.2.trans (hb6.mono HI5.out.2.size)⟩
          have k6 : Hid (∀ i ∈ [6, 19], w5.cell? ⟨gn, k, none⟩ = some (.int .u32 (wv x)) → w6.cell? ⟨gn, k, none⟩ = some (.int .u32 (wv x))) := fun _ _ h => cell_fr h (Fr.of_below (M := NoB) hb6) id
          clear hb6 HI5 s5
          go_wp2_with fail
          refine ⟨k6.out, ?_⟩
          clear k6 hqs hqw
          refine os_moveg rfl rfl rfl (Nat.le_of_ble_eq_true rfl) ?_
          apply Exists.intro
          refine ⟨fun w' K hK => ?_, ?_⟩
          (focus
            go_simp
            exact hK)
          refine os_move rfl rfl rfl (Nat.le_of_ble_eq_true rfl) ?_
          apply Exists.intro
          refine ⟨fun w' K hK => ?_, ?_⟩
          (focus
            go_simp
            exact hK)
          refine os_done ⟨rfl, ?_⟩
          go_wp2_with fail
          go_roundw
          case rel => exact ⟨m + 1, by omega, by rw [show ((13 * (m + 1) : Nat) : Int) = (q : Int) + 13 by have := Hq.out; omega], HI6.out⟩
          case measure => simp [intOf]; omega
        · have hq : 13 * m = 130 := by omega
          rw [hq]
          have hqI : decide ((130 : Int) < 130) = false := by decide
          go_wp2_with fail
          go_roundw
          case rel => exact ⟨k + 1, by omega, by go_num, HI.out⟩
          case measure => simp [intOf]; omega
    · have hk7 : k = 7 := by omega
      subst hk7
      go_wp2_with fail
      refine (works_any wr).mono ?_
      rintro e w15 ⟨rfl, hb15⟩
      go_wp2_with fail
      go_ret
      exact ⟨rfl, HI.out.2.trans (hb15.mono HI.out.2.size)⟩
end Go.Proofs.Ytobbcnajmocpfaa
