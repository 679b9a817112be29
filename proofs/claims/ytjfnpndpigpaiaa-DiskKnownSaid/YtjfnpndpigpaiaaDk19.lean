/- DiskKnown's walk. -/
import Derived.Test.YtjfnpndpigpaiaaDk18
namespace Go.Proofs.Ytjfnpndpigpaiaa
open Go.RowKit
attribute [local go_sem] yld yldUpon_value

set_option maxRecDepth 100000 in
set_option maxHeartbeats 16000000 in
theorem DiskKnown_any (w : World) : Calls Try.prog 7 #[] w fun e w' => e = .returned (.bool true) ∧ Below w.heap.size w w' := by
  have q := q_const
  go_enter Try.func7, Try.ntmps7
  go_wp2_with fail
  refine (New_any w 10).mono ?_
  rintro e w1 ⟨g, vs0, rfl, h1, h2, h3, h4⟩
  have S0 : Hid (DS w w1 g dk0 vs0) := ⟨h1, dk_ok0, h4, h2⟩
  clear h1 h2 h3 h4
  go_wp2_with fail
  have C2 : Hid (Sl (w1.alloc (.cells #[.int .u8 97, .int .u8 98, .int .u8 99, .int .u8 100] 5 (4, 5))) (fun k => k = w1.heap.size) (some ⟨w1.heap.size, 0, none⟩) 4 4 [97, 98, 99, 100]) := const_sl w1 [97, 98, 99, 100] _ 4 rfl
  have S3 := Lib.hid (S0.out.old (Below.al w1 (.cells #[.int .u8 97, .int .u8 98, .int .u8 99, .int .u8 100] 5 (4, 5))))
  refine (Write_any S3.out.disk S3.out.ok (dk_n0) 1 C2.out (fun k hk => ⟨by rw [hk]; simp, not_foot S0.out.disk (Nat.le_of_eq hk.symm)⟩) (by decide)).mono ?_
  rintro e w4 ⟨rfl, hst⟩
  rw [dk_e1]
  obtain ⟨vs5, s1, f1, k1⟩ := S3.out.step hst dk_ok1
  have S6 : Hid (DS w w4 g dk1 vs5) := s1
  clear hst f1 k1 s1 C2 S0 S3
  go_wp2_with fail
  refine (Sync_any S6.out.disk S6.out.ok (dk_n1) 1).mono ?_
  rintro e w7 ⟨rfl, hst⟩
  rw [dk_e2]
  obtain ⟨vs8, s1, f1, k1⟩ := S6.out.step hst dk_ok2
  have S9 : Hid (DS w w7 g dk2 vs8) := s1
  clear hst f1 k1 s1 S6
  go_wp2_with fail
  have C10 : Hid (Sl (w7.alloc (.cells #[.int .u8 101, .int .u8 102, .int .u8 103] 5 (3, 4))) (fun k => k = w7.heap.size) (some ⟨w7.heap.size, 0, none⟩) 3 3 [101, 102, 103]) := const_sl w7 [101, 102, 103] _ 3 rfl
  have S11 := Lib.hid (S9.out.old (Below.al w7 (.cells #[.int .u8 101, .int .u8 102, .int .u8 103] 5 (3, 4))))
  refine (Write_any S11.out.disk S11.out.ok (dk_n2) 1 C10.out (fun k hk => ⟨by rw [hk]; simp, not_foot S9.out.disk (Nat.le_of_eq hk.symm)⟩) (by decide)).mono ?_
  rintro e w12 ⟨rfl, hst⟩
  rw [dk_e3]
  obtain ⟨vs13, s1, f1, k1⟩ := S11.out.step hst dk_ok3
  have S14 : Hid (DS w w12 g dk3 vs13) := s1
  clear hst f1 k1 s1 C10 S9 S11
  go_wp2_with fail
  refine (Used_any S14.out.disk (by rw [dk_u3]; decide)).mono ?_
  rintro e w' ⟨rfl, rfl⟩
  rw [dk_u3]
  go_wp2_with fail
  have C16 : Hid (IntSl (w12.alloc (.cells #[.int .i64 2] 3)) (fun k => k = w12.heap.size) (some ⟨w12.heap.size, 0, none⟩) 1 1 [2]) := int_block w12 (l := [2]) (by decide)
  have S17 := Lib.hid (S14.out.old (Below.al w12 (.cells #[.int .i64 2] 3)))
  refine (Crash_any S17.out.disk S17.out.ok C16.out (fun k hk => ⟨by rw [hk]; simp, not_foot S14.out.disk (Nat.le_of_eq hk.symm)⟩) (by decide)).mono ?_
  rintro e w15 ⟨rfl, hst⟩
  obtain ⟨vs18, s1, f1, k1⟩ := S17.out.step hst dk_ok4
  have S19 : Hid (DS w w15 g dk4 vs18) := s1
  clear hst f1 k1 s1 C16 S14 S17
  go_wp2_with fail
  have C21 : Hid (Sl (w15.alloc (.cells #[.int .u8 88, .int .u8 89] 5 (2, 3))) (fun k => k = w15.heap.size) (some ⟨w15.heap.size, 0, none⟩) 2 2 [88, 89]) := const_sl w15 [88, 89] _ 2 rfl
  have S22 := Lib.hid (S19.out.old (Below.al w15 (.cells #[.int .u8 88, .int .u8 89] 5 (2, 3))))
  refine (Over_any S22.out.disk S22.out.ok (dk_n4) 1 1 C21.out (fun k hk => ⟨by rw [hk]; simp, not_foot S19.out.disk (Nat.le_of_eq hk.symm)⟩) (by decide)).mono ?_
  rintro e w20 ⟨rfl, hst⟩
  rw [dk_e5]
  obtain ⟨vs23, s1, f1, k1⟩ := S22.out.step hst dk_ok5
  have S24 : Hid (DS w w20 g dk5 vs23) := s1
  clear hst f1 k1 s1 C21 S19 S22
  go_wp2_with fail
  have C26 : Hid (Sl (w20.alloc (.cells #[.int .u8 88, .int .u8 89] 5 (2, 3))) (fun k => k = w20.heap.size) (some ⟨w20.heap.size, 0, none⟩) 2 2 [88, 89]) := const_sl w20 [88, 89] _ 2 rfl
  have S27 := Lib.hid (S24.out.old (Below.al w20 (.cells #[.int .u8 88, .int .u8 89] 5 (2, 3))))
  refine (Over_any S27.out.disk S27.out.ok (dk_n5) 1 5 C26.out (fun k hk => ⟨by rw [hk]; simp, not_foot S24.out.disk (Nat.le_of_eq hk.symm)⟩) (by decide)).mono ?_
  rintro e w25 ⟨rfl, hst⟩
  rw [dk_e6]
  obtain ⟨vs28, s1, f1, k1⟩ := S27.out.step hst dk_ok6
  have S29 : Hid (DS w w25 g dk6 vs28) := s1
  clear hst f1 k1 s1 C26 S24 S27
  go_wp2_with fail
  refine (Read_any S29.out.disk S29.out.ok 1).mono ?_
  rintro e w30 ⟨A', n', c', rfl, hown, hb⟩
  rw [dk_r6] at hown
  obtain rfl : n' = 6 := by have := hown.1; simpa [bs] using this.symm
  have R31 := Lib.hid (Sl.of_own hown)
  have S32 := Lib.hid (S29.out.old hb)
  clear hown hb S29
  go_wp2_with fail
  have C33 : Hid (Sl (w30.alloc (.cells #[.int .u8 97, .int .u8 88, .int .u8 89, .int .u8 100, .int .u8 101, .int .u8 102] 5 (6, 7))) (fun k => k = w30.heap.size) (some ⟨w30.heap.size, 0, none⟩) 6 6 [97, 88, 89, 100, 101, 102]) := const_sl w30 [97, 88, 89, 100, 101, 102] _ 6 rfl
  have S34 := Lib.hid (S32.out.old (Below.al w30 (.cells #[.int .u8 97, .int .u8 88, .int .u8 89, .int .u8 100, .int .u8 101, .int .u8 102] 5 (6, 7))))
  refine (Same_at (R31.out.belF (Below.al w30 _) (fun k hk => hk.2.1)) C33.out (by decide) (by decide) true (by decide)).mono ?_
  rintro e w' ⟨rfl, kk, rfl⟩
  have S36 := Lib.hid (S34.out.old (Below.drN _ kk))
  generalize (w30.alloc (.cells #[.int .u8 97, .int .u8 88, .int .u8 89, .int .u8 100, .int .u8 101, .int .u8 102] 5 (6, 7))).drewN kk = w37 at S36 ⊢
  clear R31 C33 S32 S34
  go_wp2_with fail
  refine (Arm_any S36.out.disk 1).mono ?_
  rintro e w38 ⟨rfl, hst⟩
  obtain ⟨vs39, s1, f1, k1⟩ := S36.out.step hst dk_ok7
  have S40 : Hid (DS w w38 g dk7 vs39) := s1
  clear hst f1 k1 s1 S36
  go_wp2_with fail
  refine (Cut_any S40.out.disk S40.out.ok (dk_n7) 1 4).mono ?_
  rintro e w41 ⟨rfl, hst⟩
  rw [dk_e8]
  obtain ⟨vs42, s1, f1, k1⟩ := S40.out.step hst dk_ok8
  have S43 : Hid (DS w w41 g dk8 vs42) := s1
  clear hst f1 k1 s1 S40
  go_wp2_with fail
  have C44 : Hid (Sl (w41.alloc (.cells #[.int .u8 122] 5 (1, 2))) (fun k => k = w41.heap.size) (some ⟨w41.heap.size, 0, none⟩) 1 1 [122]) := const_sl w41 [122] _ 1 rfl
  have S45 := Lib.hid (S43.out.old (Below.al w41 (.cells #[.int .u8 122] 5 (1, 2))))
  refine (Write_any S45.out.disk S45.out.ok (dk_n8) 1 C44.out (fun k hk => ⟨by rw [hk]; simp, not_foot S43.out.disk (Nat.le_of_eq hk.symm)⟩) (by decide)).mono ?_
  rintro e w46 ⟨rfl, hst⟩
  rw [dk_e9]
  obtain ⟨vs47, s1, f1, k1⟩ := S45.out.step hst dk_ok9
  have S48 : Hid (DS w w46 g dk9 vs47) := s1
  clear hst f1 k1 s1 C44 S43 S45
  go_wp2_with fail
  refine (Sync_any S48.out.disk S48.out.ok (dk_n9) 1).mono ?_
  rintro e w49 ⟨rfl, hst⟩
  rw [dk_e10]
  obtain ⟨vs50, s1, f1, k1⟩ := S48.out.step hst dk_ok10
  have S51 : Hid (DS w w49 g dk10 vs50) := s1
  clear hst f1 k1 s1 S48
  go_wp2_with fail
  refine (Down_any S51.out.disk).mono ?_
  rintro e w' ⟨rfl, rfl⟩
  rw [dk_o10]
  go_wp2_with fail
  have C53 : Hid (IntSl (w49.alloc (.cells #[.int .i64 1] 3)) (fun k => k = w49.heap.size) (some ⟨w49.heap.size, 0, none⟩) 1 1 [1]) := int_block w49 (l := [1]) (by decide)
  have S54 := Lib.hid (S51.out.old (Below.al w49 (.cells #[.int .i64 1] 3)))
  refine (Crash_any S54.out.disk S54.out.ok C53.out (fun k hk => ⟨by rw [hk]; simp, not_foot S51.out.disk (Nat.le_of_eq hk.symm)⟩) (by decide)).mono ?_
  rintro e w52 ⟨rfl, hst⟩
  obtain ⟨vs55, s1, f1, k1⟩ := S54.out.step hst dk_ok11
  have S56 : Hid (DS w w52 g dk11 vs55) := s1
  clear hst f1 k1 s1 C53 S51 S54
  go_wp2_with fail
  refine (Read_any S56.out.disk S56.out.ok 1).mono ?_
  rintro e w57 ⟨A', n', c', rfl, hown, hb⟩
  rw [dk_r11] at hown
  obtain rfl : n' = 5 := by have := hown.1; simpa [bs] using this.symm
  have R58 := Lib.hid (Sl.of_own hown)
  have S59 := Lib.hid (S56.out.old hb)
  clear hown hb S56
  go_wp2_with fail
  have C60 : Hid (Sl (w57.alloc (.cells #[.int .u8 97, .int .u8 88, .int .u8 89, .int .u8 100, .int .u8 122] 5 (5, 6))) (fun k => k = w57.heap.size) (some ⟨w57.heap.size, 0, none⟩) 5 5 [97, 88, 89, 100, 122]) := const_sl w57 [97, 88, 89, 100, 122] _ 5 rfl
  have S61 := Lib.hid (S59.out.old (Below.al w57 (.cells #[.int .u8 97, .int .u8 88, .int .u8 89, .int .u8 100, .int .u8 122] 5 (5, 6))))
  refine (Same_at (R58.out.belF (Below.al w57 _) (fun k hk => hk.2.1)) C60.out (by decide) (by decide) true (by decide)).mono ?_
  rintro e w' ⟨rfl, kk, rfl⟩
  have S63 := Lib.hid (S61.out.old (Below.drN _ kk))
  generalize (w57.alloc (.cells #[.int .u8 97, .int .u8 88, .int .u8 89, .int .u8 100, .int .u8 122] 5 (5, 6))).drewN kk = w64 at S63 ⊢
  clear R58 C60 S59 S61
  go_wp2_with fail
  refine (Count_any S63.out.disk).mono ?_
  rintro e w' ⟨rfl, rfl⟩
  rw [dk_c11]
  go_wp2_with fail
  have I0 : Hid (IntSl (w64.alloc (.cells #[.int .i64 (-9223372036854775808), .int .i64 (-1), .int .i64 33, .int .i64 9223372036854775807] 3)) (fun k => k = w64.heap.size) (some ⟨w64.heap.size, 0, none⟩) 4 4 oddF) := int_block w64 (l := oddF) (by decide)
  have SL := Lib.hid (S63.out.old (Below.al w64 (.cells #[.int .i64 (-9223372036854775808), .int .i64 (-1), .int .i64 33, .int .i64 9223372036854775807] 3)))
  have nf := not_foot S63.out.disk (Nat.le_refl w64.heap.size)
  generalize w64.alloc (.cells #[.int .i64 (-9223372036854775808), .int .i64 (-1), .int .i64 33, .int .i64 9223372036854775807] 3) = wl at I0 SL ⊢
  obtain ⟨bf, hbf⟩ : ∃ bf, bf = w64.heap.size := ⟨_, rfl⟩
  rw [← hbf] at I0 nf ⊢
  have NF := Lib.hid nf
  clear hbf nf S63 q
  go_loopw [8] (fun i wr => ∃ (k : Nat) (v : Vs), k ≤ 4 ∧ i = .int .i64 (k : Nat) ∧ Hid (DS w wr g dk11 v ∧ IntSl wr (fun j => j = bf) (some ⟨bf, 0, none⟩) 4 4 oddF ∧ ¬ dfoot g v bf)) (fun i _ => 4 - (intOf i).toNat)
  case atStart => exact ⟨0, _, Nat.zero_le _, rfl, SL.out, I0.out, NF.out⟩
  case round =>
    clear SL I0 NF
    obtain ⟨k, v0, hk, rfl, HI⟩ := hrel
    by_cases hlt : k < 4
    · have hlI : (k : Int) < 4 := by omega
      have hk0 : (0 : Int) ≤ (k : Int) := by omega
      obtain ⟨x, hx, hxo⟩ := odd_at k hlt
      have C0 : Hid (wr.cell? ⟨bf, k, none⟩ = some (.int .i64 x)) := odd_cell HI.out.2.1 hlt hx
      have R0 := Lib.hid HI.out.1
      have N0 := Lib.hid HI.out.2.2
      have HX := Lib.hid (inval dk_calm hxo)
      have IS0 := Lib.hid HI.out.2.1
      clear HI hxo
      have cf0 := C0.out
      go_wp2_with fail
      refine (Write_any R0.out.disk R0.out.ok dk_n11 x (Sl.nil_ _ (fun _ => False)) (fun k hk => hk.elim) (by decide)).mono ?_
      rintro e wq1 ⟨rfl, hst⟩
      rw [HX.out.1]
      rw [HX.out.1] at hst
      obtain ⟨v1, s1, f1, k1⟩ := R0.out.step hst dk_ok11
      have R1 := Lib.hid s1
      have N1 : Hid (¬ dfoot g v1 bf) := fun h => (k1 _ h).elim N0.out (fun h2 => by have := block_lt_of C0.out; have h3 : wr.heap.size ≤ bf := h2; have h4 : bf < wr.heap.size := this; omega)
      have C1 := Lib.hid (cell_fr C0.out f1 N0.out)
      have IS1 := Lib.hid (IS0.out.fr f1 (fun k hk => ⟨by rw [hk]; exact block_lt_of C0.out, by rw [hk]; exact N0.out⟩))
      have cf1 := C1.out
      clear hst f1 k1 s1 cf0 R0 N0 C0 IS0
      go_wp2_with fail
      refine (Sync_any R1.out.disk R1.out.ok dk_n11 x).mono ?_
      rintro e wq2 ⟨rfl, hst⟩
      rw [HX.out.2.1]
      rw [HX.out.2.1] at hst
      obtain ⟨v2, s1, f1, k1⟩ := R1.out.step hst dk_ok11
      have R2 := Lib.hid s1
      have N2 : Hid (¬ dfoot g v2 bf) := fun h => (k1 _ h).elim N1.out (fun h2 => by have := block_lt_of C1.out; have h3 : wq1.heap.size ≤ bf := h2; have h4 : bf < wq1.heap.size := this; omega)
      have C2 := Lib.hid (cell_fr C1.out f1 N1.out)
      have IS2 := Lib.hid (IS1.out.fr f1 (fun k hk => ⟨by rw [hk]; exact block_lt_of C1.out, by rw [hk]; exact N1.out⟩))
      have cf2 := C2.out
      clear hst f1 k1 s1 cf1 R1 N1 C1 IS1
      go_wp2_with fail
      refine (Cut_any R2.out.disk R2.out.ok dk_n11 x 0).mono ?_
      rintro e wq3 ⟨rfl, hst⟩
      rw [HX.out.2.2.1]
      rw [HX.out.2.2.1] at hst
      obtain ⟨v3, s1, f1, k1⟩ := R2.out.step hst dk_ok11
      have R3 := Lib.hid s1
      have N3 : Hid (¬ dfoot g v3 bf) := fun h => (k1 _ h).elim N2.out (fun h2 => by have := block_lt_of C2.out; have h3 : wq2.heap.size ≤ bf := h2; have h4 : bf < wq2.heap.size := this; omega)
      have C3 := Lib.hid (cell_fr C2.out f1 N2.out)
      have IS3 := Lib.hid (IS2.out.fr f1 (fun k hk => ⟨by rw [hk]; exact block_lt_of C2.out, by rw [hk]; exact N2.out⟩))
      have cf3 := C3.out
      clear hst f1 k1 s1 cf2 R2 N2 C2 IS2
      go_wp2_with fail
      refine (Over_any R3.out.disk R3.out.ok dk_n11 x 0 (Sl.nil_ _ (fun _ => False)) (fun k hk => hk.elim) (by decide)).mono ?_
      rintro e wq4 ⟨rfl, hst⟩
      rw [HX.out.2.2.2.1]
      rw [HX.out.2.2.2.1] at hst
      obtain ⟨v4, s1, f1, k1⟩ := R3.out.step hst dk_ok11
      have R4 := Lib.hid s1
      have N4 : Hid (¬ dfoot g v4 bf) := fun h => (k1 _ h).elim N3.out (fun h2 => by have := block_lt_of C3.out; have h3 : wq3.heap.size ≤ bf := h2; have h4 : bf < wq3.heap.size := this; omega)
      have C4 := Lib.hid (cell_fr C3.out f1 N3.out)
      have IS4 := Lib.hid (IS3.out.fr f1 (fun k hk => ⟨by rw [hk]; exact block_lt_of C3.out, by rw [hk]; exact N3.out⟩))
      have cf4 := C4.out
      clear hst f1 k1 s1 cf3 R3 N3 C3 IS3
      go_wp2_with fail
      refine (Read_any R4.out.disk R4.out.ok x).mono ?_
      rintro e w5 ⟨A', n', c', rfl, hown, hb⟩
      rw [HX.out.2.2.2.2] at hown
      obtain rfl : n' = 0 := by have := hown.1; simpa [bs] using this.symm
      have R5 := Lib.hid (R4.out.old hb)
      have IS5 := Lib.hid (IS4.out.fr (Fr.of_below (M := NoB) hb) (fun k hk => ⟨by rw [hk]; exact block_lt_of C4.out, id⟩))
      clear hown hb cf4 R4 IS4
      go_wp2_with fail
      go_roundw
      case rel => exact ⟨k + 1, v4, by omega, by go_num, R5.out, IS5.out, N4.out⟩
      case measure => simp [intOf]; omega
    · have hk4 : k = 4 := by omega
      subst hk4
      have SE := Lib.hid HI.out.1
      clear HI hlt hk
      go_wp2_with fail
      refine (Write_any SE.out.disk SE.out.ok (dk_n11) 32 (Sl.nil_ _ (fun _ => False)) (fun k hk => hk.elim) (by decide)).mono ?_
      rintro e w65 ⟨rfl, hst⟩
      rw [dk_e12]
      obtain ⟨vs66, s1, f1, k1⟩ := SE.out.step hst dk_ok12
      have S67 : Hid (DS w w65 g dk12 vs66) := s1
      clear hst f1 k1 s1 SE
      go_wp2_with fail
      refine (Cut_any S67.out.disk S67.out.ok (dk_n12) 1 6).mono ?_
      rintro e w68 ⟨rfl, hst⟩
      rw [dk_e13]
      obtain ⟨vs69, s1, f1, k1⟩ := S67.out.step hst dk_ok13
      have S70 : Hid (DS w w68 g dk13 vs69) := s1
      clear hst f1 k1 s1 S67
      go_wp2_with fail
      refine (Cut_any S70.out.disk S70.out.ok (dk_n13) 1 (-1)).mono ?_
      rintro e w71 ⟨rfl, hst⟩
      rw [dk_e14]
      obtain ⟨vs72, s1, f1, k1⟩ := S70.out.step hst dk_ok14
      have S73 : Hid (DS w w71 g dk14 vs72) := s1
      clear hst f1 k1 s1 S70
      go_wp2_with fail
      refine (Cut_any S73.out.disk S73.out.ok (dk_n14) 1 5).mono ?_
      rintro e w74 ⟨rfl, hst⟩
      rw [dk_e15]
      obtain ⟨vs75, s1, f1, k1⟩ := S73.out.step hst dk_ok15
      have S76 : Hid (DS w w74 g dk15 vs75) := s1
      clear hst f1 k1 s1 S73
      go_wp2_with fail
      refine (Over_any S76.out.disk S76.out.ok (dk_n15) 1 5 (Sl.nil_ _ (fun _ => False)) (fun k hk => hk.elim) (by decide)).mono ?_
      rintro e w77 ⟨rfl, hst⟩
      rw [dk_e16]
      obtain ⟨vs78, s1, f1, k1⟩ := S76.out.step hst dk_ok16
      have S79 : Hid (DS w w77 g dk16 vs78) := s1
      clear hst f1 k1 s1 S76
      go_wp2_with fail
      refine (Over_any S79.out.disk S79.out.ok (dk_n16) 1 6 (Sl.nil_ _ (fun _ => False)) (fun k hk => hk.elim) (by decide)).mono ?_
      rintro e w80 ⟨rfl, hst⟩
      rw [dk_e17]
      obtain ⟨vs81, s1, f1, k1⟩ := S79.out.step hst dk_ok17
      have S82 : Hid (DS w w80 g dk17 vs81) := s1
      clear hst f1 k1 s1 S79
      go_wp2_with fail
      refine (Over_any S82.out.disk S82.out.ok (dk_n17) 1 (-9223372036854775808) (Sl.nil_ _ (fun _ => False)) (fun k hk => hk.elim) (by decide)).mono ?_
      rintro e w83 ⟨rfl, hst⟩
      rw [dk_e18]
      obtain ⟨vs84, s1, f1, k1⟩ := S82.out.step hst dk_ok18
      have S85 : Hid (DS w w83 g dk18 vs84) := s1
      clear hst f1 k1 s1 S82
      go_wp2_with fail
      refine (Over_any S85.out.disk S85.out.ok (dk_n18) 1 9223372036854775807 (Sl.nil_ _ (fun _ => False)) (fun k hk => hk.elim) (by decide)).mono ?_
      rintro e w86 ⟨rfl, hst⟩
      rw [dk_e19]
      obtain ⟨vs87, s1, f1, k1⟩ := S85.out.step hst dk_ok19
      have S88 : Hid (DS w w86 g dk19 vs87) := s1
      clear hst f1 k1 s1 S85
      go_wp2_with fail
      refine (Arm_any S88.out.disk 0).mono ?_
      rintro e w89 ⟨rfl, hst⟩
      obtain ⟨vs90, s1, f1, k1⟩ := S88.out.step hst dk_ok20
      have S91 : Hid (DS w w89 g dk20 vs90) := s1
      clear hst f1 k1 s1 S88
      go_wp2_with fail
      refine (Arm_any S91.out.disk (-9223372036854775808)).mono ?_
      rintro e w92 ⟨rfl, hst⟩
      obtain ⟨vs93, s1, f1, k1⟩ := S91.out.step hst dk_ok21
      have S94 : Hid (DS w w92 g dk21 vs93) := s1
      clear hst f1 k1 s1 S91
      go_wp2_with fail
      refine (Sync_any S94.out.disk S94.out.ok (dk_n21) 1).mono ?_
      rintro e w95 ⟨rfl, hst⟩
      rw [dk_e22]
      obtain ⟨vs96, s1, f1, k1⟩ := S94.out.step hst dk_ok22
      have S97 : Hid (DS w w95 g dk22 vs96) := s1
      clear hst f1 k1 s1 S94
      go_wp2_with fail
      refine (New_any _ (-5)).mono ?_
      rintro e wa ⟨ga, va, rfl, d1, d2, _, _⟩
      have Na := Lib.hid d1
      have Sa := Lib.hid (S97.out.old d2)
      clear d1 d2 S97
      go_wp2_with fail
      refine (Room_any Na.out).mono ?_
      rintro e w' ⟨rfl, rfl⟩
      rw [dk_new_a]
      clear Na
      go_wp2_with fail
      refine (New_any _ 1099511627776).mono ?_
      rintro e wb ⟨gb, vb, rfl, d1, d2, _, _⟩
      have Nb := Lib.hid d1
      have Sb := Lib.hid (Sa.out.old d2)
      clear d1 d2 Sa
      go_wp2_with fail
      refine (Room_any Nb.out).mono ?_
      rintro e w' ⟨rfl, rfl⟩
      rw [dk_new_b]
      clear Nb
      go_wp2_with fail
      refine (known_any _).mono ?_
      rintro e wz ⟨rfl, hbz⟩
      have BZ := Lib.hid (Below.tr Sb.out.bel hbz)
      clear hbz Sb
      go_wp2_with fail
      go_ret
      exact ⟨rfl, BZ.out⟩
end Go.Proofs.Ytjfnpndpigpaiaa
