/- RingNonces' walk. -/
import Derived.Test.YtglbhoamknjdeaaRg5
namespace Go.Proofs.Ytglbhoamknjdeaa
open Go.RowKit

theorem wrap_u64 (n : Int) : IntKind.u64.wrap n = n % 18446744073709551616 := by
  unfold IntKind.wrap; simp [IntKind.signed, IntKind.bits]
set_option maxRecDepth 100000 in
set_option maxHeartbeats 4000000 in
theorem RingNonces_any (w : World) (a : Int) (ha : (Lit.int .i64 a).wf = true) (b : Int) (hb : (Lit.int .i64 b).wf = true) :
    Calls Try.prog 4 #[.int .i64 a, .int .i64 b] w fun e w' => e = .returned (.bool true) ∧ Below w.heap.size w w' := by
  have Ha := Lib.hid (wf_i64 ha); have Hb := Lib.hid (wf_i64 hb)
  have uN := Lib.hid Try.underlying36
  obtain ⟨iN0, hiN0, zN0, _, _⟩ := info_parts Try.inNc
  have HiN0 := Lib.hid hiN0; have HzN0 := Lib.hid zN0
  clear hiN0 zN0
  have iA : Hid ((Try.prog.info? 36).map (·.size) = some (bs (nonceN a)).length) := by rw [bs_length, nonceN_len]; exact Try.szNc
  have iB : Hid ((Try.prog.info? 36).map (·.size) = some (bs (nonceN b)).length) := by rw [bs_length, nonceN_len]; exact Try.szNc
  go_enter Try.func4, Try.ntmps4
  go_wp2_with fail
  refine (Nonce_any w a ha).mono ?_
  rintro e w1 ⟨rfl, hb1⟩
  have B1 := Lib.hid hb1
  clear hb1
  go_wp2_with (first
    | ((with_reducible refine lst_alloc_d 5 rfl 36 rfl iN0 _ HiN0.out HzN0.out ?_ ?_)
       (focus rfl)
       intro g5 w2 Hg5 Hh5 hb2
       have B2 := Lib.hid (Below.tr B1.out hb2)
       have Hgl : Hid (w.heap.size ≤ g5 ∧ g5 < w2.heap.size) := by
         have := Hg5.out; have := B1.out.size
         show _ ∧ _
         omega
       have Hh5' : Hid (w2.heap[g5]? = some (.cells (bs (List.replicate 12 0)).toArray 36 (0, 0))) := Hh5
       clear hb2 Hg5 B1 Hh5)
    | ((with_reducible refine lst_store_abs 36 (.tmp 5) (.tmp 10) rfl g5 36 (bs (List.replicate 12 0)).toArray (bs (nonceN a)).toArray rfl rfl Hh5'.out (by simpa using iA.out) (by simp [bs_length, nonceN_len]) (by simp; exact bs_oneCell _) ?_ ?_)
       (focus rfl)
       intro w3 Hx3 hg3))
  have B3 := Lib.hid (B2.out.grown hg3 B2.out.size (fun j hj => by injection hj with hj; have := Hgl.out.1; omega))
  clear Hh5' hg3 B2 Hgl
  refine (Nonce_any w3 b hb).mono ?_
  rintro e w4 ⟨rfl, hb4⟩
  have B4 := Lib.hid (Below.tr B3.out hb4)
  have Hx4 := Lib.hid (heap_bel Hx3.out hb4)
  have Hx4l : Hid (g5 < w4.heap.size) := (Array.getElem?_eq_some_iff.1 Hx4.out).1
  clear hb4 B3 Hx3
  go_wp2_with (first
    | ((with_reducible refine lst_alloc_d 6 rfl 36 rfl iN0 _ HiN0.out HzN0.out ?_ ?_)
       (focus rfl)
       intro g6 w5 Hg6 Hh6 hb5
       have Hx5 := Lib.hid (heap_bel Hx4.out hb5)
       have Hgl : Hid (w.heap.size ≤ g6 ∧ g5 < g6) := by
         have := Hg6.out; have := B4.out.size; have := Hx4l.out
         show _ ∧ _
         omega
       have B5 := Lib.hid (Below.tr B4.out hb5)
       have Hh6' : Hid (w5.heap[g6]? = some (.cells (bs (List.replicate 12 0)).toArray 36 (0, 0))) := Hh6
       clear hb5 Hg6 B4 Hx4 Hx4l Hh6)
    | ((with_reducible refine lst_store_abs 36 (.tmp 6) (.tmp 12) rfl g6 36 (bs (List.replicate 12 0)).toArray (bs (nonceN b)).toArray rfl rfl Hh6'.out (by simpa using iB.out) (by simp [bs_length, nonceN_len]) (by simp; exact bs_oneCell _) ?_ ?_)
       (focus rfl)
       intro w6 Hy6 hg6))
  have B6 := Lib.hid (B5.out.grown hg6 B5.out.size (fun j hj => by injection hj with hj; have := Hgl.out.1; omega))
  have Hx6 := Lib.hid ((hg6.block g5 (Array.getElem?_eq_some_iff.1 Hx5.out).1 (by have := Hgl.out.2; simp; omega)).trans Hx5.out)
  clear Hh6' hg6 B5 Hgl Hx5
  obtain ⟨u, hu⟩ : ∃ u, u = uOf a := ⟨_, rfl⟩
  have Hu := Lib.hid hu
  have Hul : Hid (u < 18446744073709551616) := by rw [hu]; exact uOf_lt a
  clear hu
  go_loop [7, 8] (fun v i => ∃ k : Nat, 4 ≤ k ∧ k ≤ 12 ∧ i = .int .i64 (k : Nat) ∧ v = .int .u64 (valK u k : Nat)) (fun _ i => 12 - (intOf i).toNat)
  case atStart => exact ⟨4, by decide, by decide, rfl, by rw [valK_4 _ Hul.out]; rfl⟩
  case round =>
    obtain ⟨k, hk4, hk, rfl, rfl⟩ := hrel
    by_cases hlt : k < 12
    · have hkI : (k : Int) < 12 := by omega
      have hk0 : (0 : Int) ≤ (k : Int) := by omega
      have hvl := valK_le u k Hul.out hlt
      have hst := Lib.hid (valK_step u k hlt)
      obtain ⟨z, hz⟩ : ∃ z, z = (nonceN a)[k]'(by rw [nonceN_len]; exact hlt) := ⟨_, rfl⟩
      have hzv : z.toNat = u / 2 ^ (8 * (11 - k)) % 256 := by rw [hz, Hu.out]; exact byteK a k hk4 hlt
      have Hzv := Lib.hid hzv
      have hc : w6.cell? ⟨g5, k, none⟩ = some (.int .u8 (z.toNat : Int)) := by
        rw [cell_of_row w6 g5 k _ _ _ Hx6.out, List.getElem?_toArray, bs_get _ k (by rw [nonceN_len]; exact hlt), hz]; rfl
      clear hz hzv
      generalize hV : valK u k = V at hvl hst ⊢
      have hV0 : (0 : Int) ≤ (V : Int) := by omega
      have hVl : (V : Int) < 72057594037927936 := by omega
      have hz256 := z.toNat_lt
      have hzI : (z.toNat : Int) < 256 := by omega
      have hz0 : (0 : Int) ≤ (z.toNat : Int) := by omega
      have Hvl := Lib.hid hvl; have HV := Lib.hid hV
      clear hvl hV hz256
      go_wp2_with fail
      go_round
      case rel => exact ⟨k + 1, by omega, by omega, by go_num, by rw [hst.out, ← Hzv.out]; congr 1; omega⟩
      case measure => simp [intOf]; omega
    · have hk12 : k = 12 := by omega
      subst hk12
      rw [valK_12]
      have hci : ∀ (k : Nat), k < 4 → w6.cell? ⟨g5, k, none⟩ = some (.int .u8 0) := fun k hk => by
        rw [cell_of_row w6 g5 k _ _ _ Hx6.out, List.getElem?_toArray, bs_get _ k (by rw [nonceN_len]; omega), byte03 a k hk]; rfl
      have c0 := hci 0 (by decide); have c1 := hci 1 (by decide); have c2 := hci 2 (by decide); have c3 := hci 3 (by decide)
      have rx : Hid (w6.rangeAt g5 0 (bs (nonceN a))) := range_block Hx6.out
      have ry : Hid (w6.rangeAt g6 0 (bs (nonceN b))) := range_block Hy6.out
      have hue : IntKind.u64.wrap a = (u : Int) := by rw [wrap_u64, Hu.out]; unfold uOf; omega
      have hcmp := Lib.hid (nonce_inj Ha.out Hb.out)
      clear hci
      go_wp2_with (first
        | ((with_reducible refine lst_load_mid 36 (.tmp 5) rfl g5 0 rfl (bs (nonceN a)) _ rx.out uN.out rfl iA.out ?_ ?_)
           (focus rfl))
        | ((with_reducible refine lst_load_mid 36 (.tmp 6) rfl g6 0 rfl (bs (nonceN b)) _ ry.out uN.out rfl iB.out ?_ ?_)
           (focus rfl))
        | ((with_reducible refine lst_eql_arr 36 (.tmp 24) (.tmp 25) _ rfl 12 (nonceN a) (nonceN b) rfl rfl uN.out Try.eqGuardNc (nonceN_len a) (nonceN_len b) (a == b) hcmp.out ?_ ?_)
           (focus rfl))
        | (go_at_call 13; refine (known_any w6).mono ?_; rintro e w9 ⟨rfl, hb9⟩))
      go_ret
      exact ⟨rfl, Below.tr B6.out hb9⟩
end Go.Proofs.Ytglbhoamknjdeaa
