/- The disk: known. -/
import Derived.Test.YtjfnpndpigpaiaaDk14
namespace Go.Proofs.Ytjfnpndpigpaiaa
open Go.RowKit
attribute [local go_sem] yld yldUpon_value

theorem int_block (w : World) {l : List Int} (hl : ∀ x ∈ l, (Lit.int .i64 x).wf = true) : IntSl (w.alloc (.cells (l.map (Value.int .i64)).toArray 3)) (fun k => k = w.heap.size) (some ⟨w.heap.size, 0, none⟩) l.length l.length l :=
  ⟨rfl, Nat.le_refl _, hl, fun j hj => ⟨_, rfl, rfl, by rw [addr_add_zero, cell_of_row _ w.heap.size _ _ _ _ (heap_alloc_new w _)]; simp [hj]⟩⟩
set_option maxRecDepth 100000 in
set_option maxHeartbeats 8000000 in
theorem known_any (w : World) : Calls Try.prog 8 #[] w fun e w' => e = .returned (.bool true) ∧ Below w.heap.size w w' := by
  have q := q_const
  go_enter Try.func8, Try.ntmps8
  go_wp2_with fail
  refine (New_any w 10).mono ?_
  rintro e w1 ⟨g, vs0, rfl, h1, h2, h3, h4⟩
  have S0 : Hid (DS w w1 g kd0 vs0) := ⟨h1, kd_ok0, h4, h2⟩
  clear h1 h2 h3 h4
  go_wp2_with fail
  have C2 : Hid (Sl (w1.alloc (.cells #[.int .u8 97, .int .u8 98, .int .u8 99, .int .u8 100] 5 (4, 5))) (fun k => k = w1.heap.size) (some ⟨w1.heap.size, 0, none⟩) 4 4 [97, 98, 99, 100]) := const_sl w1 [97, 98, 99, 100] _ 4 rfl
  have S3 := Lib.hid (S0.out.old (Below.al w1 (.cells #[.int .u8 97, .int .u8 98, .int .u8 99, .int .u8 100] 5 (4, 5))))
  refine (Write_any S3.out.disk S3.out.ok (by rw [kd_done.1]; decide) 1 C2.out (fun k hk => ⟨by rw [hk]; simp, not_foot S0.out.disk (Nat.le_of_eq hk.symm)⟩) (by decide)).mono ?_
  rintro e w4 ⟨rfl, hst⟩
  rw [kd_e1]
  obtain ⟨vs5, s1, f1, k1⟩ := S3.out.step hst kd_ok1
  have S6 : Hid (DS w w4 g kd1 vs5) := s1
  clear hst f1 k1 s1 C2 S0 S3
  go_wp2_with fail
  refine (Sync_any S6.out.disk S6.out.ok (by rw [kd_done.2.1]; decide) 1).mono ?_
  rintro e w7 ⟨rfl, hst⟩
  rw [kd_e2]
  obtain ⟨vs8, s1, f1, k1⟩ := S6.out.step hst kd_ok2
  have S9 : Hid (DS w w7 g kd2 vs8) := s1
  clear hst f1 k1 s1 S6
  go_wp2_with fail
  have C10 : Hid (Sl (w7.alloc (.cells #[.int .u8 101, .int .u8 102, .int .u8 103] 5 (3, 4))) (fun k => k = w7.heap.size) (some ⟨w7.heap.size, 0, none⟩) 3 3 [101, 102, 103]) := const_sl w7 [101, 102, 103] _ 3 rfl
  have S11 := Lib.hid (S9.out.old (Below.al w7 (.cells #[.int .u8 101, .int .u8 102, .int .u8 103] 5 (3, 4))))
  refine (Write_any S11.out.disk S11.out.ok (by rw [kd_done.2.2.1]; decide) 1 C10.out (fun k hk => ⟨by rw [hk]; simp, not_foot S9.out.disk (Nat.le_of_eq hk.symm)⟩) (by decide)).mono ?_
  rintro e w12 ⟨rfl, hst⟩
  rw [kd_e3]
  obtain ⟨vs13, s1, f1, k1⟩ := S11.out.step hst kd_ok3
  have S14 : Hid (DS w w12 g kd3 vs13) := s1
  clear hst f1 k1 s1 C10 S9 S11
  go_wp2_with fail
  have C15 : Hid (Sl (w12.alloc (.cells #[.int .u8 104, .int .u8 105, .int .u8 106, .int .u8 107] 5 (4, 5))) (fun k => k = w12.heap.size) (some ⟨w12.heap.size, 0, none⟩) 4 4 [104, 105, 106, 107]) := const_sl w12 [104, 105, 106, 107] _ 4 rfl
  have S16 := Lib.hid (S14.out.old (Below.al w12 (.cells #[.int .u8 104, .int .u8 105, .int .u8 106, .int .u8 107] 5 (4, 5))))
  refine (Write_any S16.out.disk S16.out.ok (by rw [kd_done.2.2.2]; decide) 2 C15.out (fun k hk => ⟨by rw [hk]; simp, not_foot S14.out.disk (Nat.le_of_eq hk.symm)⟩) (by decide)).mono ?_
  rintro e w17 ⟨rfl, hst⟩
  rw [kd_e4]
  obtain ⟨vs18, s1, f1, k1⟩ := S16.out.step hst kd_ok4
  have S19 : Hid (DS w w17 g kd4 vs18) := s1
  clear hst f1 k1 s1 C15 S14 S16
  go_wp2_with fail
  have C21 : Hid (IntSl (w17.alloc (.cells #[.int .i64 1] 3)) (fun k => k = w17.heap.size) (some ⟨w17.heap.size, 0, none⟩) 1 1 [1]) := int_block w17 (l := [1]) (by decide)
  have S22 := Lib.hid (S19.out.old (Below.al w17 (.cells #[.int .i64 1] 3)))
  refine (Crash_any S22.out.disk S22.out.ok C21.out (fun k hk => ⟨by rw [hk]; simp, not_foot S19.out.disk (Nat.le_of_eq hk.symm)⟩) (by decide)).mono ?_
  rintro e w20 ⟨rfl, hst⟩
  obtain ⟨vs23, s1, f1, k1⟩ := S22.out.step hst kd_ok5
  have S24 : Hid (DS w w20 g kd5 vs23) := s1
  clear hst f1 k1 s1 C21 S19 S22
  go_wp2_with fail
  refine (Read_any S24.out.disk S24.out.ok 1).mono ?_
  rintro e w25 ⟨A', n', c', rfl, hown, hb⟩
  rw [kd_read] at hown
  obtain rfl : n' = 5 := by have := hown.1; simpa [bs] using this.symm
  have R26 := Lib.hid (Sl.of_own hown)
  have S27 := Lib.hid (S24.out.old hb)
  clear hown hb S24
  go_wp2_with fail
  have C28 : Hid (Sl (w25.alloc (.cells #[.int .u8 97, .int .u8 98, .int .u8 99, .int .u8 100, .int .u8 101] 5 (5, 6))) (fun k => k = w25.heap.size) (some ⟨w25.heap.size, 0, none⟩) 5 5 [97, 98, 99, 100, 101]) := const_sl w25 [97, 98, 99, 100, 101] _ 5 rfl
  have S29 := Lib.hid (S27.out.old (Below.al w25 (.cells #[.int .u8 97, .int .u8 98, .int .u8 99, .int .u8 100, .int .u8 101] 5 (5, 6))))
  refine (Same_at (R26.out.belF (Below.al w25 _) (fun k hk => hk.2.1)) C28.out (by decide) (by decide) true (by decide)).mono ?_
  rintro e w' ⟨rfl, kk, rfl⟩
  have S31 := Lib.hid (S29.out.old (Below.drN _ kk))
  generalize (w25.alloc (.cells #[.int .u8 97, .int .u8 98, .int .u8 99, .int .u8 100, .int .u8 101] 5 (5, 6))).drewN kk = w32 at S31 ⊢
  clear R26 C28 S27 S29
  go_wp2_with fail
  refine (Used_any S31.out.disk (by rw [kd_used]; decide)).mono ?_
  rintro e w' ⟨rfl, rfl⟩
  rw [kd_used]
  go_wp2_with fail
  refine (Count_any S31.out.disk).mono ?_
  rintro e w' ⟨rfl, rfl⟩
  rw [kd_count]
  go_wp2_with fail
  go_ret
  exact ⟨rfl, S31.out.bel⟩
end Go.Proofs.Ytjfnpndpigpaiaa
