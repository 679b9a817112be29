/- works. -/
import Derived.Test.YtmdnlgfngpgfnaaDoorFr5
import Derived.Lib.SlBytesConst
namespace Go.Proofs.YtmdnlgfngpgfnaaDoor
open Go.RowKit

set_option maxRecDepth 100000 in
set_option maxHeartbeats 2000000 in
theorem works_any (w : World) (hS : Steps w) : Calls Tryd.prog 11 #[] w fun e w' => e = .returned (.bool true) ∧ Below w.heap.size w w' := by
  have HS := Lib.hid hS
  clear hS
  go_enter Tryd.func11, Tryd.ntmps11
  go_wp2_with fail
  have hb1 : Below w.heap.size w (w.alloc (.cells #[.int .u8 1, .int .u8 2] 5)) := (Below.refl _ _).alloc (Nat.le_refl _) _
  have s1 := Sl.of_block (l := [1, 2]) (heap_alloc_new w (.cells #[.int .u8 1, .int .u8 2] 5)) rfl 2 rfl
  refine (Put_any (HS.out.below hb1 HS.out.pos) 3 s1 (fun k hk => by subst hk; simp) (by omega)).mono ?_
  rintro e w1 ⟨A1, n1, c1, rfl, hown1, hb1'⟩
  have Hb1 : Hid (Below w.heap.size w w1) := hb1.trans (hb1'.mono (by simp))
  have Ho1 : Hid (w1.ownsRow w.heap.size 5 1 (.slice A1 n1 c1) n1 (bs [3, 0, 0, 0, 2, 1, 2, 88, 21, 65, 224])) := by
    have e : putB 3 [1, 2] = [3, 0, 0, 0, 2, 1, 2, 88, 21, 65, 224] := by decide +kernel
    rw [e] at hown1
    exact own_mono hown1 (by simp)
  have hn1 : n1 = 11 := by have := Ho1.out.1; simpa [bs] using this.symm
  subst hn1
  clear hb1 hb1' hown1 s1
  have s2 := Lib.hid (Sl.of_own Ho1.out)
  have hg : Hid (getP [3, 0, 0, 0, 2, 1, 2, 88, 21, 65, 224, 9] = ⟨0, 3, [1, 2], 11⟩) := by show _ = _; kernel_rfl
  have hcrc : Hid (crc [49, 50, 51, 52, 53, 54, 55, 56, 57] = 0xCBF43926#32) := by show _ = _; decide +kernel
  have hz1 := Hb1.out.size
  have hp0 : putE 3 2 = 0 := rfl
  go_wp2_with (first
    | (go_at_call 21
       (with_reducible refine (CopyBytes_sl s2.out (fun k hk => hk.2.1) (by omega)).mono ?_)
       rintro e w2 ⟨A2, c2, rfl, hown2, hb2⟩
       have Hb2 := Lib.hid hb2
       have hz2 := hb2.size
       clear hb2)
    | (at_builtin
       (refine append_bytes rfl (.tmp 13) (.tmp 14) rfl w1.heap.size A2 11 c2 _ rfl (hown2.alloc _) (some ⟨w2.heap.size, 0, none⟩) 1 1 [9] rfl rfl (by exact rd_one w2 (k := 9) (by omega)) (by omega) (by simp; omega) ?_)
       intro A3 c3 w3 hown3 hg3 hat3
       have hb3 : Hid (Below w1.heap.size w1 w3) := (Hb2.out.alloc hz2 _).grown hg3 (by simp; omega) (fun j hj => (hown2.lt j hj).1)
       have hz3 := hb3.out.size
       have hown3' : w3.ownsRow w1.heap.size 5 1 (.slice A3 12 c3) 12 (bs [3, 0, 0, 0, 2, 1, 2, 88, 21, 65, 224, 9]) := hown3)
    | (go_at_call 20
       (with_reducible refine (Get_any ((HS.out.below Hb1.out HS.out.pos).below hb3.out (by have := HS.out.pos; omega)) (Sl.of_own hown3') (fun k hk => hk.2.1) (by omega) _ hg.out).mono ?_)
       rintro e w4 ⟨A4, n4, c4, rfl, hown4, hb4⟩
       have Hb4 : Hid (Below w.heap.size w w4) := (Hb1.out.trans (hb3.out.mono hz1)).trans (hb4.mono (by omega))
       have hz4 := Hb4.out.size
       have hn4 : n4 = 2 := by have := hown4.1; simpa [bs] using this.symm
       subst hn4
       have Ho4 := Lib.hid hown4
       clear hown4 hb4 hown3 hg3 hat3 hown2
       have q22 := Lib.run_convert_bytes_const (P := Tryd.prog) (w4.alloc (.cells #[.int .i64 3, .slice A4 2 c4] 34)) 22 5 #[.int .u8 49, .int .u8 50, .int .u8 51, .int .u8 52, .int .u8 53, .int .u8 54, .int .u8 55, .int .u8 56, .int .u8 57] 9 9 Tryd.underlying22 Tryd.underlying5
       have hsz4 : (w4.alloc (.cells #[.int .i64 3, .slice A4 2 c4] 34)).heap.size = w4.heap.size + 1 := by simp
       rw [hsz4] at q22
       clear hsz4
       unfold gotV))
  clear q22
  have hb5 : Hid (Below w4.heap.size w4 ((w4.alloc (.cells #[.int .i64 3, .slice A4 2 c4] 34)).alloc (.cells #[.int .u8 49, .int .u8 50, .int .u8 51, .int .u8 52, .int .u8 53, .int .u8 54, .int .u8 55, .int .u8 56, .int .u8 57] 5 (9, 10)))) :=
    ((Below.refl _ _).alloc (Nat.le_refl _) _).alloc (by simp) _
  have b0 : Hid (((w4.alloc (.cells #[.int .i64 3, .slice A4 2 c4] 34)).alloc (.cells #[.int .u8 49, .int .u8 50, .int .u8 51, .int .u8 52, .int .u8 53, .int .u8 54, .int .u8 55, .int .u8 56, .int .u8 57] 5 (9, 10))).heap[w4.heap.size]? = some (.cells #[.int .i64 3, .slice A4 2 c4] 34 (0, 0))) := heap_alloc2_old _ _ _
  have b1 : Hid (((w4.alloc (.cells #[.int .i64 3, .slice A4 2 c4] 34)).alloc (.cells #[.int .u8 49, .int .u8 50, .int .u8 51, .int .u8 52, .int .u8 53, .int .u8 54, .int .u8 55, .int .u8 56, .int .u8 57] 5 (9, 10))).heap[w4.heap.size + 1]? = some (.cells #[.int .u8 49, .int .u8 50, .int .u8 51, .int .u8 52, .int .u8 53, .int .u8 54, .int .u8 55, .int .u8 56, .int .u8 57] 5 (9, 10))) := heap_alloc2_new _ _ _
  generalize (w4.alloc (.cells #[.int .i64 3, .slice A4 2 c4] 34)).alloc (.cells #[.int .u8 49, .int .u8 50, .int .u8 51, .int .u8 52, .int .u8 53, .int .u8 54, .int .u8 55, .int .u8 56, .int .u8 57] 5 (9, 10)) = w5 at hb5 b0 b1 ⊢
  have s9 := Sl.of_block (l := [49, 50, 51, 52, 53, 54, 55, 56, 57]) b1.out rfl 9 rfl
  have hS5 := (HS.out.below Hb4.out HS.out.pos).below hb5.out (by have := HS.out.pos; omega)
  refine (Sum_at hS5 s9 (by omega) _ hcrc.out).mono ?_
  rintro e w' ⟨rfl, rfl⟩
  have hwv : wv 0xCBF43926#32 = 3421780262 := rfl
  have k0 : w5.cell? ⟨w4.heap.size, 0, none⟩ = some (.int .i64 3) := by rw [cell_of_row w5 _ 0 _ _ _ b0.out]; rfl
  have k1 : w5.cell? ⟨w4.heap.size, 1, none⟩ = some (.slice A4 2 c4) := by rw [cell_of_row w5 _ 1 _ _ _ b0.out]; rfl
  have hz5 := hb5.out.size
  go_wp2_with fail
  have hb6 : Hid (Below w4.heap.size w4 (w5.alloc (.cells #[.int .u8 1, .int .u8 2] 5))) := hb5.out.alloc hz5 _
  have s12 := Sl.of_block (l := [1, 2]) (heap_alloc_new w5 (.cells #[.int .u8 1, .int .u8 2] 5)) rfl 2 rfl
  refine (Same_at ((Sl.of_own Ho4.out).fr (Fr.of_below (M := NoB) hb6.out) (fun k hk => ⟨hk.2.1, id⟩)) s12 (by omega) (by omega) true (by decide)).mono ?_
  rintro e w' ⟨rfl, m, rfl⟩
  go_wp2_with fail
  go_ret
  exact ⟨rfl, below_drewN (Hb4.out.trans (hb6.out.mono hz4)) m⟩
end Go.Proofs.YtmdnlgfngpgfnaaDoor
