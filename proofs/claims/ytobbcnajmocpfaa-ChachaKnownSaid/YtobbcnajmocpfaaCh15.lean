/- The reference: left, Quarter. (Printed by gen_ref.py.) -/
import Derived.Test.YtobbcnajmocpfaaCh11
namespace Go.Proofs.Ytobbcnajmocpfaa
open Go.RowKit
attribute [local go_sem] yld yldUpon_value

theorem left_any (w : World) (x : BitVec 32) (N : Int) (n : Nat) (hn : (N = 16 ∧ n = 16) ∨ (N = 12 ∧ n = 12) ∨ (N = 8 ∧ n = 8) ∨ (N = 7 ∧ n = 7)) :
    Calls Try.prog 30 #[.int .u32 (wv x), .int .u64 N] w fun e w' => e = .returned (.int .u32 (wv (rotl x n))) ∧ w' = w := by
  have hb := wv_lt x
  rcases hn with ⟨rfl, rfl⟩ | ⟨rfl, rfl⟩ | ⟨rfl, rfl⟩ | ⟨rfl, rfl⟩
  · go_enter Try.func30, Try.ntmps30
    go_wp2
    go_ret
    exact ⟨ret_int (by rw [show wv x * (65536 : Int) % (4294967296 : Int) = wv (x <<< 16) from shl32 x 16, show wv x / (65536 : Int) = wv (x >>> 16) from shr32 x 16]; exact or32 _ _), rfl⟩
  · go_enter Try.func30, Try.ntmps30
    go_wp2
    go_ret
    exact ⟨ret_int (by rw [show wv x * (4096 : Int) % (4294967296 : Int) = wv (x <<< 12) from shl32 x 12, show wv x / (1048576 : Int) = wv (x >>> 20) from shr32 x 20]; exact or32 _ _), rfl⟩
  · go_enter Try.func30, Try.ntmps30
    go_wp2
    go_ret
    exact ⟨ret_int (by rw [show wv x * (256 : Int) % (4294967296 : Int) = wv (x <<< 8) from shl32 x 8, show wv x / (16777216 : Int) = wv (x >>> 24) from shr32 x 24]; exact or32 _ _), rfl⟩
  · go_enter Try.func30, Try.ntmps30
    go_wp2
    go_ret
    exact ⟨ret_int (by rw [show wv x * (128 : Int) % (4294967296 : Int) = wv (x <<< 7) from shl32 x 7, show wv x / (33554432 : Int) = wv (x >>> 25) from shr32 x 25]; exact or32 _ _), rfl⟩

set_option maxHeartbeats 8000000 in
theorem QuarterN_any (n0 : Nat) (w : World) (g m : Nat) (s : List (BitVec 32)) (h : SqB w 24 g n0 m s) (a b c d : Nat) (ha : a < n0) (hb : b < n0) (hc : c < n0) (hd : d < n0) :
    Calls Try.prog 20 #[.slice (some ⟨g, 0, none⟩) n0 m, .int .i64 a, .int .i64 b, .int .i64 c, .int .i64 d] w fun e w' => e = .returned (.tuple #[]) ∧ SqB w' 24 g n0 m (quarterP s a b c d) ∧ Fr (fun k => k = g) w w' := by
  have H0 := Lib.hid h
  have F0 : Hid (Fr (fun k => k = g) w w) := Fr.refl _ w
  have ia : (a : Int) < (n0 : Int) := by omega
  have ib : (b : Int) < (n0 : Int) := by omega
  have ic : (c : Int) < (n0 : Int) := by omega
  have id_ : (d : Int) < (n0 : Int) := by omega
  clear h
  go_enter Try.func20, Try.ntmps20
  go_wp2_with fail
  have ca := H0.out.cell ha
  have cb := H0.out.cell hb
  have fa := H0.out.frz a
  have hx := add32 (gw s a) (gw s b)
  go_region
  have G : Hid (SqB (w.setCell ⟨g, a, none⟩ (.int .u32 (wv (gw s a + gw s b)))).drew 24 g n0 m (s.set a (gw s a + gw s b))) := (H0.out.set a (gw s a + gw s b)).drewN 1
  have hf1 : Hid (Fr (fun k => k = g) w (w.setCell ⟨g, a, none⟩ (.int .u32 (wv (gw s a + gw s b)))).drew) := (F0.out.setCell (p := ⟨g, a, none⟩) (.inl rfl) _).drewN 1
  clear ca cb fa hx
  go_wp2_with fail
  generalize (w.setCell ⟨g, a, none⟩ (.int .u32 (wv (gw s a + gw s b)))).drew = v0 at G hf1 ⊢
  have c2a := G.out.cell ha
  have c2d := G.out.cell hd
  have f2d := G.out.frz d
  have hxx := xor32 (gw (s.set a (gw s a + gw s b)) d) (gw (s.set a (gw s a + gw s b)) a)
  clear H0 F0
  refine wp_calm ?_
  refine wp_region_os (fun i w' => match i with
    | 5 => w'.cell? ⟨g, d, none⟩ = some (.int .u32 (wv (gw (s.set a (gw s a + gw s b)) d)))
    | 9 => w'.cell? ⟨g, a, none⟩ = some (.int .u32 (wv (gw (s.set a (gw s a + gw s b)) a)))
    | _ => True) [5, 9]
    (.move 0 (.move 1 (.move 2 (.move 3 (.move 4 (.take 5 (.move 6 (.move 7 (.move 8 (.take 9 (.move 10 (.run 11 [5, 9] (.move 12 (.run 13 [] .done)))))))))))))) (by kernel_rfl) (by kernel_rfl) (fun _ _ _ _ _ h => nomatch h.1) ?_
  iterate 5 (
    refine os_move rfl rfl rfl (Nat.le_of_ble_eq_true rfl) ?_
    apply Exists.intro
    refine ⟨fun w' K hK => ?_, ?_⟩
    (focus
      go_simp
      exact hK))
  refine os_yld c2d rfl rfl rfl (Nat.le_of_ble_eq_true rfl) ?_
  apply Exists.intro
  refine ⟨fun w' hS' K hK => ?_, ?_⟩
  (focus
    have hS2 : (fun w' => w'.cell? ⟨g, d, none⟩ = some (.int .u32 (wv (gw (s.set a (gw s a + gw s b)) d)))) w' := hS'
    clear hS'
    try dsimp only at hS2
    go_simp
    exact hK)
  iterate 3 (
    refine os_move rfl rfl rfl (Nat.le_of_ble_eq_true rfl) ?_
    apply Exists.intro
    refine ⟨fun w' K hK => ?_, ?_⟩
    (focus
      go_simp
      exact hK))
  refine os_yld c2a rfl rfl rfl (Nat.le_of_ble_eq_true rfl) ?_
  apply Exists.intro
  refine ⟨fun w' hS' K hK => ?_, ?_⟩
  (focus
    have hS2 : (fun w' => w'.cell? ⟨g, a, none⟩ = some (.int .u32 (wv (gw (s.set a (gw s a + gw s b)) a)))) w' := hS'
    clear hS'
    try dsimp only at hS2
    go_simp
    exact hK)
  iterate 1 (
    refine os_move rfl rfl rfl (Nat.le_of_ble_eq_true rfl) ?_
    apply Exists.intro
    refine ⟨fun w' K hK => ?_, ?_⟩
    (focus
      go_simp
      exact hK))
  refine os_run rfl rfl (fun K hK => ?_)
  go_wp2_with fail
  refine (left_any _ _ _ _ (.inl ⟨rfl, rfl⟩)).mono ?_
  rintro e w2 ⟨rfl, rfl⟩
  go_wp2_with fail
  refine ⟨fun _ _ h => h, ?_⟩
  refine os_move rfl rfl rfl (Nat.le_of_ble_eq_true rfl) ?_
  apply Exists.intro
  refine ⟨fun w' K hK => ?_, ?_⟩
  (focus
    go_simp
    exact hK)
  refine os_run rfl rfl (fun K hK => ?_)
  go_wp2_with fail
  refine ⟨fun _ h => (by cases h), ?_⟩
  refine os_done ⟨rfl, ?_⟩
  obtain ⟨s1, hs1⟩ : ∃ s1, s1 = halfP s a b d 16 := ⟨_, rfl⟩
  have H1 : Hid (SqB (v0.setCell ⟨g, d, none⟩ (.int .u32 (wv (rotl (gw (s.set a (gw s a + gw s b)) d ^^^ gw (s.set a (gw s a + gw s b)) a) 16)))).drew 24 g n0 m s1) := by
    rw [hs1]; exact (G.out.set d (rotl (gw (s.set a (gw s a + gw s b)) d ^^^ gw (s.set a (gw s a + gw s b)) a) 16)).drewN 1
  have F1 : Hid (Fr (fun k => k = g) w (v0.setCell ⟨g, d, none⟩ (.int .u32 (wv (rotl (gw (s.set a (gw s a + gw s b)) d ^^^ gw (s.set a (gw s a + gw s b)) a) 16)))).drew) := (hf1.out.setCell (p := ⟨g, d, none⟩) (.inl rfl) _).drewN 1
  have E1 := Lib.hid hs1
  clear hs1 c2a c2d f2d hxx G hf1
  go_wp2_with fail
  generalize (v0.setCell ⟨g, d, none⟩ (.int .u32 (wv (rotl (gw (s.set a (gw s a + gw s b)) d ^^^ gw (s.set a (gw s a + gw s b)) a) 16)))).drew = w1 at H1 F1 ⊢
  have ca := H1.out.cell hc
  have cb := H1.out.cell hd
  have fa := H1.out.frz c
  have hx := add32 (gw s1 c) (gw s1 d)
  go_region
  have G : Hid (SqB (w1.setCell ⟨g, c, none⟩ (.int .u32 (wv (gw s1 c + gw s1 d)))).drew 24 g n0 m (s1.set c (gw s1 c + gw s1 d))) := (H1.out.set c (gw s1 c + gw s1 d)).drewN 1
  have hf1 : Hid (Fr (fun k => k = g) w (w1.setCell ⟨g, c, none⟩ (.int .u32 (wv (gw s1 c + gw s1 d)))).drew) := (F1.out.setCell (p := ⟨g, c, none⟩) (.inl rfl) _).drewN 1
  clear ca cb fa hx
  go_wp2_with fail
  generalize (w1.setCell ⟨g, c, none⟩ (.int .u32 (wv (gw s1 c + gw s1 d)))).drew = v1 at G hf1 ⊢
  have c2a := G.out.cell hc
  have c2d := G.out.cell hb
  have f2d := G.out.frz b
  have hxx := xor32 (gw (s1.set c (gw s1 c + gw s1 d)) b) (gw (s1.set c (gw s1 c + gw s1 d)) c)
  clear H1 F1
  refine wp_calm ?_
  refine wp_region_os (fun i w' => match i with
    | 5 => w'.cell? ⟨g, b, none⟩ = some (.int .u32 (wv (gw (s1.set c (gw s1 c + gw s1 d)) b)))
    | 9 => w'.cell? ⟨g, c, none⟩ = some (.int .u32 (wv (gw (s1.set c (gw s1 c + gw s1 d)) c)))
    | _ => True) [5, 9]
    (.move 0 (.move 1 (.move 2 (.move 3 (.move 4 (.take 5 (.move 6 (.move 7 (.move 8 (.take 9 (.move 10 (.run 11 [5, 9] (.move 12 (.run 13 [] .done)))))))))))))) (by kernel_rfl) (by kernel_rfl) (fun _ _ _ _ _ h => nomatch h.1) ?_
  iterate 5 (
    refine os_move rfl rfl rfl (Nat.le_of_ble_eq_true rfl) ?_
    apply Exists.intro
    refine ⟨fun w' K hK => ?_, ?_⟩
    (focus
      go_simp
      exact hK))
  refine os_yld c2d rfl rfl rfl (Nat.le_of_ble_eq_true rfl) ?_
  apply Exists.intro
  refine ⟨fun w' hS' K hK => ?_, ?_⟩
  (focus
    have hS2 : (fun w' => w'.cell? ⟨g, b, none⟩ = some (.int .u32 (wv (gw (s1.set c (gw s1 c + gw s1 d)) b)))) w' := hS'
    clear hS'
    try dsimp only at hS2
    go_simp
    exact hK)
  iterate 3 (
    refine os_move rfl rfl rfl (Nat.le_of_ble_eq_true rfl) ?_
    apply Exists.intro
    refine ⟨fun w' K hK => ?_, ?_⟩
    (focus
      go_simp
      exact hK))
  refine os_yld c2a rfl rfl rfl (Nat.le_of_ble_eq_true rfl) ?_
  apply Exists.intro
  refine ⟨fun w' hS' K hK => ?_, ?_⟩
  (focus
    have hS2 : (fun w' => w'.cell? ⟨g, c, none⟩ = some (.int .u32 (wv (gw (s1.set c (gw s1 c + gw s1 d)) c)))) w' := hS'
    clear hS'
    try dsimp only at hS2
    go_simp
    exact hK)
  iterate 1 (
    refine os_move rfl rfl rfl (Nat.le_of_ble_eq_true rfl) ?_
    apply Exists.intro
    refine ⟨fun w' K hK => ?_, ?_⟩
    (focus
      go_simp
      exact hK))
  refine os_run rfl rfl (fun K hK => ?_)
  go_wp2_with fail
  refine (left_any _ _ _ _ (.inr (.inl ⟨rfl, rfl⟩))).mono ?_
  rintro e w2 ⟨rfl, rfl⟩
  go_wp2_with fail
  refine ⟨fun _ _ h => h, ?_⟩
  refine os_move rfl rfl rfl (Nat.le_of_ble_eq_true rfl) ?_
  apply Exists.intro
  refine ⟨fun w' K hK => ?_, ?_⟩
  (focus
    go_simp
    exact hK)
  refine os_run rfl rfl (fun K hK => ?_)
  go_wp2_with fail
  refine ⟨fun _ h => (by cases h), ?_⟩
  refine os_done ⟨rfl, ?_⟩
  obtain ⟨s2, hs2⟩ : ∃ s2, s2 = halfP s1 c d b 12 := ⟨_, rfl⟩
  have H2 : Hid (SqB (v1.setCell ⟨g, b, none⟩ (.int .u32 (wv (rotl (gw (s1.set c (gw s1 c + gw s1 d)) b ^^^ gw (s1.set c (gw s1 c + gw s1 d)) c) 12)))).drew 24 g n0 m s2) := by
    rw [hs2]; exact (G.out.set b (rotl (gw (s1.set c (gw s1 c + gw s1 d)) b ^^^ gw (s1.set c (gw s1 c + gw s1 d)) c) 12)).drewN 1
  have F2 : Hid (Fr (fun k => k = g) w (v1.setCell ⟨g, b, none⟩ (.int .u32 (wv (rotl (gw (s1.set c (gw s1 c + gw s1 d)) b ^^^ gw (s1.set c (gw s1 c + gw s1 d)) c) 12)))).drew) := (hf1.out.setCell (p := ⟨g, b, none⟩) (.inl rfl) _).drewN 1
  have E2 := Lib.hid hs2
  clear hs2 c2a c2d f2d hxx G hf1
  go_wp2_with fail
  generalize (v1.setCell ⟨g, b, none⟩ (.int .u32 (wv (rotl (gw (s1.set c (gw s1 c + gw s1 d)) b ^^^ gw (s1.set c (gw s1 c + gw s1 d)) c) 12)))).drew = w2 at H2 F2 ⊢
  have ca := H2.out.cell ha
  have cb := H2.out.cell hb
  have fa := H2.out.frz a
  have hx := add32 (gw s2 a) (gw s2 b)
  go_region
  have G : Hid (SqB (w2.setCell ⟨g, a, none⟩ (.int .u32 (wv (gw s2 a + gw s2 b)))).drew 24 g n0 m (s2.set a (gw s2 a + gw s2 b))) := (H2.out.set a (gw s2 a + gw s2 b)).drewN 1
  have hf1 : Hid (Fr (fun k => k = g) w (w2.setCell ⟨g, a, none⟩ (.int .u32 (wv (gw s2 a + gw s2 b)))).drew) := (F2.out.setCell (p := ⟨g, a, none⟩) (.inl rfl) _).drewN 1
  clear ca cb fa hx
  go_wp2_with fail
  generalize (w2.setCell ⟨g, a, none⟩ (.int .u32 (wv (gw s2 a + gw s2 b)))).drew = v2 at G hf1 ⊢
  have c2a := G.out.cell ha
  have c2d := G.out.cell hd
  have f2d := G.out.frz d
  have hxx := xor32 (gw (s2.set a (gw s2 a + gw s2 b)) d) (gw (s2.set a (gw s2 a + gw s2 b)) a)
  clear H2 F2
  refine wp_calm ?_
  refine wp_region_os (fun i w' => match i with
    | 5 => w'.cell? ⟨g, d, none⟩ = some (.int .u32 (wv (gw (s2.set a (gw s2 a + gw s2 b)) d)))
    | 9 => w'.cell? ⟨g, a, none⟩ = some (.int .u32 (wv (gw (s2.set a (gw s2 a + gw s2 b)) a)))
    | _ => True) [5, 9]
    (.move 0 (.move 1 (.move 2 (.move 3 (.move 4 (.take 5 (.move 6 (.move 7 (.move 8 (.take 9 (.move 10 (.run 11 [5, 9] (.move 12 (.run 13 [] .done)))))))))))))) (by kernel_rfl) (by kernel_rfl) (fun _ _ _ _ _ h => nomatch h.1) ?_
  iterate 5 (
    refine os_move rfl rfl rfl (Nat.le_of_ble_eq_true rfl) ?_
    apply Exists.intro
    refine ⟨fun w' K hK => ?_, ?_⟩
    (focus
      go_simp
      exact hK))
  refine os_yld c2d rfl rfl rfl (Nat.le_of_ble_eq_true rfl) ?_
  apply Exists.intro
  refine ⟨fun w' hS' K hK => ?_, ?_⟩
  (focus
    have hS2 : (fun w' => w'.cell? ⟨g, d, none⟩ = some (.int .u32 (wv (gw (s2.set a (gw s2 a + gw s2 b)) d)))) w' := hS'
    clear hS'
    try dsimp only at hS2
    go_simp
    exact hK)
  iterate 3 (
    refine os_move rfl rfl rfl (Nat.le_of_ble_eq_true rfl) ?_
    apply Exists.intro
    refine ⟨fun w' K hK => ?_, ?_⟩
    (focus
      go_simp
      exact hK))
  refine os_yld c2a rfl rfl rfl (Nat.le_of_ble_eq_true rfl) ?_
  apply Exists.intro
  refine ⟨fun w' hS' K hK => ?_, ?_⟩
  (focus
    have hS2 : (fun w' => w'.cell? ⟨g, a, none⟩ = some (.int .u32 (wv (gw (s2.set a (gw s2 a + gw s2 b)) a)))) w' := hS'
    clear hS'
    try dsimp only at hS2
    go_simp
    exact hK)
  iterate 1 (
    refine os_move rfl rfl rfl (Nat.le_of_ble_eq_true rfl) ?_
    apply Exists.intro
    refine ⟨fun w' K hK => ?_, ?_⟩
    (focus
      go_simp
      exact hK))
  refine os_run rfl rfl (fun K hK => ?_)
  go_wp2_with fail
  refine (left_any _ _ _ _ (.inr (.inr (.inl ⟨rfl, rfl⟩)))).mono ?_
  rintro e w2 ⟨rfl, rfl⟩
  go_wp2_with fail
  refine ⟨fun _ _ h => h, ?_⟩
  refine os_move rfl rfl rfl (Nat.le_of_ble_eq_true rfl) ?_
  apply Exists.intro
  refine ⟨fun w' K hK => ?_, ?_⟩
  (focus
    go_simp
    exact hK)
  refine os_run rfl rfl (fun K hK => ?_)
  go_wp2_with fail
  refine ⟨fun _ h => (by cases h), ?_⟩
  refine os_done ⟨rfl, ?_⟩
  obtain ⟨s3, hs3⟩ : ∃ s3, s3 = halfP s2 a b d 8 := ⟨_, rfl⟩
  have H3 : Hid (SqB (v2.setCell ⟨g, d, none⟩ (.int .u32 (wv (rotl (gw (s2.set a (gw s2 a + gw s2 b)) d ^^^ gw (s2.set a (gw s2 a + gw s2 b)) a) 8)))).drew 24 g n0 m s3) := by
    rw [hs3]; exact (G.out.set d (rotl (gw (s2.set a (gw s2 a + gw s2 b)) d ^^^ gw (s2.set a (gw s2 a + gw s2 b)) a) 8)).drewN 1
  have F3 : Hid (Fr (fun k => k = g) w (v2.setCell ⟨g, d, none⟩ (.int .u32 (wv (rotl (gw (s2.set a (gw s2 a + gw s2 b)) d ^^^ gw (s2.set a (gw s2 a + gw s2 b)) a) 8)))).drew) := (hf1.out.setCell (p := ⟨g, d, none⟩) (.inl rfl) _).drewN 1
  have E3 := Lib.hid hs3
  clear hs3 c2a c2d f2d hxx G hf1
  go_wp2_with fail
  generalize (v2.setCell ⟨g, d, none⟩ (.int .u32 (wv (rotl (gw (s2.set a (gw s2 a + gw s2 b)) d ^^^ gw (s2.set a (gw s2 a + gw s2 b)) a) 8)))).drew = w3 at H3 F3 ⊢
  have ca := H3.out.cell hc
  have cb := H3.out.cell hd
  have fa := H3.out.frz c
  have hx := add32 (gw s3 c) (gw s3 d)
  go_region
  have G : Hid (SqB (w3.setCell ⟨g, c, none⟩ (.int .u32 (wv (gw s3 c + gw s3 d)))).drew 24 g n0 m (s3.set c (gw s3 c + gw s3 d))) := (H3.out.set c (gw s3 c + gw s3 d)).drewN 1
  have hf1 : Hid (Fr (fun k => k = g) w (w3.setCell ⟨g, c, none⟩ (.int .u32 (wv (gw s3 c + gw s3 d)))).drew) := (F3.out.setCell (p := ⟨g, c, none⟩) (.inl rfl) _).drewN 1
  clear ca cb fa hx
  go_wp2_with fail
  generalize (w3.setCell ⟨g, c, none⟩ (.int .u32 (wv (gw s3 c + gw s3 d)))).drew = v3 at G hf1 ⊢
  have c2a := G.out.cell hc
  have c2d := G.out.cell hb
  have f2d := G.out.frz b
  have hxx := xor32 (gw (s3.set c (gw s3 c + gw s3 d)) b) (gw (s3.set c (gw s3 c + gw s3 d)) c)
  clear H3 F3
  refine wp_calm ?_
  refine wp_region_os (fun i w' => match i with
    | 5 => w'.cell? ⟨g, b, none⟩ = some (.int .u32 (wv (gw (s3.set c (gw s3 c + gw s3 d)) b)))
    | 9 => w'.cell? ⟨g, c, none⟩ = some (.int .u32 (wv (gw (s3.set c (gw s3 c + gw s3 d)) c)))
    | _ => True) [5, 9]
    (.move 0 (.move 1 (.move 2 (.move 3 (.move 4 (.take 5 (.move 6 (.move 7 (.move 8 (.take 9 (.move 10 (.run 11 [5, 9] (.move 12 (.run 13 [] .done)))))))))))))) (by kernel_rfl) (by kernel_rfl) (fun _ _ _ _ _ h => nomatch h.1) ?_
  iterate 5 (
    refine os_move rfl rfl rfl (Nat.le_of_ble_eq_true rfl) ?_
    apply Exists.intro
    refine ⟨fun w' K hK => ?_, ?_⟩
    (focus
      go_simp
      exact hK))
  refine os_yld c2d rfl rfl rfl (Nat.le_of_ble_eq_true rfl) ?_
  apply Exists.intro
  refine ⟨fun w' hS' K hK => ?_, ?_⟩
  (focus
    have hS2 : (fun w' => w'.cell? ⟨g, b, none⟩ = some (.int .u32 (wv (gw (s3.set c (gw s3 c + gw s3 d)) b)))) w' := hS'
    clear hS'
    try dsimp only at hS2
    go_simp
    exact hK)
  iterate 3 (
    refine os_move rfl rfl rfl (Nat.le_of_ble_eq_true rfl) ?_
    apply Exists.intro
    refine ⟨fun w' K hK => ?_, ?_⟩
    (focus
      go_simp
      exact hK))
  refine os_yld c2a rfl rfl rfl (Nat.le_of_ble_eq_true rfl) ?_
  apply Exists.intro
  refine ⟨fun w' hS' K hK => ?_, ?_⟩
  (focus
    have hS2 : (fun w' => w'.cell? ⟨g, c, none⟩ = some (.int .u32 (wv (gw (s3.set c (gw s3 c + gw s3 d)) c)))) w' := hS'
    clear hS'
    try dsimp only at hS2
    go_simp
    exact hK)
  iterate 1 (
    refine os_move rfl rfl rfl (Nat.le_of_ble_eq_true rfl) ?_
    apply Exists.intro
    refine ⟨fun w' K hK => ?_, ?_⟩
    (focus
      go_simp
      exact hK))
  refine os_run rfl rfl (fun K hK => ?_)
  go_wp2_with fail
  refine (left_any _ _ _ _ (.inr (.inr (.inr ⟨rfl, rfl⟩)))).mono ?_
  rintro e w2 ⟨rfl, rfl⟩
  go_wp2_with fail
  refine ⟨fun _ _ h => h, ?_⟩
  refine os_move rfl rfl rfl (Nat.le_of_ble_eq_true rfl) ?_
  apply Exists.intro
  refine ⟨fun w' K hK => ?_, ?_⟩
  (focus
    go_simp
    exact hK)
  refine os_run rfl rfl (fun K hK => ?_)
  go_wp2_with fail
  refine ⟨fun _ h => (by cases h), ?_⟩
  refine os_done ⟨rfl, ?_⟩
  obtain ⟨s4, hs4⟩ : ∃ s4, s4 = halfP s3 c d b 7 := ⟨_, rfl⟩
  have H4 : Hid (SqB (v3.setCell ⟨g, b, none⟩ (.int .u32 (wv (rotl (gw (s3.set c (gw s3 c + gw s3 d)) b ^^^ gw (s3.set c (gw s3 c + gw s3 d)) c) 7)))).drew 24 g n0 m s4) := by
    rw [hs4]; exact (G.out.set b (rotl (gw (s3.set c (gw s3 c + gw s3 d)) b ^^^ gw (s3.set c (gw s3 c + gw s3 d)) c) 7)).drewN 1
  have F4 : Hid (Fr (fun k => k = g) w (v3.setCell ⟨g, b, none⟩ (.int .u32 (wv (rotl (gw (s3.set c (gw s3 c + gw s3 d)) b ^^^ gw (s3.set c (gw s3 c + gw s3 d)) c) 7)))).drew) := (hf1.out.setCell (p := ⟨g, b, none⟩) (.inl rfl) _).drewN 1
  have E4 := Lib.hid hs4
  clear hs4 c2a c2d f2d hxx G hf1
  go_wp2_with fail
  generalize (v3.setCell ⟨g, b, none⟩ (.int .u32 (wv (rotl (gw (s3.set c (gw s3 c + gw s3 d)) b ^^^ gw (s3.set c (gw s3 c + gw s3 d)) c) 7)))).drew = w4 at H4 F4 ⊢
  go_end0
  refine ⟨rfl, ?_, F4.out⟩
  unfold quarterP
  rw [← E1.out, ← E2.out, ← E3.out, ← E4.out]
  exact H4.out
theorem Quarter_any (w : World) (g m : Nat) (s : List (BitVec 32)) (h : SqB w 24 g 16 m s) (a b c d : Nat) (ha : a < 16) (hb : b < 16) (hc : c < 16) (hd : d < 16) :
    Calls Try.prog 20 #[.slice (some ⟨g, 0, none⟩) 16 m, .int .i64 a, .int .i64 b, .int .i64 c, .int .i64 d] w fun e w' => e = .returned (.tuple #[]) ∧ SqB w' 24 g 16 m (quarterP s a b c d) ∧ Fr (fun k => k = g) w w' :=
  QuarterN_any 16 w g m s h a b c d ha hb hc hd
end Go.Proofs.Ytobbcnajmocpfaa
