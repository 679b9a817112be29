/- The square of words, in memory and turned. -/
import Derived.Test.YtklclbppdoahjaaW32
import Derived.Test.YtklclbppdoahjaaRgF
namespace Go.Proofs.Ytklclbppdoahjaa
set_option maxRecDepth 100000
open Go.RowKit

/-- words as cells -/
def wl (s : List (BitVec 32)) : List Value := s.map fun x => .int .u32 (wv x)
theorem wl_length (s : List (BitVec 32)) : (wl s).length = s.length := by simp [wl]
theorem wl_set (s : List (BitVec 32)) (i : Nat) (x : BitVec 32) : (wl s).set i (.int .u32 (wv x)) = wl (s.set i x) := by simp [wl, List.map_set]
theorem wl_oneCell (s : List (BitVec 32)) : ∀ u ∈ wl s, u.oneCell' = true := by
  intro u hu
  simp only [wl, List.mem_map] at hu
  obtain ⟨x, _, rfl⟩ := hu
  rfl
def gw (s : List (BitVec 32)) (i : Nat) : BitVec 32 := s.getD i 0
theorem gw_eq {s : List (BitVec 32)} {i : Nat} (h : i < s.length) : gw s i = s[i] := by simp [gw, List.getD, h]
/-- n words of its own in a block -/
def SqB (w : World) (T g n c : Nat) (s : List (BitVec 32)) : Prop := w.ownsRow g T 1 (.slice (some ⟨g, 0, none⟩) n c) n (wl s)
theorem SqB.len {w : World} {T g n c : Nat} {s : List (BitVec 32)} (h : SqB w T g n c s) : s.length = n := by
  have := h.1; rw [wl_length] at this; omega
theorem SqB.cell {w : World} {T g n c : Nat} {s : List (BitVec 32)} (h : SqB w T g n c s) {i : Nat} (hi : i < n) : w.cell? ⟨g, i, none⟩ = some (.int .u32 (wv (gw s i))) := by
  have := World.ownsRow.cellAt h i (by omega)
  have hl := h.len
  rw [this, gw_eq (by omega)]
  simp [wl, hl, hi]
theorem SqB.set {w : World} {T g n c : Nat} {s : List (BitVec 32)} (h : SqB w T g n c s) (i : Nat) (x : BitVec 32) : SqB (w.setCell ⟨g, i, none⟩ (.int .u32 (wv x))) T g n c (s.set i x) := by
  have := (World.ownsRow.stored h i (.int .u32 (wv x))).1
  rw [wl_set] at this; exact this
theorem SqB.drewN {w : World} {T g n c : Nat} {s : List (BitVec 32)} (h : SqB w T g n c s) (k : Nat) : SqB (w.drewN k) T g n c s := h
theorem SqB.frz {w : World} {T g n c : Nat} {s : List (BitVec 32)} (h : SqB w T g n c s) (i : Nat) : w.frozen? ⟨g, i, none⟩ = false := World.ownsRow.frozenAt h i
theorem SqB.fr {w w' : World} {T g n c : Nat} {s : List (BitVec 32)} (h : SqB w T g n c s) {M : Nat → Prop} (hf : Fr M w w') (hg : ¬ M g) (hn : 0 < n) : SqB w' T g n c s := by
  obtain ⟨g', cap, hv, _, hlt⟩ := World.ownsRow.form h hn
  injection hv with h1 _ _; injection h1 with h1; injection h1 with h1 _; subst h1
  refine ⟨h.1, ?_⟩
  rcases h.2 with ⟨e, _⟩ | ⟨g', cap', cur, e, hb, hh, r⟩
  · cases e
  · injection e with e1 e2 e3; injection e1 with e1; injection e1 with e1 _; subst e1
    exact .inr ⟨g, cap', cur, by rw [e3], hb, by rw [hf.block g hlt hg]; exact hh, r⟩

/-- one half of a quarter -/
def halfP (s : List (BitVec 32)) (a b d n : Nat) : List (BitVec 32) :=
  let s := s.set a (gw s a + gw s b)
  s.set d (rotl (gw s d ^^^ gw s a) n)
def quarterP (s : List (BitVec 32)) (a b c d : Nat) : List (BitVec 32) := halfP (halfP (halfP (halfP s a b d 16) c d b 12) a b d 8) c d b 7

theorem Rotate_any (w : World) (x : BitVec 32) (N : Int) (n : Nat) (hn : (N = 16 ∧ n = 16) ∨ (N = 12 ∧ n = 12) ∨ (N = 8 ∧ n = 8) ∨ (N = 7 ∧ n = 7)) :
    Calls Try.prog 68 #[.int .u32 (wv x), .int .i64 N] w fun e w' => e = .returned (.int .u32 (wv (rotl x n))) ∧ w' = w := by
  have hb := wv_lt x
  rcases hn with ⟨rfl, rfl⟩ | ⟨rfl, rfl⟩ | ⟨rfl, rfl⟩ | ⟨rfl, rfl⟩
  · have e31 : bits .and .u64 16 31 = 16 := rfl
    go_enter Try.func68, Try.ntmps68
    go_wp2
    go_ret
    exact ⟨ret_int (by rw [show wv x * (65536 : Int) % (4294967296 : Int) = wv (x <<< 16) from shl32 x 16, show wv x / (65536 : Int) = wv (x >>> 16) from shr32 x 16]; exact or32 _ _), rfl⟩
  · have e31 : bits .and .u64 12 31 = 12 := rfl
    go_enter Try.func68, Try.ntmps68
    go_wp2
    go_ret
    exact ⟨ret_int (by rw [show wv x * (4096 : Int) % (4294967296 : Int) = wv (x <<< 12) from shl32 x 12, show wv x / (1048576 : Int) = wv (x >>> 20) from shr32 x 20]; exact or32 _ _), rfl⟩
  · have e31 : bits .and .u64 8 31 = 8 := rfl
    go_enter Try.func68, Try.ntmps68
    go_wp2
    go_ret
    exact ⟨ret_int (by rw [show wv x * (256 : Int) % (4294967296 : Int) = wv (x <<< 8) from shl32 x 8, show wv x / (16777216 : Int) = wv (x >>> 24) from shr32 x 24]; exact or32 _ _), rfl⟩
  · have e31 : bits .and .u64 7 31 = 7 := rfl
    go_enter Try.func68, Try.ntmps68
    go_wp2
    go_ret
    exact ⟨ret_int (by rw [show wv x * (128 : Int) % (4294967296 : Int) = wv (x <<< 7) from shl32 x 7, show wv x / (33554432 : Int) = wv (x >>> 25) from shr32 x 25]; exact or32 _ _), rfl⟩

attribute [local go_sem] yld yldUpon_value
set_option maxHeartbeats 1000000 in
theorem half_any (w : World) (T g m c : Nat) (s : List (BitVec 32)) (h : SqB w T g m c s) (a b d : Nat) (ha : a < m) (hb : b < m) (hd : d < m) (N : Int) (n : Nat) (hn : (N = 16 ∧ n = 16) ∨ (N = 12 ∧ n = 12) ∨ (N = 8 ∧ n = 8) ∨ (N = 7 ∧ n = 7)) :
    Calls Try.prog 67 #[.pointer (some ⟨g, a, none⟩), .pointer (some ⟨g, b, none⟩), .pointer (some ⟨g, d, none⟩), .int .i64 N] w fun e w' => e = .returned (.tuple #[]) ∧ SqB w' T g m c (halfP s a b d n) ∧ Fr (fun k => k = g) w w' := by
  have H := Lib.hid h
  have ca := h.cell ha
  have cb := h.cell hb
  have fa := h.frz a
  have hx := add32 (gw s a) (gw s b)
  clear h
  go_enter Try.func67, Try.ntmps67
  go_wp2
  go_region
  have H1 : Hid (SqB (w.setCell ⟨g, a, none⟩ (.int .u32 (wv (gw s a + gw s b)))).drew T g m c (s.set a (gw s a + gw s b))) := (H.out.set a (gw s a + gw s b)).drewN 1
  have hf1 : Hid (Fr (fun k => k = g) w (w.setCell ⟨g, a, none⟩ (.int .u32 (wv (gw s a + gw s b)))).drew) := ((Fr.refl (fun k => k = g) w).setCell (p := ⟨g, a, none⟩) (.inl rfl) _).drewN 1
  clear ca cb fa hx
  go_wp2_with fail
  generalize (w.setCell ⟨g, a, none⟩ (.int .u32 (wv (gw s a + gw s b)))).drew = w1 at H1 hf1 ⊢
  have c2a := H1.out.cell ha
  have c2d := H1.out.cell hd
  have f2d := H1.out.frz d
  have hxx := xor32 (gw (s.set a (gw s a + gw s b)) d) (gw (s.set a (gw s a + gw s b)) a)
  refine wp_calm ?_
  refine wp_region_os (fun i w' => match i with
    | 3 => w'.cell? ⟨g, d, none⟩ = some (.int .u32 (wv (gw (s.set a (gw s a + gw s b)) d)))
    | 6 => w'.cell? ⟨g, a, none⟩ = some (.int .u32 (wv (gw (s.set a (gw s a + gw s b)) a)))
    | _ => True) [3, 6]
    (.move 0 (.move 1 (.move 2 (.take 3 (.move 4 (.move 5 (.take 6 (.move 7 (.move 8 (.run 9 [3, 6] (.move 10 (.run 11 [] .done)))))))))))) (by kernel_rfl) (by kernel_rfl) (fun _ _ _ _ _ h => nomatch h.1) ?_
  iterate 3 (
    refine os_move rfl rfl rfl (Nat.le_of_ble_eq_true rfl) ?_
    apply Exists.intro
    refine ⟨fun w' K hK => ?_, ?_⟩
    (focus
      go_simp
      exact hK))
  refine os_yld c2d rfl rfl rfl (Nat.le_of_ble_eq_true rfl) ?_
  apply Exists.intro
  refine ⟨fun w' hS' K hK => ?_, ?_⟩
  (focus
    have hS2 : (fun w' => w'.cell? ⟨g, d, none⟩ = some (.int .u32 (wv (gw (s.set a (gw s a + gw s b)) d)))) w' := hS'
    clear hS'
    try dsimp only at hS2
    go_simp
    exact hK)
  iterate 2 (
    refine os_move rfl rfl rfl (Nat.le_of_ble_eq_true rfl) ?_
    apply Exists.intro
    refine ⟨fun w' K hK => ?_, ?_⟩
    (focus
      go_simp
      exact hK))
  refine os_yld c2a rfl rfl rfl (Nat.le_of_ble_eq_true rfl) ?_
  apply Exists.intro
  refine ⟨fun w' hS' K hK => ?_, ?_⟩
  (focus
    have hS2 : (fun w' => w'.cell? ⟨g, a, none⟩ = some (.int .u32 (wv (gw (s.set a (gw s a + gw s b)) a)))) w' := hS'
    clear hS'
    try dsimp only at hS2
    go_simp
    exact hK)
  iterate 2 (
    refine os_move rfl rfl rfl (Nat.le_of_ble_eq_true rfl) ?_
    apply Exists.intro
    refine ⟨fun w' K hK => ?_, ?_⟩
    (focus
      go_simp
      exact hK))
  refine os_run rfl rfl (fun K hK => ?_)
  go_wp2_with fail
  refine (Rotate_any _ _ _ _ hn).mono ?_
  rintro e w2 ⟨rfl, rfl⟩
  go_wp2_with fail
  refine ⟨fun _ _ h => h, ?_⟩
  refine os_move rfl rfl rfl (Nat.le_of_ble_eq_true rfl) ?_
  apply Exists.intro
  refine ⟨fun w' K hK => ?_, ?_⟩
  (focus
    go_simp
    exact hK)
  refine os_run rfl rfl (fun K hK => ?_)
  go_wp2_with fail
  refine ⟨fun _ h => (by cases h), ?_⟩
  refine os_done ⟨rfl, ?_⟩
  go_end0
  have H2 := (H1.out.drewN 1).set d (rotl (gw (s.set a (gw s a + gw s b)) d ^^^ gw (s.set a (gw s a + gw s b)) a) n)
  exact ⟨rfl, H2, (hf1.out.drewN 1).setCell (p := ⟨g, d, none⟩) (.inl rfl) _⟩
end Go.Proofs.Ytklclbppdoahjaa
