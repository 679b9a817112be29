/- A quarter, the rounds. -/
import Derived.Test.YtklclbppdoahjaaCh1
namespace Go.Proofs.Ytklclbppdoahjaa
set_option maxRecDepth 100000
open Go.RowKit
attribute [local go_sem] yld yldUpon_value

theorem halfP_len (s : List (BitVec 32)) (a b d n : Nat) : (halfP s a b d n).length = s.length := by simp [halfP]
theorem quarterP_len (s : List (BitVec 32)) (a b c d : Nat) : (quarterP s a b c d).length = s.length := by simp [quarterP, halfP_len]

set_option maxHeartbeats 1000000 in
theorem quarter_any (w : World) (g m : Nat) (s : List (BitVec 32)) (h : SqB w 91 g 16 m s) (a b c d : Nat) (ha : a < 16) (hb : b < 16) (hc : c < 16) (hd : d < 16) :
    Calls Try.prog 65 #[.pointer (some ⟨g, 0, none⟩), .int .i64 a, .int .i64 b, .int .i64 c, .int .i64 d] w fun e w' => e = .returned (.tuple #[]) ∧ SqB w' 91 g 16 m (quarterP s a b c d) ∧ Fr (fun k => k = g) w w' := by
  have H := Lib.hid h
  have ia : (a : Int) < 16 := by omega
  have ib : (b : Int) < 16 := by omega
  have ic : (c : Int) < 16 := by omega
  have id_ : (d : Int) < 16 := by omega
  clear h
  go_enter Try.func65, Try.ntmps65
  go_wp2_with fail
  refine wp_calm ?_
  refine wp_region_os (fun _ _ => True) [] (.move 0 (.move 1 (.move 2 (.move 3 (.move 4 (.move 5 (.move 6 (.move 7 (.move 8 (.move 9 (.move 10 (.move 11 (.run 12 [] .done))))))))))))) (by kernel_rfl) (by kernel_rfl) (fun _ _ _ _ _ h => nomatch h.1) ?_
  iterate 12 (
    refine os_move rfl rfl rfl (Nat.le_of_ble_eq_true rfl) ?_
    apply Exists.intro
    refine ⟨fun w' K hK => ?_, ?_⟩
    (focus
      go_simp
      exact hK))
  refine os_run rfl rfl (fun K hK => ?_)
  go_wp2_with fail
  refine (half_any _ _ _ _ _ _ (H.out.drewN 1) _ _ _ ha hb hd _ 16 (.inl ⟨rfl, rfl⟩)).mono ?_
  rintro e w1 ⟨rfl, h1, f1⟩
  have H1 := Lib.hid h1; have F1 : Hid (Fr (fun k => k = g) w w1) := ((Fr.refl _ w).drewN 1).trans f1 (fun i _ h => h)
  clear h1 f1
  go_wp2_with fail
  refine ⟨fun _ h => (by cases h), ?_⟩
  refine os_done ⟨rfl, ?_⟩
  go_wp2_with fail
  refine wp_calm ?_
  refine wp_region_os (fun _ _ => True) [] (.move 0 (.move 1 (.move 2 (.move 3 (.move 4 (.move 5 (.move 6 (.move 7 (.move 8 (.move 9 (.move 10 (.move 11 (.run 12 [] .done))))))))))))) (by kernel_rfl) (by kernel_rfl) (fun _ _ _ _ _ h => nomatch h.1) ?_
  iterate 12 (
    refine os_move rfl rfl rfl (Nat.le_of_ble_eq_true rfl) ?_
    apply Exists.intro
    refine ⟨fun w' K hK => ?_, ?_⟩
    (focus
      go_simp
      exact hK))
  refine os_run rfl rfl (fun K hK => ?_)
  go_wp2_with fail
  refine (half_any _ _ _ _ _ _ (H1.out.drewN 1) _ _ _ hc hd hb _ 12 (.inr (.inl ⟨rfl, rfl⟩))).mono ?_
  rintro e w2 ⟨rfl, h1, f1⟩
  have H2 := Lib.hid h1; have F2 : Hid (Fr (fun k => k = g) w w2) := (F1.out.drewN 1).trans f1 (fun i _ h => h)
  clear h1 f1 H1 F1
  go_wp2_with fail
  refine ⟨fun _ h => (by cases h), ?_⟩
  refine os_done ⟨rfl, ?_⟩
  go_wp2_with fail
  refine wp_calm ?_
  refine wp_region_os (fun _ _ => True) [] (.move 0 (.move 1 (.move 2 (.move 3 (.move 4 (.move 5 (.move 6 (.move 7 (.move 8 (.move 9 (.move 10 (.move 11 (.run 12 [] .done))))))))))))) (by kernel_rfl) (by kernel_rfl) (fun _ _ _ _ _ h => nomatch h.1) ?_
  iterate 12 (
    refine os_move rfl rfl rfl (Nat.le_of_ble_eq_true rfl) ?_
    apply Exists.intro
    refine ⟨fun w' K hK => ?_, ?_⟩
    (focus
      go_simp
      exact hK))
  refine os_run rfl rfl (fun K hK => ?_)
  go_wp2_with fail
  refine (half_any _ _ _ _ _ _ (H2.out.drewN 1) _ _ _ ha hb hd _ 8 (.inr (.inr (.inl ⟨rfl, rfl⟩)))).mono ?_
  rintro e w3 ⟨rfl, h1, f1⟩
  have H3 := Lib.hid h1; have F3 : Hid (Fr (fun k => k = g) w w3) := (F2.out.drewN 1).trans f1 (fun i _ h => h)
  clear h1 f1 H2 F2
  go_wp2_with fail
  refine ⟨fun _ h => (by cases h), ?_⟩
  refine os_done ⟨rfl, ?_⟩
  go_wp2_with fail
  refine wp_calm ?_
  refine wp_region_os (fun _ _ => True) [] (.move 0 (.move 1 (.move 2 (.move 3 (.move 4 (.move 5 (.move 6 (.move 7 (.move 8 (.move 9 (.move 10 (.move 11 (.run 12 [] .done))))))))))))) (by kernel_rfl) (by kernel_rfl) (fun _ _ _ _ _ h => nomatch h.1) ?_
  iterate 12 (
    refine os_move rfl rfl rfl (Nat.le_of_ble_eq_true rfl) ?_
    apply Exists.intro
    refine ⟨fun w' K hK => ?_, ?_⟩
    (focus
      go_simp
      exact hK))
  refine os_run rfl rfl (fun K hK => ?_)
  go_wp2_with fail
  refine (half_any _ _ _ _ _ _ (H3.out.drewN 1) _ _ _ hc hd hb _ 7 (.inr (.inr (.inr ⟨rfl, rfl⟩)))).mono ?_
  rintro e w4 ⟨rfl, h1, f1⟩
  have H4 := Lib.hid h1; have F4 : Hid (Fr (fun k => k = g) w w4) := (F3.out.drewN 1).trans f1 (fun i _ h => h)
  clear h1 f1 H3 F3
  go_wp2_with fail
  refine ⟨fun _ h => (by cases h), ?_⟩
  refine os_done ⟨rfl, ?_⟩
  go_end0
  exact ⟨rfl, H4.out, F4.out⟩

theorem quarter_at (w : World) (g m : Nat) (s : List (BitVec 32)) (h : SqB w 91 g 16 m s) (a b c d : Nat) (A B C D : Int) (ha : a < 16) (hb : b < 16) (hc : c < 16) (hd : d < 16) (eA : A = a) (eB : B = b) (eC : C = c) (eD : D = d) :
    Calls Try.prog 65 #[.pointer (some ⟨g, 0, none⟩), .int .i64 A, .int .i64 B, .int .i64 C, .int .i64 D] w fun e w' => e = .returned (.tuple #[]) ∧ SqB w' 91 g 16 m (quarterP s a b c d) ∧ Fr (fun k => k = g) w w' := by
  subst eA eB eC eD
  exact quarter_any w g m s h a b c d ha hb hc hd

/-- the t-th quarter's four places -/
def plA (t : Nat) : Nat := t % 4
def plB (t : Nat) : Nat := 4 + (t % 4 + t / 4 % 2) % 4
def plC (t : Nat) : Nat := 8 + (t % 4 + 2 * (t / 4 % 2)) % 4
def plD (t : Nat) : Nat := 12 + (t % 4 + 3 * (t / 4 % 2)) % 4
theorem pl_at {k q : Nat} (h : q < 4) : plA (4 * k + q) = q ∧ plB (4 * k + q) = 4 + (q + k % 2) % 4 ∧ plC (4 * k + q) = 8 + (q + 2 * (k % 2)) % 4 ∧ plD (4 * k + q) = 12 + (q + 3 * (k % 2)) % 4 := by
  have h1 : (4 * k + q) % 4 = q := by omega
  have h2 : (4 * k + q) / 4 = k := by omega
  simp [plA, plB, plC, plD, h1, h2]
/-- t quarters -/
def turns (s : List (BitVec 32)) : Nat → List (BitVec 32)
  | 0 => s
  | t + 1 => quarterP (turns s t) (plA t) (plB t) (plC t) (plD t)
theorem turns_len (s : List (BitVec 32)) : ∀ t, (turns s t).length = s.length
  | 0 => rfl
  | t + 1 => by rw [turns, quarterP_len, turns_len]

set_option maxHeartbeats 2000000 in
theorem rounds_any (w : World) (g m : Nat) (s : List (BitVec 32)) (h : SqB w 91 g 16 m s) :
    Calls Try.prog 57 #[.pointer (some ⟨g, 0, none⟩)] w fun e w' => e = .returned (.tuple #[]) ∧ SqB w' 91 g 16 m (turns s 80) ∧ Fr (fun k => k = g) w w' := by
  have H := Lib.hid h
  clear h
  go_enter Try.func57, Try.ntmps57
  go_wp2_with fail
  go_loopw [5] (fun i w' => ∃ k : Nat, k ≤ 20 ∧ i = .int .i64 (k : Nat) ∧ Hid (SqB w' 91 g 16 m (turns s (4 * k))) ∧ Hid (Fr (fun k => k = g) w w')) (fun i _ => 20 - (intOf i).toNat)
  case atStart => exact ⟨0, Nat.zero_le _, rfl, H.out, Fr.refl _ _⟩
  case round =>
    obtain ⟨k, hk, rfl, Hk, Fk⟩ := hrel
    by_cases hlt : k < 20
    · have hkI : (k : Int) < 20 := by omega
      go_wp2_with fail
      go_loopw [8] (fun i w' => ∃ q : Nat, q ≤ 4 ∧ i = .int .i64 (q : Nat) ∧ Hid (SqB w' 91 g 16 m (turns s (4 * k + q))) ∧ Hid (Fr (fun k => k = g) w w')) (fun i _ => 4 - (intOf i).toNat)
      case atStart => exact ⟨0, Nat.zero_le _, rfl, Hk.out, Fk.out⟩
      case round =>
        obtain ⟨q, hq, rfl, Hq, Fq⟩ := hrel
        by_cases hlt : q < 4
        · have hqI : (q : Int) < 4 := by omega
          have hk0 : (0 : Int) ≤ (k : Int) := by omega
          have hq0 : (0 : Int) ≤ (q : Int) := by omega
          go_wp2_with fail
          refine (quarter_at _ _ _ _ Hq.out (plA (4 * k + q)) (plB (4 * k + q)) (plC (4 * k + q)) (plD (4 * k + q)) _ _ _ _ (by unfold plA; omega) (by unfold plB; omega) (by unfold plC; omega) (by unfold plD; omega)
            (by rw [(pl_at hlt).1]) (by rw [(pl_at hlt).2.1]; omega) (by rw [(pl_at hlt).2.2.1]; omega) (by rw [(pl_at hlt).2.2.2]; omega)).mono ?_
          rintro e w1 ⟨rfl, h1, f1⟩
          have H1 := Lib.hid h1; have F1 : Hid (Fr (fun k => k = g) w w1) := Fq.out.trans f1 (fun i _ h => h)
          clear h1 f1 hqI hk0 hq0
          go_wp2_with fail
          go_roundw
          case rel => exact ⟨q + 1, by omega, by go_num, H1.out, F1.out⟩
          case measure => simp [intOf]; omega
        · have hqI : decide ((q : Int) < 4) = false := decide_eq_false (by omega)
          have hq4 : q = 4 := by omega
          subst hq4
          go_wp2_with fail
          go_roundw
          case rel => exact ⟨k + 1, by omega, by go_num, Hq.out, Fq.out⟩
          case measure => simp [intOf]; omega
    · have hkI : decide ((k : Int) < 20) = false := decide_eq_false (by omega)
      have hk20 : k = 20 := by omega
      subst hk20
      go_wp2_with fail
      go_end0
      exact ⟨rfl, Hk.out, Fk.out⟩
end Go.Proofs.Ytklclbppdoahjaa
