/- PolySums' walk. -/
import Derived.Test.YtkikdhjckjmolaaPs11
import Derived.Test.YtkikdhjckjmolaaPo17
import Derived.Test.YtkikdhjckjmolaaPo19
namespace Go.Proofs.Ytkikdhjckjmolaa
open Go.RowKit
attribute [local go_sem] yld yldUpon_value

set_option maxRecDepth 100000 in
set_option maxHeartbeats 8000000 in
theorem PolySums_any (w : World) (K : List UInt8) (hK : K.length = 32) (A : Option Addr) (n c : Nat) (l : List UInt8) (h : Sl w (Old w) A n c l) :
    Calls Try.prog 3 #[.agg (bs K).toArray, .slice A n c] w fun e w' => e = .returned (.bool true) ∧ Below w.heap.size w w' := by
  have HK := Lib.hid hK; have H := Lib.hid h; have HL := Lib.hid h.len
  clear hK h
  have uK := Lib.hid Try.underlying23
  have uT := Lib.hid Try.underlying28
  have i1 : Hid ((Try.prog.info? 23).map (·.size) = some (bs K).length) := by rw [bs_length, HK.out]; exact Try.sizeKey
  have X0 : Hid (Has w (w.alloc (.cells (bs K).toArray 23)) [(w.heap.size, .cells (bs K).toArray 23 (0, 0))]) := (Has.start (Below.refl _ w)).new (Below.al _ _) (Nat.le_refl _) (heap_alloc_new w _)
  go_enter Try.func3, Try.ntmps3
  by_cases hlt : 1024 < n
  · have hI : (1024 : Int) < (n : Int) := by omega
    go_wp2_with fail
    refine (known_any _).mono ?_
    rintro e w5 ⟨rfl, hb⟩
    go_wp2_with fail
    go_ret
    exact ⟨rfl, Below.tr (Below.al w _) hb⟩
  · have hI : ¬ (1024 : Int) < (n : Int) := by omega
    have HN : Hid (n ≤ 1024) := Lib.hid (by omega)
    go_wp2_with fail
    have H1 := Lib.hid (H.out.belF (Below.al w (.cells (bs K).toArray 23)) (fun _ h => h))
    refine (LentBytes_sl H1.out (fun k hk => Nat.lt_of_lt_of_le hk X0.out.bel.size) (by have := HN.out; omega)).mono ?_
    rintro e w2 ⟨g2, c2, rfl, ho2, hb2⟩
    have X2 := Lib.hid (X0.out.bl hb2)
    have P2 := Lib.hid (Sl.of_own ho2)
    have S2 := Lib.hid (H1.out.belF hb2 (fun k hk => Nat.lt_of_lt_of_le hk X0.out.bel.size))
    have T2 := Lib.hid (P2.out.take_ HL.out)
    have hc2 : n ≤ c2 := T2.out.cap
    have hc2I : (n : Int) ≤ (c2 : Int) := by omega
    have hz2 := Lib.hid X2.out.bel.size
    have r1 : Hid (w2.rangeAt w.heap.size 0 (bs K)) := range_block (X2.out.get (by simp) : w2.heap[w.heap.size]? = some (.cells (bs K).toArray 23 (0, 0)))
    have l1 := X2.out.lt (g := w.heap.size) (o := .cells (bs K).toArray 23 (0, 0)) (by simp)
    clear ho2 hb2 X0 H1
    go_wp2_with fail
    refine wp_calm ?_
    refine wp_region_os (fun _ w' => Below (w2).drew.heap.size (w2).drew w') [0, 6] (.take 0 (.move 1 (.move 2 (.move 3 (.move 4 (.take 6 (.move 7 (.run 5 [6] (.run 8 [0] (.move 9 (.move 10 (.move 11 (.move 12 (.run 13 [0, 6] (.move 14 (.move 15 (.run 16 [0, 6] (.move 17 (.move 18 .done))))))))))))))))))) (by kernel_rfl) (by kernel_rfl) (fun _ _ _ _ _ h => nomatch h.1) ?_
    have hS0 : Below (w2).drew.heap.size (w2).drew (w2).drew := Below.refl _ _
    refine os_load_mid 23 (.tmp 2) (w.heap.size) (0) (bs K) _ hS0 rfl rfl rfl rfl rfl (uK.out) rfl (i1.out) (fun w' h => rangeAt_bel (range_dr (r1.out)) h l1) ⟨_, rfl, ?_⟩
    refine os_move rfl rfl rfl (Nat.le_of_ble_eq_true rfl) ?_
    apply Exists.intro
    refine ⟨fun w' K hK => ?_, ?_⟩
    (focus
      go_simp
      exact hK)
    refine os_move rfl rfl rfl (Nat.le_of_ble_eq_true rfl) ?_
    apply Exists.intro
    refine ⟨fun w' K hK => ?_, ?_⟩
    (focus
      go_simp
      exact hK)
    refine os_move rfl rfl rfl (Nat.le_of_ble_eq_true rfl) ?_
    apply Exists.intro
    refine ⟨fun w' K hK => ?_, ?_⟩
    (focus
      go_simp
      exact hK)
    refine os_move rfl rfl rfl (Nat.le_of_ble_eq_true rfl) ?_
    apply Exists.intro
    refine ⟨fun w' K hK => ?_, ?_⟩
    (focus
      go_simp
      exact hK)
    refine os_load_mid 23 (.tmp 2) (w.heap.size) (0) (bs K) _ hS0 rfl rfl rfl rfl rfl (uK.out) rfl (i1.out) (fun w' h => rangeAt_bel (range_dr (r1.out)) h l1) ⟨_, rfl, ?_⟩
    refine os_move rfl rfl rfl (Nat.le_of_ble_eq_true rfl) ?_
    apply Exists.intro
    refine ⟨fun w' K hK => ?_, ?_⟩
    (focus
      go_simp
      exact hK)
    refine os_run rfl rfl (fun K hK => ?_)
    go_wp2_with fail
    refine (Sum_any (T2.out.belF (Below.undr hS0) (fun k hk => hk.2.1)) (fun k hk => Nat.lt_of_lt_of_le hk.2.1 (Below.undr hS0).size) (by have := HN.out; omega) HK.out).mono ?_
    rintro e w8 ⟨rfl, hb8⟩
    go_wp2_with fail
    refine ⟨fun _ _ h => Below.tr h (hb8), ?_⟩
    replace hS0 := Below.tr hS0 (hb8)
    refine os_run rfl rfl (fun K hK => ?_)
    go_wp2_with fail
    refine (rSum_any HK.out (S2.out.belF (Below.undr hS0) (fun k hk => Nat.lt_of_lt_of_le hk hz2.out)) (fun k hk => Nat.lt_of_lt_of_le (Nat.lt_of_lt_of_le hk hz2.out) (Below.undr hS0).size) (by have := HN.out; omega)).mono ?_
    rintro e w9 ⟨rfl, hb9⟩
    go_wp2_with fail
    refine ⟨fun _ _ h => Below.tr h (hb9), ?_⟩
    replace hS0 := Below.tr hS0 (hb9)
    refine os_eql_t 28 (.tmp 17) (.tmp 20) _ 16 (tagL K l) (tagL K l) rfl rfl rfl rfl rfl rfl (uT.out) (by kernel_rfl) (tagL_len _ _) (tagL_len _ _) (true) (by simp) ⟨_, rfl, ?_⟩
    refine os_move rfl rfl rfl (Nat.le_of_ble_eq_true rfl) ?_
    apply Exists.intro
    refine ⟨fun w' K hK => ?_, ?_⟩
    (focus
      go_simp
      exact hK)
    refine os_moveg rfl rfl rfl (Nat.le_of_ble_eq_true rfl) ?_
    apply Exists.intro
    refine ⟨fun w' K hK => ?_, ?_⟩
    (focus
      go_simp
      exact hK)
    refine os_moveg rfl rfl rfl (Nat.le_of_ble_eq_true rfl) ?_
    apply Exists.intro
    refine ⟨fun w' K hK => ?_, ?_⟩
    (focus
      go_simp
      exact hK)
    refine os_run rfl rfl (fun K hK => ?_)
    go_wp2_with fail
    refine (KeptBytes_sl (P2.out.belF (Below.undr hS0) (fun k hk => hk.2.1)) (fun k hk => Nat.lt_of_lt_of_le hk.2.1 (Below.undr hS0).size) (S2.out.belF (Below.undr hS0) (fun k hk => Nat.lt_of_lt_of_le hk hz2.out)) (fun k hk => Nat.lt_of_lt_of_le (Nat.lt_of_lt_of_le hk hz2.out) (Below.undr hS0).size) (by have := HN.out; omega)).mono ?_
    rintro e w10 ⟨rfl, hb10⟩
    go_wp2_with fail
    refine ⟨fun _ _ h => Below.tr h (hb10), ?_⟩
    replace hS0 := Below.tr hS0 (hb10)
    refine os_move rfl rfl rfl (Nat.le_of_ble_eq_true rfl) ?_
    apply Exists.intro
    refine ⟨fun w' K hK => ?_, ?_⟩
    (focus
      go_simp
      exact hK)
    refine os_move rfl rfl rfl (Nat.le_of_ble_eq_true rfl) ?_
    apply Exists.intro
    refine ⟨fun w' K hK => ?_, ?_⟩
    (focus
      go_simp
      exact hK)
    refine os_run rfl rfl (fun K hK => ?_)
    go_wp2_with fail
    refine (known_any _).mono ?_
    rintro e w11 ⟨rfl, hb11⟩
    go_wp2_with fail
    refine ⟨fun _ _ h => Below.tr h (hb11), ?_⟩
    replace hS0 := Below.tr hS0 (hb11)
    refine os_move rfl rfl rfl (Nat.le_of_ble_eq_true rfl) ?_
    apply Exists.intro
    refine ⟨fun w' K hK => ?_, ?_⟩
    (focus
      go_simp
      exact hK)
    refine os_move rfl rfl rfl (Nat.le_of_ble_eq_true rfl) ?_
    apply Exists.intro
    refine ⟨fun w' K hK => ?_, ?_⟩
    (focus
      go_simp
      exact hK)
    refine os_done ⟨rfl, ?_⟩
    go_wp2_with fail
    go_ret
    exact ⟨rfl, Below.tr X2.out.bel (Below.undr hS0)⟩
theorem PolySumsW_any (w : World) (K : List UInt8) (hK : K.length = 32) {A : Option Addr} {n c : Nat} {l : List UInt8} (h : Sl w (Old w) A n c l) (_ : n ≤ 140737488355000) :
    Calls Try.prog 3 #[.agg (bs K).toArray, .slice A n c] w fun e w' => e = .returned (.bool true) ∧ Below w.heap.size w w' := PolySums_any w K hK A n c l h
end Go.Proofs.Ytkikdhjckjmolaa
