/- Aead: AeadBack. -/
import Derived.Test.YtklclbppdoahjaaAe9
namespace Go.Proofs.Ytklclbppdoahjaa
set_option maxRecDepth 100000
open Go.RowKit
attribute [local go_sem] yld yldUpon_value

theorem old_up {w w' : World} (h : Below w.heap.size w w') : ∀ k, Old w k → k < w'.heap.size := fun _ hk => Nat.lt_of_lt_of_le hk h.size
set_option maxHeartbeats 8000000 in
theorem AeadBack_any (w : World) {ky nc : List UInt8} (hk : ky.length = 32) (hn : nc.length = 12) {A B : Option Addr} {n c m d : Nat} {head b : List UInt8} (h1 : Sl w (Old w) A n c head) (h2 : Sl w (Old w) B m d b) (hb1 : n ≤ 140737488355000) (hb2 : m ≤ 140737488355000) :
    Calls Try.prog 5 #[.agg (bs ky).toArray, .agg (bs nc).toArray, .slice A n c, .slice B m d] w fun e w' => e = .returned (.bool true) ∧ Below w.heap.size w w' := by
  have H1 := Lib.hid h1; have H2 := Lib.hid h2
  have L2 := Lib.hid h2.len
  clear h1 h2
  have HK := Lib.hid hk; have HN := Lib.hid hn
  have uK := Lib.hid Try.underlying23
  have uN := Lib.hid Try.underlying25
  have i1 : Hid ((Try.prog.info? 23).map (·.size) = some (bs ky).length) := by rw [bs_length, HK.out]; exact Try.sizeKey
  have i2 : Hid ((Try.prog.info? 25).map (·.size) = some (bs nc).length) := by rw [bs_length, HN.out]; exact Try.sizeN
  obtain ⟨w0, hw0⟩ : ∃ w0, w0 = (w.alloc (.cells (bs ky).toArray 23)).alloc (.cells (bs nc).toArray 25) := ⟨_, rfl⟩
  have X0 : Hid (Has w w0 [(w.heap.size + 1, .cells (bs nc).toArray 25 (0, 0)), (w.heap.size, .cells (bs ky).toArray 23 (0, 0))]) := by
    have h1 : Has w (w.alloc (.cells (bs ky).toArray 23)) [(w.heap.size, .cells (bs ky).toArray 23 (0, 0))] := (Has.start (Below.refl _ w)).new (Below.al _ _) (Nat.le_refl _) (heap_alloc_new w _)
    have h2 := heap_alloc_new (w.alloc (.cells (bs ky).toArray 23)) (.cells (bs nc).toArray 25)
    rw [World.size_alloc] at h2
    rw [hw0]
    exact h1.new (Below.al _ _) (by rw [World.size_alloc]; exact Nat.le_refl _) h2
  subst hw0
  clear hk hn
  obtain ⟨q, hq⟩ : ∃ q : Int, (if n < m then (m : Int) else (n : Int)) = q := ⟨_, rfl⟩
  go_enter Try.func5, Try.ntmps5
  by_cases hbig : 4096 < q
  · have HX := Lib.hid X0.out.bel
    clear X0
    go_wp2_with fail
    refine (works_any _).mono ?_
    rintro e w' ⟨rfl, hb⟩
    go_wp2_with fail
    go_ret
    exact ⟨rfl, Below.tr HX.out hb⟩
  have hbig2 : q ≤ 4096 := by omega
  have hn4 : Hid (n ≤ 4096 ∧ m ≤ 4096) := by show _ ∧ _; split at hq <;> omega
  clear hbig hb1 hb2
  go_wp2_with fail
  generalize (w.alloc (.cells (bs ky).toArray 23)).alloc (.cells (bs nc).toArray 25) = w0 at X0 ⊢
  refine (ANew_any w0).mono ?_
  rintro e w1 ⟨gc, rfl, hbc⟩
  have X1 := Lib.hid (X0.out.bl hbc)
  clear hbc X0 hq hbig2
  have r1 : Hid (w1.rangeAt w.heap.size 0 (bs ky)) := range_block (X1.out.get (by simp) : w1.heap[w.heap.size]? = some (.cells (bs ky).toArray 23 (0, 0)))
  have r2 : Hid (w1.rangeAt (w.heap.size + 1) 0 (bs nc)) := range_block (X1.out.get (by simp) : w1.heap[w.heap.size + 1]? = some (.cells (bs nc).toArray 25 (0, 0)))
  go_wp2_with (first
    | ((with_reducible refine lst_load_mid 23 (.tmp 4) rfl (w.heap.size) 0 rfl (bs ky) _ r1.out uK.out rfl i1.out ?_ ?_)
       (focus rfl))
    | ((with_reducible refine lst_load_mid 25 (.tmp 5) rfl (w.heap.size + 1) 0 rfl (bs nc) _ r2.out uN.out rfl i2.out ?_ ?_)
       (focus rfl)))
  clear r1 r2
  refine (Seal_any _ HK.out HN.out (H1.out.belF X1.out.bel (fun _ h => h)) (old_up X1.out.bel) (H2.out.belF X1.out.bel (fun _ h => h)) (old_up X1.out.bel) (Nat.le_trans hn4.out.1 (by decide)) (Nat.le_trans hn4.out.2 (by decide))).mono ?_
  rintro e w2 ⟨A2, n2, c2, rfl, ho2, hb2⟩
  have hn2 : Hid (n2 = m + 16) := by have h := ho2.1; rw [bs_length, sealL_len, L2.out] at h; show _ = _; omega
  have X2 := Lib.hid (X1.out.bl hb2)
  have S2 := Lib.hid (Sl.of_own ho2)
  clear ho2 hb2 X1
  have r1 : Hid (w2.rangeAt w.heap.size 0 (bs ky)) := range_block (X2.out.get (by simp) : w2.heap[w.heap.size]? = some (.cells (bs ky).toArray 23 (0, 0)))
  have r2 : Hid (w2.rangeAt (w.heap.size + 1) 0 (bs nc)) := range_block (X2.out.get (by simp) : w2.heap[w.heap.size + 1]? = some (.cells (bs nc).toArray 25 (0, 0)))
  go_wp2_with (first
    | ((with_reducible refine lst_load_mid 23 (.tmp 4) rfl (w.heap.size) 0 rfl (bs ky) _ r1.out uK.out rfl i1.out ?_ ?_)
       (focus rfl))
    | ((with_reducible refine lst_load_mid 25 (.tmp 5) rfl (w.heap.size + 1) 0 rfl (bs nc) _ r2.out uN.out rfl i2.out ?_ ?_)
       (focus rfl)))
  clear r1 r2
  refine (Open_any _ HK.out HN.out (H1.out.belF X2.out.bel (fun _ h => h)) (old_up X2.out.bel) S2.out (fun _ h => h.2.1) (Nat.le_trans hn4.out.1 (by decide)) (by have := hn4.out; have := hn2.out; omega)).mono ?_
  rw [open_seal]
  rintro e w3 ⟨⟨A3, n3, c3, rfl, ho3⟩, hb3⟩
  obtain rfl : m = n3 := by have h := ho3.1; simp only [Option.getD_some] at h; rw [bs_length, L2.out] at h; omega
  have X3 := Lib.hid (X2.out.bl hb3)
  have S3 := Lib.hid (Sl.of_own ho3)
  clear ho3 hb3 X2 S2
  have hm4 := hn4.out.2
  have hn2I : (m : Int) + 16 = (n2 : Int) := by have := hn2.out; omega
  go_wp2_with fail
  refine (Same_at S3.out (H2.out.belF X3.out.bel (fun _ h => h)) (by have := hn4.out; omega) (by have := hn4.out; omega) true (by simp)).mono ?_
  rintro e w4 ⟨rfl, x4, rfl⟩
  have X4 := Lib.hid (X3.out.bl (Below.drN w3 x4))
  generalize w3.drewN x4 = w4 at X4 ⊢
  clear X3 S3 hn2I
  have r1 : Hid (w4.rangeAt w.heap.size 0 (bs ky)) := range_block (X4.out.get (by simp) : w4.heap[w.heap.size]? = some (.cells (bs ky).toArray 23 (0, 0)))
  have r2 : Hid (w4.rangeAt (w.heap.size + 1) 0 (bs nc)) := range_block (X4.out.get (by simp) : w4.heap[w.heap.size + 1]? = some (.cells (bs nc).toArray 25 (0, 0)))
  go_wp2_with (first
    | ((with_reducible refine lst_load_mid 23 (.tmp 4) rfl (w.heap.size) 0 rfl (bs ky) _ r1.out uK.out rfl i1.out ?_ ?_)
       (focus rfl))
    | ((with_reducible refine lst_load_mid 25 (.tmp 5) rfl (w.heap.size + 1) 0 rfl (bs nc) _ r2.out uN.out rfl i2.out ?_ ?_)
       (focus rfl)))
  clear r1 r2
  refine (Open_any _ HK.out HN.out (H1.out.belF X4.out.bel (fun _ h => h)) (old_up X4.out.bel) (H2.out.belF X4.out.bel (fun _ h => h)) (old_up X4.out.bel) (Nat.le_trans hn4.out.1 (by decide)) (Nat.le_trans hn4.out.2 (by decide))).mono ?_
  rcases hop : openL ky nc head b with _ | p
  · rintro e w5 ⟨⟨A5, n5, c5, rfl, ho5⟩, hb5⟩
    obtain rfl : n5 = 0 := by have h := ho5.1; simpa [bs] using h.symm
    have X5 := Lib.hid (X4.out.bl hb5)
    clear ho5 hb5 X4
    go_wp2_with fail
    refine (works_any _).mono ?_
    rintro e w' ⟨rfl, hb⟩
    go_wp2_with fail
    go_ret
    exact ⟨rfl, Below.tr X5.out.bel hb⟩
  · have hpl := openL_len hop
    have hps := Lib.hid (seal_open hop)
    rintro e w5 ⟨⟨A5, n5, c5, rfl, ho5⟩, hb5⟩
    simp only [Option.getD_some] at ho5
    have hp5 : Hid (p.length = n5) := by have h := ho5.1; rw [bs_length] at h; show _ = _; omega
    have hmI : (m : Int) - 16 = (n5 : Int) := by have := hp5.out; have := L2.out; omega
    have X5 := Lib.hid (X4.out.bl hb5)
    have S5 := Lib.hid (Sl.of_own ho5)
    clear ho5 hb5 X4 hpl hop
    have r1 : Hid (w5.rangeAt w.heap.size 0 (bs ky)) := range_block (X5.out.get (by simp) : w5.heap[w.heap.size]? = some (.cells (bs ky).toArray 23 (0, 0)))
    have r2 : Hid (w5.rangeAt (w.heap.size + 1) 0 (bs nc)) := range_block (X5.out.get (by simp) : w5.heap[w.heap.size + 1]? = some (.cells (bs nc).toArray 25 (0, 0)))
    go_wp2_with (first
      | ((with_reducible refine lst_load_mid 23 (.tmp 4) rfl (w.heap.size) 0 rfl (bs ky) _ r1.out uK.out rfl i1.out ?_ ?_)
         (focus rfl))
      | ((with_reducible refine lst_load_mid 25 (.tmp 5) rfl (w.heap.size + 1) 0 rfl (bs nc) _ r2.out uN.out rfl i2.out ?_ ?_)
         (focus rfl)))
    clear r1 r2
    refine (Seal_any _ HK.out HN.out (H1.out.belF X5.out.bel (fun _ h => h)) (old_up X5.out.bel) S5.out (fun _ h => h.2.1) (Nat.le_trans hn4.out.1 (by decide)) (by have := hn4.out; omega)).mono ?_
    rw [hps.out]
    rintro e w6 ⟨A6, n6, c6, rfl, ho6, hb6⟩
    obtain rfl : m = n6 := by have h := ho6.1; rw [bs_length, L2.out] at h; omega
    have X6 := Lib.hid (X5.out.bl hb6)
    have S6 := Lib.hid (Sl.of_own ho6)
    clear ho6 hb6 X5 S5
    go_wp2_with fail
    refine (Same_at S6.out (H2.out.belF X6.out.bel (fun _ h => h)) (by have := hn4.out; omega) (by have := hn4.out; omega) true (by simp)).mono ?_
    rintro e w7 ⟨rfl, x7, rfl⟩
    go_wp2_with fail
    refine (works_any _).mono ?_
    rintro e w' ⟨rfl, hb⟩
    go_wp2_with fail
    go_ret
    exact ⟨rfl, Below.tr (Below.tr X6.out.bel (Below.drN _ _)) hb⟩
end Go.Proofs.Ytklclbppdoahjaa
