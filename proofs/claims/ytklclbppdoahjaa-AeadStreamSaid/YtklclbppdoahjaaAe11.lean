/- Aead: AeadStream. -/
import Derived.Test.YtklclbppdoahjaaAe10
namespace Go.Proofs.Ytklclbppdoahjaa
set_option maxRecDepth 100000
open Go.RowKit
attribute [local go_sem] yld yldUpon_value

theorem run_max_int3_ {P : Program} (w : World) (ts : Array TypeId) (t : TypeId) (k k' k'' : IntKind) (x y z : Int) : (Builtin.max_ ts t #[.int k x, .int k' y, .int k'' z]).run P w = .ok (.int k (if (if x < y then y else x) < z then z else (if x < y then y else x))) w := by
  simp [Builtin.max_, Builtin.max2]
attribute [local go_sem] run_max_int3_
theorem Sl.some_ {w : World} {F : Nat → Prop} {A : Option Addr} {n c : Nat} {l : List UInt8} (h : Sl w F A n c l) (hn : 0 < n) : ∃ ad, A = some ad := by
  cases A with
  | some ad => exact ⟨ad, rfl⟩
  | none => have := (h.zero rfl).1; omega
set_option maxHeartbeats 8000000 in
theorem AeadStream_any (w : World) {ky nc : List UInt8} (hk : ky.length = 32) (hn : nc.length = 12) {A A' B : Option Addr} {n c n' c' m d : Nat} {head other b : List UInt8} (h1 : Sl w (Old w) A n c head) (h1' : Sl w (Old w) A' n' c' other) (h2 : Sl w (Old w) B m d b) (hb1 : n ≤ 140737488355000) (hb1' : n' ≤ 140737488355000) (hb2 : m ≤ 140737488355000) :
    Calls Try.prog 7 #[.agg (bs ky).toArray, .agg (bs nc).toArray, .slice A n c, .slice A' n' c', .slice B m d] w fun e w' => e = .returned (.bool true) ∧ Below w.heap.size w w' := by
  have H1 := Lib.hid h1; have H1' := Lib.hid h1'; have H2 := Lib.hid h2
  have L2 := Lib.hid h2.len
  clear h1 h1' h2
  have HK := Lib.hid hk; have HN := Lib.hid hn
  have uK := Lib.hid Try.underlying23
  have uN := Lib.hid Try.underlying25
  have i1 : Hid ((Try.prog.info? 23).map (·.size) = some (bs ky).length) := by rw [bs_length, HK.out]; exact Try.sizeKey
  have i2 : Hid ((Try.prog.info? 25).map (·.size) = some (bs nc).length) := by rw [bs_length, HN.out]; exact Try.sizeN
  obtain ⟨w0, hw0⟩ : ∃ w0, w0 = (w.alloc (.cells (bs ky).toArray 23)).alloc (.cells (bs nc).toArray 25) := ⟨_, rfl⟩
  have X0 : Hid (Has w w0 [(w.heap.size + 1, .cells (bs nc).toArray 25 (0, 0)), (w.heap.size, .cells (bs ky).toArray 23 (0, 0))]) := by
    have h1 : Has w (w.alloc (.cells (bs ky).toArray 23)) [(w.heap.size, .cells (bs ky).toArray 23 (0, 0))] := (Has.start (Below.refl _ w)).new (Below.al _ _) (Nat.le_refl _) (heap_alloc_new w _)
    have h2 := heap_alloc_new (w.alloc (.cells (bs ky).toArray 23)) (.cells (bs nc).toArray 25)
    rw [World.size_alloc] at h2
    rw [hw0]
    exact h1.new (Below.al _ _) (by rw [World.size_alloc]; exact Nat.le_refl _) h2
  subst hw0
  clear hk hn
  obtain ⟨q, hq⟩ : ∃ q : Int, (if (if n < n' then (n' : Int) else (n : Int)) < (m : Int) then (m : Int) else (if n < n' then (n' : Int) else (n : Int))) = q := ⟨_, rfl⟩
  go_enter Try.func7, Try.ntmps7
  by_cases hbig : 4096 < q
  · have HX := Lib.hid X0.out.bel
    clear X0
    go_wp2_with fail
    refine (works_any _).mono ?_
    rintro e w' ⟨rfl, hb⟩
    go_wp2_with fail
    go_ret
    exact ⟨rfl, Below.tr HX.out hb⟩
  have hbig2 : q ≤ 4096 := by omega
  have hn4 : Hid (n ≤ 4096 ∧ n' ≤ 4096 ∧ m ≤ 4096) := by show _ ∧ _ ∧ _; (repeat' split at hq) <;> omega
  clear hbig hb1 hb1' hb2
  go_wp2_with fail
  clear hq hbig2
  generalize (w.alloc (.cells (bs ky).toArray 23)).alloc (.cells (bs nc).toArray 25) = w0 at X0 ⊢
  have r1 : Hid (w0.rangeAt w.heap.size 0 (bs ky)) := range_block (X0.out.get (by simp) : w0.heap[w.heap.size]? = some (.cells (bs ky).toArray 23 (0, 0)))
  have r2 : Hid (w0.rangeAt (w.heap.size + 1) 0 (bs nc)) := range_block (X0.out.get (by simp) : w0.heap[w.heap.size + 1]? = some (.cells (bs nc).toArray 25 (0, 0)))
  have l1 := X0.out.lt (g := w.heap.size) (o := .cells (bs ky).toArray 23 (0, 0)) (by simp)
  have l2 := X0.out.lt (g := w.heap.size + 1) (o := .cells (bs nc).toArray 25 (0, 0)) (by simp)
  refine wp_calm ?_
  refine wp_region_os (fun _ w' => Below (w0).drew.heap.size (w0).drew w') [1, 2] (.take 1 (.take 2 (.move 3 (.move 4 (.run 0 [1, 2] (.run 5 [] (.move 6 .done))))))) (by kernel_rfl) (by kernel_rfl) (fun _ _ _ _ _ h => nomatch h.1) ?_
  have hS0 : Below (w0).drew.heap.size (w0).drew (w0).drew := Below.refl _ _
  refine os_load_mid 23 (.tmp 5) (w.heap.size) (0) (bs ky) _ hS0 rfl rfl rfl rfl rfl (uK.out) rfl (i1.out) (fun w' h => rangeAt_bel (range_dr (r1.out)) h l1) ⟨_, rfl, ?_⟩
  refine os_load_mid 25 (.tmp 6) (w.heap.size + 1) (0) (bs nc) _ hS0 rfl rfl rfl rfl rfl (uN.out) rfl (i2.out) (fun w' h => rangeAt_bel (range_dr (r2.out)) h l2) ⟨_, rfl, ?_⟩
  refine os_move rfl rfl rfl (Nat.le_of_ble_eq_true rfl) ?_
  apply Exists.intro
  refine ⟨fun w' K hK => ?_, ?_⟩
  (focus
    go_simp
    exact hK)
  refine os_move rfl rfl rfl (Nat.le_of_ble_eq_true rfl) ?_
  apply Exists.intro
  refine ⟨fun w' K hK => ?_, ?_⟩
  (focus
    go_simp
    exact hK)
  refine os_run rfl rfl (fun K hK => ?_)
  go_wp2_with fail
  refine (ANew_any _).mono ?_
  rintro e wq ⟨gq, rfl, hbq⟩
  go_wp2_with fail
  refine ⟨fun _ _ h => Below.tr h (hbq), ?_⟩
  replace hS0 := Below.tr hS0 (hbq)
  refine os_run rfl rfl (fun K hK => ?_)
  go_wp2_with fail
  refine (Seal_any _ HK.out HN.out (H1.out.belF (Below.tr X0.out.bel (Below.undr hS0)) (fun _ h => h)) (old_up (Below.tr X0.out.bel (Below.undr hS0))) (H2.out.belF (Below.tr X0.out.bel (Below.undr hS0)) (fun _ h => h)) (old_up (Below.tr X0.out.bel (Below.undr hS0))) (Nat.le_trans hn4.out.1 (by decide)) (Nat.le_trans hn4.out.2.2 (by decide))).mono ?_
  rintro e w1 ⟨A1, n1, c1, rfl, ho1, hbx⟩
  go_wp2_with fail
  refine ⟨fun _ hk => absurd hk List.not_mem_nil, ?_⟩
  replace hS0 := Below.tr hS0 (hbx)
  refine os_move rfl rfl rfl (Nat.le_of_ble_eq_true rfl) ?_
  apply Exists.intro
  refine ⟨fun w' K hK => ?_, ?_⟩
  (focus
    go_simp
    exact hK)
  refine os_done ⟨rfl, ?_⟩
  have hn1 : Hid (n1 = m + 16) := by have h := ho1.1; rw [bs_length, sealL_len, L2.out] at h; show _ = _; omega
  have X1 := Lib.hid (X0.out.bl (Below.undr hS0))
  have S1 := Lib.hid (Sl.of_own ho1)
  clear hS0 ho1 X0 r1 r2 l1 l2
  go_wp2_with fail
  have r1 : Hid (w1.rangeAt w.heap.size 0 (bs ky)) := range_block (X1.out.get (by simp) : w1.heap[w.heap.size]? = some (.cells (bs ky).toArray 23 (0, 0)))
  have r2 : Hid (w1.rangeAt (w.heap.size + 1) 0 (bs nc)) := range_block (X1.out.get (by simp) : w1.heap[w.heap.size + 1]? = some (.cells (bs nc).toArray 25 (0, 0)))
  have l1 := X1.out.lt (g := w.heap.size) (o := .cells (bs ky).toArray 23 (0, 0)) (by simp)
  have l2 := X1.out.lt (g := w.heap.size + 1) (o := .cells (bs nc).toArray 25 (0, 0)) (by simp)
  refine wp_calm ?_
  refine wp_region_os (fun _ w' => Below (w1).drew.heap.size (w1).drew w') [1, 2] (.take 1 (.take 2 (.move 3 (.move 4 (.run 0 [1, 2] (.run 5 [] (.move 6 .done))))))) (by kernel_rfl) (by kernel_rfl) (fun _ _ _ _ _ h => nomatch h.1) ?_
  have hS0 : Below (w1).drew.heap.size (w1).drew (w1).drew := Below.refl _ _
  refine os_load_mid 23 (.tmp 5) (w.heap.size) (0) (bs ky) _ hS0 rfl rfl rfl rfl rfl (uK.out) rfl (i1.out) (fun w' h => rangeAt_bel (range_dr (r1.out)) h l1) ⟨_, rfl, ?_⟩
  refine os_load_mid 25 (.tmp 6) (w.heap.size + 1) (0) (bs nc) _ hS0 rfl rfl rfl rfl rfl (uN.out) rfl (i2.out) (fun w' h => rangeAt_bel (range_dr (r2.out)) h l2) ⟨_, rfl, ?_⟩
  refine os_move rfl rfl rfl (Nat.le_of_ble_eq_true rfl) ?_
  apply Exists.intro
  refine ⟨fun w' K hK => ?_, ?_⟩
  (focus
    go_simp
    exact hK)
  refine os_move rfl rfl rfl (Nat.le_of_ble_eq_true rfl) ?_
  apply Exists.intro
  refine ⟨fun w' K hK => ?_, ?_⟩
  (focus
    go_simp
    exact hK)
  refine os_run rfl rfl (fun K hK => ?_)
  go_wp2_with fail
  refine (ANew_any _).mono ?_
  rintro e wq ⟨gq, rfl, hbq⟩
  go_wp2_with fail
  refine ⟨fun _ _ h => Below.tr h (hbq), ?_⟩
  replace hS0 := Below.tr hS0 (hbq)
  refine os_run rfl rfl (fun K hK => ?_)
  go_wp2_with fail
  refine (Seal_any _ HK.out HN.out (H1'.out.belF (Below.tr X1.out.bel (Below.undr hS0)) (fun _ h => h)) (old_up (Below.tr X1.out.bel (Below.undr hS0))) (H2.out.belF (Below.tr X1.out.bel (Below.undr hS0)) (fun _ h => h)) (old_up (Below.tr X1.out.bel (Below.undr hS0))) (Nat.le_trans hn4.out.2.1 (by decide)) (Nat.le_trans hn4.out.2.2 (by decide))).mono ?_
  rintro e w2 ⟨A2, n2, c2, rfl, ho2, hbx⟩
  go_wp2_with fail
  refine ⟨fun _ hk => absurd hk List.not_mem_nil, ?_⟩
  replace hS0 := Below.tr hS0 (hbx)
  refine os_move rfl rfl rfl (Nat.le_of_ble_eq_true rfl) ?_
  apply Exists.intro
  refine ⟨fun w' K hK => ?_, ?_⟩
  (focus
    go_simp
    exact hK)
  refine os_done ⟨rfl, ?_⟩
  obtain rfl : n2 = n1 := by have h := ho2.1; rw [bs_length, sealL_len, L2.out] at h; have := hn1.out; omega
  have X2 := Lib.hid (X1.out.bl (Below.undr hS0))
  have S2 := Lib.hid (Sl.of_own ho2)
  have T2 := Lib.hid (S1.out.belF (Below.undr hS0) (fun k h => h.2.1))
  have U2 : Hid (w1.heap.size ≤ w2.heap.size) := (Below.undr hS0).size
  clear hS0 ho2 X1 r1 r2 l1 l2 S1
  have r1 : Hid (w2.rangeAt w.heap.size 0 (bs ky)) := range_block (X2.out.get (by simp) : w2.heap[w.heap.size]? = some (.cells (bs ky).toArray 23 (0, 0)))
  have r2 : Hid (w2.rangeAt (w.heap.size + 1) 0 (bs nc)) := range_block (X2.out.get (by simp) : w2.heap[w.heap.size + 1]? = some (.cells (bs nc).toArray 25 (0, 0)))
  go_wp2_with (first
    | ((with_reducible refine lst_load_mid 23 (.tmp 5) rfl (w.heap.size) 0 rfl (bs ky) _ r1.out uK.out rfl i1.out ?_ ?_)
       (focus rfl))
    | ((with_reducible refine lst_load_mid 25 (.tmp 6) rfl (w.heap.size + 1) 0 rfl (bs nc) _ r2.out uN.out rfl i2.out ?_ ?_)
       (focus rfl)))
  clear r1 r2
  refine (Xor_any w2 ky nc 1 HK.out HN.out (H2.out.belF X2.out.bel (fun _ h => h)) (old_up X2.out.bel) (Nat.le_trans hn4.out.2.2 (by decide))).mono ?_
  rintro e w3 ⟨A3, c3, rfl, ho3, hb3⟩
  have X3 := Lib.hid (X2.out.bl hb3)
  have S3 := Lib.hid (Sl.of_own ho3)
  have V3 := Lib.hid (S2.out.belF hb3 (fun k h => h.2.1))
  have T3 := Lib.hid (T2.out.belF hb3 (fun k h => Nat.lt_of_lt_of_le h.2.1 U2.out))
  clear ho3 hb3 S2 T2 U2 X2
  obtain ⟨a1, rfl⟩ := T3.out.some_ (by have := hn1.out; omega)
  obtain ⟨a2, rfl⟩ := V3.out.some_ (by have := hn1.out; omega)
  have p1 := Lib.hid (show Sl w3 _ (some a1) m c1 (xorP ky 1 nc b) from Sl.take_ (l' := aeadTag ky nc head (streamL ky nc b)) T3.out (by rw [xorP_len]; exact L2.out))
  have p2 := Lib.hid (show Sl w3 _ (some a2) m c2 (xorP ky 1 nc b) from Sl.take_ (l' := aeadTag ky nc other (streamL ky nc b)) V3.out (by rw [xorP_len]; exact L2.out))
  have hc1 : m ≤ c1 := by have := T3.out.cap; have := hn1.out; omega
  have hc2 : m ≤ c2 := by have := V3.out.cap; have := hn1.out; omega
  have hm4 := hn4.out.2.2
  have hn1I : (m : Int) + 16 = (n2 : Int) := by have := hn1.out; omega
  go_wp2_with fail
  refine (Same_at p1.out S3.out (by have := hn4.out; omega) (by have := hn4.out; omega) true (by simp)).mono ?_
  rintro e w' ⟨rfl, x1, rfl⟩
  go_wp2_with fail
  refine (Same_at (p2.out.dr x1) (S3.out.dr x1) (by have := hn4.out; omega) (by have := hn4.out; omega) true (by simp)).mono ?_
  rintro e w' ⟨rfl, x2, rfl⟩
  go_wp2_with fail
  by_cases hho : head = other
  · refine (Same_at ((H1.out.belF X3.out.bel (fun _ h => h)).dr _) ((H1'.out.belF X3.out.bel (fun _ h => h)).dr _) (by have := hn4.out; omega) (by have := hn4.out; omega) true (by simp [hho])).mono ?_
    rintro e w' ⟨rfl, x3, rfl⟩
    go_wp2_with fail
    refine (Same_at (T3.out.dr _) (V3.out.dr _) (by have := hn4.out; omega) (by have := hn4.out; omega) true (by simp [hho])).mono ?_
    rintro e w' ⟨rfl, x4, rfl⟩
    go_wp2_with fail
    refine (works_any _).mono ?_
    rintro e w' ⟨rfl, hb⟩
    go_wp2_with fail
    go_ret
    exact ⟨rfl, Below.tr (Below.tr X3.out.bel (Below.drN _ _)) hb⟩
  · refine (Same_at ((H1.out.belF X3.out.bel (fun _ h => h)).dr _) ((H1'.out.belF X3.out.bel (fun _ h => h)).dr _) (by have := hn4.out; omega) (by have := hn4.out; omega) false (by simp [hho])).mono ?_
    rintro e w' ⟨rfl, x3, rfl⟩
    go_wp2_with fail
    refine (works_any _).mono ?_
    rintro e w' ⟨rfl, hb⟩
    go_wp2_with fail
    go_ret
    exact ⟨rfl, Below.tr (Below.tr X3.out.bel (Below.drN _ _)) hb⟩
end Go.Proofs.Ytklclbppdoahjaa
