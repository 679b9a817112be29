/- Aead: AeadTags. -/
import Derived.Test.YtklclbppdoahjaaAe11
namespace Go.Proofs.Ytklclbppdoahjaa
set_option maxRecDepth 100000
open Go.RowKit
attribute [local go_sem] yld yldUpon_value

theorem open_tag (ky nc head b tg : List UInt8) (ht : tg.length = 16) : (openL ky nc head (streamL ky nc b ++ tg)).isSome = (streamL ky nc b ++ tg == sealL ky nc head b) := by
  unfold openL sealL
  have hl : (streamL ky nc b ++ tg).length = b.length + 16 := by rw [List.length_append, streamL_len, ht]
  rw [if_neg (by omega), hl, Nat.add_sub_cancel, List.take_left' (streamL_len _ _ _), List.drop_left' (streamL_len _ _ _)]
  by_cases h : tg = aeadTag ky nc head (streamL ky nc b)
  · rw [if_pos h, h]; simp
  · rw [if_neg h]
    simp [h]
theorem open_short (ky nc head s : List UInt8) (h : s.length = 15) : openL ky nc head s = none := by unfold openL; rw [if_pos (by omega)]
set_option maxHeartbeats 1800000 in
theorem AeadTags_any (w : World) {ky nc tg : List UInt8} (hk : ky.length = 32) (hn : nc.length = 12) (ht : tg.length = 16) {A B : Option Addr} {n c m d : Nat} {head b : List UInt8} (h1 : Sl w (Old w) A n c head) (h2 : Sl w (Old w) B m d b) (hb1 : n ≤ 140737488355000) (hb2 : m ≤ 140737488355000) :
    Calls Try.prog 6 #[.agg (bs ky).toArray, .agg (bs nc).toArray, .slice A n c, .slice B m d, .agg (bs tg).toArray] w fun e w' => e = .returned (.bool true) ∧ Below w.heap.size w w' := by
  have H1 := Lib.hid h1; have H2 := Lib.hid h2
  have L2 := Lib.hid h2.len
  clear h1 h2
  have HK := Lib.hid hk; have HN := Lib.hid hn; have HT := Lib.hid ht
  have uK := Lib.hid Try.underlying23
  have uN := Lib.hid Try.underlying25
  have i1 : Hid ((Try.prog.info? 23).map (·.size) = some (bs ky).length) := by rw [bs_length, HK.out]; exact Try.sizeKey
  have i2 : Hid ((Try.prog.info? 25).map (·.size) = some (bs nc).length) := by rw [bs_length, HN.out]; exact Try.sizeN
  obtain ⟨w0, hw0⟩ : ∃ w0, w0 = ((w.alloc (.cells (bs ky).toArray 23)).alloc (.cells (bs nc).toArray 25)).alloc (.cells (bs tg).toArray 46) := ⟨_, rfl⟩
  have X0 : Hid (Has w w0 [(w.heap.size + 2, .cells (bs tg).toArray 46 (0, 0)), (w.heap.size + 1, .cells (bs nc).toArray 25 (0, 0)), (w.heap.size, .cells (bs ky).toArray 23 (0, 0))]) := by
    have h1 : Has w (w.alloc (.cells (bs ky).toArray 23)) [(w.heap.size, .cells (bs ky).toArray 23 (0, 0))] := (Has.start (Below.refl _ w)).new (Below.al _ _) (Nat.le_refl _) (heap_alloc_new w _)
    have h2 := heap_alloc_new (w.alloc (.cells (bs ky).toArray 23)) (.cells (bs nc).toArray 25)
    rw [World.size_alloc] at h2
    have h3 := h1.new (Below.al _ _) (by rw [World.size_alloc]; exact Nat.le_refl _) h2
    have h4 := heap_alloc_new ((w.alloc (.cells (bs ky).toArray 23)).alloc (.cells (bs nc).toArray 25)) (.cells (bs tg).toArray 46)
    rw [World.size_alloc, World.size_alloc] at h4
    rw [hw0]
    exact h3.new (Below.al _ _) (by rw [World.size_alloc, World.size_alloc]; exact Nat.le_refl _) h4
  subst hw0
  clear hk hn ht
  obtain ⟨q, hq⟩ : ∃ q : Int, (if n < m then (m : Int) else (n : Int)) = q := ⟨_, rfl⟩
  go_enter Try.func6, Try.ntmps6
  by_cases hbig : 4096 < q
  · have HX := Lib.hid X0.out.bel
    clear X0
    go_wp2_with fail
    refine (works_any _).mono ?_
    rintro e w' ⟨rfl, hb⟩
    go_wp2_with fail
    go_ret
    exact ⟨rfl, Below.tr HX.out hb⟩
  have hbig2 : q ≤ 4096 := by omega
  have hn4 : Hid (n ≤ 4096 ∧ m ≤ 4096) := by show _ ∧ _; split at hq <;> omega
  clear hbig hb1 hb2
  go_wp2_with fail
  generalize ((w.alloc (.cells (bs ky).toArray 23)).alloc (.cells (bs nc).toArray 25)).alloc (.cells (bs tg).toArray 46) = w0 at X0 ⊢
  refine (ANew_any w0).mono ?_
  rintro e w1 ⟨gc, rfl, hbc⟩
  have X1 := Lib.hid (X0.out.bl hbc)
  clear hbc X0 hq hbig2
  have r1 : Hid (w1.rangeAt w.heap.size 0 (bs ky)) := range_block (X1.out.get (by simp) : w1.heap[w.heap.size]? = some (.cells (bs ky).toArray 23 (0, 0)))
  have r2 : Hid (w1.rangeAt (w.heap.size + 1) 0 (bs nc)) := range_block (X1.out.get (by simp) : w1.heap[w.heap.size + 1]? = some (.cells (bs nc).toArray 25 (0, 0)))
  go_wp2_with (first
    | ((with_reducible refine lst_load_mid 23 (.tmp 5) rfl (w.heap.size) 0 rfl (bs ky) _ r1.out uK.out rfl i1.out ?_ ?_)
       (focus rfl))
    | ((with_reducible refine lst_load_mid 25 (.tmp 6) rfl (w.heap.size + 1) 0 rfl (bs nc) _ r2.out uN.out rfl i2.out ?_ ?_)
       (focus rfl)))
  clear r1 r2
  refine (Seal_any _ HK.out HN.out (H1.out.belF X1.out.bel (fun _ h => h)) (old_up X1.out.bel) (H2.out.belF X1.out.bel (fun _ h => h)) (old_up X1.out.bel) (Nat.le_trans hn4.out.1 (by decide)) (Nat.le_trans hn4.out.2 (by decide))).mono ?_
  rintro e w2 ⟨A2, n2, c2, rfl, ho2, hb2⟩
  have hn2 : Hid (n2 = m + 16) := by have h := ho2.1; rw [bs_length, sealL_len, L2.out] at h; show _ = _; omega
  have X2 := Lib.hid (X1.out.bl hb2)
  have S2 : Hid (Sl w2 (fun k => k < w2.heap.size) A2 n2 c2 (sealL ky nc head b)) := (Sl.of_own ho2).mono (fun k h => h.2.1)
  clear ho2 hb2 X1
  obtain ⟨a2, rfl⟩ := S2.out.some_ (by have := hn2.out; omega)
  have hm4 := hn4.out.2
  have hmI : (n2 : Int) - 16 = (m : Int) := by have := hn2.out; omega
  have h16 : 16 ≤ n2 := by have := hn2.out; omega
  have hmc : m ≤ c2 := by have := hn2.out; have := S2.out.cap; omega
  go_wp2_with fail
  have p2 : Hid (Sl w2 (fun k => k < w2.heap.size) (some a2) m c2 (streamL ky nc b)) := Sl.take_ (l' := aeadTag ky nc head (streamL ky nc b)) S2.out (by rw [streamL_len]; exact L2.out)
  refine (CopyBytes_sl p2.out (fun _ h => h) (by have := hn4.out; omega)).mono ?_
  rintro e w3 ⟨A3, c3, rfl, ho3, hb3⟩
  have O3 := Lib.hid ho3
  have X3 := Lib.hid (X2.out.bl hb3)
  have S3 := Lib.hid (S2.out.belF hb3 (fun _ h => h))
  have T3 : Hid (Sl w3 (fun k => k = w.heap.size + 2) (some ⟨w.heap.size + 2, 0, none⟩) 16 16 tg) := Sl.of_block (X3.out.get (by simp) : w3.heap[w.heap.size + 2]? = some (.cells (bs tg).toArray 46 (0, 0))) rfl 16 HT.out
  have z3 := Lib.hid hb3.size
  clear ho3 hb3 p2 S2
  go_wp2_with (first
    | (at_builtin
       refine append_bytes rfl (.tmp 41) (.tmp 42) rfl w2.heap.size A3 m c3 _ rfl O3.out (some ⟨w.heap.size + 2, 0, none⟩) 16 16 tg rfl HT.out T3.out.rd (by have := hn4.out; omega) z3.out ?_
       intro A5 c5 w5 hown5 hg5 hor5
       have n5 : Hid (m + 16 = n2) := hn2.out.symm
       have lt3 : Hid (∀ j, (Value.slice A3 m c3).ownBlock = some j → w2.heap.size ≤ j ∧ j < w3.heap.size) := O3.out.lt
       have f5 : Hid (Fr (fun j => w2.heap.size ≤ j) w3 w5) := (Fr.of_grown hg5).mono (fun j _ e => (lt3.out j e.symm).1)
       rw [n5.out] at hown5 ⊢
       have O5 := Lib.hid hown5
       have X5 := Lib.hid (X3.out.fr f5.out (fun p hp e => by
         have h := X2.out.lt (g := p.1) (o := p.2) hp
         exact absurd e (Nat.not_le_of_lt h)) (fun k hk => Nat.le_trans X2.out.bel.size hk))
       have r1 : Hid (w5.rangeAt w.heap.size 0 (bs ky)) := range_block (X5.out.get (by simp) : w5.heap[w.heap.size]? = some (.cells (bs ky).toArray 23 (0, 0)))
       have r2 : Hid (w5.rangeAt (w.heap.size + 1) 0 (bs nc)) := range_block (X5.out.get (by simp) : w5.heap[w.heap.size + 1]? = some (.cells (bs nc).toArray 25 (0, 0)))
       clear hown5 hg5 hor5 lt3)
    | ((with_reducible refine lst_load_mid 23 (.tmp 5) rfl (w.heap.size) 0 rfl (bs ky) _ r1.out uK.out rfl i1.out ?_ ?_)
       (focus rfl))
    | ((with_reducible refine lst_load_mid 25 (.tmp 6) rfl (w.heap.size + 1) 0 rfl (bs nc) _ r2.out uN.out rfl i2.out ?_ ?_)
       (focus rfl)))
  have S5 := Lib.hid (S3.out.fr f5.out (fun k hk => ⟨Nat.lt_of_lt_of_le hk z3.out, Nat.not_le_of_lt hk⟩))
  have P5 := Lib.hid (Sl.of_own O5.out)
  have z5 : Hid (w2.heap.size ≤ w5.heap.size) := Nat.le_trans z3.out f5.out.size
  clear X3 S3 T3 z3 O3 O5 f5 hmI h16 hmc X2
  clear r1 r2
  refine (Open_any _ HK.out HN.out (H1.out.belF X5.out.bel (fun _ h => h)) (old_up X5.out.bel) P5.out (fun _ h => h.2.1) (Nat.le_trans hn4.out.1 (by decide)) (by have := hn4.out; have := n5.out; omega)).mono ?_
  rw [open_tag _ _ _ _ _ HT.out]
  rintro e w6 ⟨⟨A6, n6, c6, rfl, _⟩, hb6⟩
  have X6 := Lib.hid (X5.out.bl hb6)
  have S6 := Lib.hid (S5.out.belF hb6 (fun k hk => Nat.lt_of_lt_of_le hk z5.out))
  have P6 := Lib.hid (P5.out.belF hb6 (fun k hk => hk.2.1))
  have z6 : Hid (w2.heap.size ≤ w6.heap.size) := Nat.le_trans z5.out hb6.size
  have u6 := Lib.hid hb6.size
  clear hb6 X5 S5 P5 z5
  obtain ⟨p, hp⟩ : ∃ p, p = m + 1 := ⟨_, rfl⟩
  have hpI : (n2 : Int) - 15 = (p : Int) := by have := n5.out; omega
  have hpn : p ≤ n2 := by have := n5.out; omega
  have hpc : p < c2 := by have := n5.out; have := S6.out.cap; omega
  have hp15 : n2 - p = 15 := by have := n5.out; omega
  have hpw : IntKind.i64.wrap (p : Int) = (p : Int) := by rw [IntKind.wrap_i64]; omega
  have hpc2 : ¬ c2 = p := by omega
  have E6 : Hid (Sl w6 (fun k => k < w2.heap.size) (some (a2.add p)) 15 (c2 - p) ((sealL ky nc head b).drop p)) := by
    have h := S6.out.drop_ (m := p) (A' := some (a2.add p)) hpn (.inr rfl)
    rw [hp15] at h; exact h
  clear hp hm4 hpc
  go_wp2_with fail
  have r1 : Hid (w6.rangeAt w.heap.size 0 (bs ky)) := range_block (X6.out.get (by simp) : w6.heap[w.heap.size]? = some (.cells (bs ky).toArray 23 (0, 0)))
  have r2 : Hid (w6.rangeAt (w.heap.size + 1) 0 (bs nc)) := range_block (X6.out.get (by simp) : w6.heap[w.heap.size + 1]? = some (.cells (bs nc).toArray 25 (0, 0)))
  have l1 := X6.out.lt (g := w.heap.size) (o := .cells (bs ky).toArray 23 (0, 0)) (by simp)
  have l2 := X6.out.lt (g := w.heap.size + 1) (o := .cells (bs nc).toArray 25 (0, 0)) (by simp)
  refine wp_calm ?_
  refine wp_region_os (fun _ w' => Below (w6).drew.heap.size (w6).drew w') [1, 2] (.move 0 (.take 1 (.take 2 (.move 3 (.move 4 (.move 5 (.move 6 (.move 7 (.move 8 (.run 9 [] (.move 10 (.move 11 (.move 12 (.move 13 (.move 14 .done))))))))))))))) (by kernel_rfl) (by kernel_rfl) (fun _ _ _ _ _ h => nomatch h.1) ?_
  have hS0 : Below (w6).drew.heap.size (w6).drew (w6).drew := Below.refl _ _
  refine os_move rfl rfl rfl (Nat.le_of_ble_eq_true rfl) ?_
  apply Exists.intro
  refine ⟨fun w' K hK => ?_, ?_⟩
  (focus
    go_simp
    exact hK)
  refine os_load_mid 23 (.tmp 5) (w.heap.size) (0) (bs ky) _ hS0 rfl rfl rfl rfl rfl (uK.out) rfl (i1.out) (fun w' h => rangeAt_bel (range_dr (r1.out)) h l1) ⟨_, rfl, ?_⟩
  refine os_load_mid 25 (.tmp 6) (w.heap.size + 1) (0) (bs nc) _ hS0 rfl rfl rfl rfl rfl (uN.out) rfl (i2.out) (fun w' h => rangeAt_bel (range_dr (r2.out)) h l2) ⟨_, rfl, ?_⟩
  refine os_move rfl rfl rfl (Nat.le_of_ble_eq_true rfl) ?_
  apply Exists.intro
  refine ⟨fun w' K hK => ?_, ?_⟩
  (focus
    go_simp
    exact hK)
  refine os_move rfl rfl rfl (Nat.le_of_ble_eq_true rfl) ?_
  apply Exists.intro
  refine ⟨fun w' K hK => ?_, ?_⟩
  (focus
    go_simp
    exact hK)
  refine os_move rfl rfl rfl (Nat.le_of_ble_eq_true rfl) ?_
  apply Exists.intro
  refine ⟨fun w' K hK => ?_, ?_⟩
  (focus
    go_simp
    exact hK)
  refine os_move rfl rfl rfl (Nat.le_of_ble_eq_true rfl) ?_
  apply Exists.intro
  refine ⟨fun w' K hK => ?_, ?_⟩
  (focus
    go_simp
    exact hK)
  refine os_move rfl rfl rfl (Nat.le_of_ble_eq_true rfl) ?_
  apply Exists.intro
  refine ⟨fun w' K hK => ?_, ?_⟩
  (focus
    go_simp
    exact hK)
  refine os_move rfl rfl rfl (Nat.le_of_ble_eq_true rfl) ?_
  apply Exists.intro
  refine ⟨fun w' K hK => ?_, ?_⟩
  (focus
    go_simp
    exact hK)
  refine os_run rfl rfl (fun K hK => ?_)
  go_wp2_with fail
  refine (Open_any _ HK.out HN.out (H1.out.belF (Below.tr X6.out.bel (Below.undr hS0)) (fun _ h => h)) (old_up (Below.tr X6.out.bel (Below.undr hS0))) (E6.out.belF (Below.undr hS0) (fun k hk => Nat.lt_of_lt_of_le hk z6.out)) (fun k hk => Nat.lt_of_lt_of_le (Nat.lt_of_lt_of_le hk z6.out) (Below.undr hS0).size) (Nat.le_trans hn4.out.1 (by decide)) (by decide)).mono ?_
  rw [open_short _ _ _ _ E6.out.len]
  rintro e w7 ⟨⟨A7, n7, c7, rfl, _⟩, hb7⟩
  go_wp2_with fail
  refine ⟨fun _ hk => absurd hk List.not_mem_nil, ?_⟩
  replace hS0 := Below.tr hS0 (hb7)
  refine os_move rfl rfl rfl (Nat.le_of_ble_eq_true rfl) ?_
  apply Exists.intro
  refine ⟨fun w' K hK => ?_, ?_⟩
  (focus
    go_simp
    exact hK)
  refine os_move rfl rfl rfl (Nat.le_of_ble_eq_true rfl) ?_
  apply Exists.intro
  refine ⟨fun w' K hK => ?_, ?_⟩
  (focus
    go_simp
    exact hK)
  refine os_move rfl rfl rfl (Nat.le_of_ble_eq_true rfl) ?_
  apply Exists.intro
  refine ⟨fun w' K hK => ?_, ?_⟩
  (focus
    go_simp
    exact hK)
  refine os_move rfl rfl rfl (Nat.le_of_ble_eq_true rfl) ?_
  apply Exists.intro
  refine ⟨fun w' K hK => ?_, ?_⟩
  (focus
    go_simp
    exact hK)
  refine os_move rfl rfl rfl (Nat.le_of_ble_eq_true rfl) ?_
  apply Exists.intro
  refine ⟨fun w' K hK => ?_, ?_⟩
  (focus
    go_simp
    exact hK)
  refine os_done ⟨rfl, ?_⟩
  have X7 := Lib.hid (X6.out.bl (Below.undr hS0))
  have S7 := Lib.hid (S6.out.belF (Below.undr hS0) (fun k hk => Nat.lt_of_lt_of_le hk z6.out))
  have P7 := Lib.hid (P6.out.belF (Below.undr hS0) (fun k hk => Nat.lt_of_lt_of_le hk.2.1 u6.out))
  clear hS0 X6 S6 P6 E6 z6 r1 r2 l1 l2 hpI hpn hp15 hpw hpc2
  go_wp2_with fail
  refine (Same_at P7.out S7.out (by have := hn4.out; have := n5.out; omega) (by have := hn4.out; have := n5.out; omega) _ rfl).mono ?_
  rintro e w' ⟨rfl, x8, rfl⟩
  generalize (streamL ky nc b ++ tg == sealL ky nc head b) = tt
  go_wp2_with fail
  refine (works_any _).mono ?_
  rintro e w' ⟨rfl, hb⟩
  go_wp2_with fail
  go_ret
  exact ⟨rfl, Below.tr (Below.tr X7.out.bel (Below.drN _ _)) hb⟩
end Go.Proofs.Ytklclbppdoahjaa
