/- Lemmas and contracts for the claim's row, one text behind the other: Ae12, Ae13, Ae23, Ae21. No condition. -/
import Derived.Test.YtklclbppdoahjaaJ4
/- Aead: AeadTags. -/
namespace Go.Proofs.Ytklclbppdoahjaa
set_option maxRecDepth 100000
open Go.RowKit
attribute [local go_sem] yld yldUpon_value

theorem open_tag (ky nc head b tg : List UInt8) (ht : tg.length = 16) : (openL ky nc head (streamL ky nc b ++ tg)).isSome = (streamL ky nc b ++ tg == sealL ky nc head b) := by
  unfold openL sealL
  have hl : (streamL ky nc b ++ tg).length = b.length + 16 := by rw [List.length_append, streamL_len, ht]
  rw [if_neg (by omega), hl, Nat.add_sub_cancel, List.take_left' (streamL_len _ _ _), List.drop_left' (streamL_len _ _ _)]
  by_cases h : tg = aeadTag ky nc head (streamL ky nc b)
  · rw [if_pos h, h]; simp
  · rw [if_neg h]
    simp [h]
theorem open_short (ky nc head s : List UInt8) (h : s.length = 15) : openL ky nc head s = none := by unfold openL; rw [if_pos (by omega)]
set_option maxHeartbeats 1800000 in
theorem AeadTags_any (w : World) {ky nc tg : List UInt8} (hk : ky.length = 32) (hn : nc.length = 12) (ht : tg.length = 16) {A B : Option Addr} {n c m d : Nat} {head b : List UInt8} (h1 : Sl w (Old w) A n c head) (h2 : Sl w (Old w) B m d b) (hb1 : n ≤ 140737488355000) (hb2 : m ≤ 140737488355000) :
    Calls Try.prog 6 #[.agg (bs ky).toArray, .agg (bs nc).toArray, .slice A n c, .slice B m d, .agg (bs tg).toArray] w fun e w' => e = .returned (.bool true) ∧ Below w.heap.size w w' := by
  have H1 := Lib.hid h1; have H2 := Lib.hid h2
  have L2 := Lib.hid h2.len
  clear h1 h2
  have HK := Lib.hid hk; have HN := Lib.hid hn; have HT := Lib.hid ht
  have uK := Lib.hid Try.underlying23
  have uN := Lib.hid Try.underlying25
  have i1 : Hid ((Try.prog.info? 23).map (·.size) = some (bs ky).length) := by rw [bs_length, HK.out]; exact Try.sizeKey
  have i2 : Hid ((Try.prog.info? 25).map (·.size) = some (bs nc).length) := by rw [bs_length, HN.out]; exact Try.sizeN
  obtain ⟨w0, hw0⟩ : ∃ w0, w0 = ((w.alloc (.cells (bs ky).toArray 23)).alloc (.cells (bs nc).toArray 25)).alloc (.cells (bs tg).toArray 46) := ⟨_, rfl⟩
  have X0 : Hid (Has w w0 [(w.heap.size + 2, .cells (bs tg).toArray 46 (0, 0)), (w.heap.size + 1, .cells (bs nc).toArray 25 (0, 0)), (w.heap.size, .cells (bs ky).toArray 23 (0, 0))]) := by
    have h1 : Has w (w.alloc (.cells (bs ky).toArray 23)) [(w.heap.size, .cells (bs ky).toArray 23 (0, 0))] := (Has.start (Below.refl _ w)).new (Below.al _ _) (Nat.le_refl _) (heap_alloc_new w _)
    have h2 := heap_alloc_new (w.alloc (.cells (bs ky).toArray 23)) (.cells (bs nc).toArray 25)
    rw [World.size_alloc] at h2
    have h3 := h1.new (Below.al _ _) (by rw [World.size_alloc]; exact Nat.le_refl _) h2
    have h4 := heap_alloc_new ((w.alloc (.cells (bs ky).toArray 23)).alloc (.cells (bs nc).toArray 25)) (.cells (bs tg).toArray 46)
    rw [World.size_alloc, World.size_alloc] at h4
    rw [hw0]
    exact h3.new (Below.al _ _) (by rw [World.size_alloc, World.size_alloc]; exact Nat.le_refl _) h4
  subst hw0
  clear hk hn ht
  obtain ⟨q, hq⟩ : ∃ q : Int, (if n < m then (m : Int) else (n : Int)) = q := ⟨_, rfl⟩
  go_enter Try.func6, Try.ntmps6
  by_cases hbig : 4096 < q
  · have HX := Lib.hid X0.out.bel
    clear X0
    go_wp2_with fail
    refine (works_any _).mono ?_
    rintro e w' ⟨rfl, hb⟩
    go_wp2_with fail
    go_ret
    exact ⟨rfl, Below.tr HX.out hb⟩
  have hbig2 : q ≤ 4096 := by omega
  have hn4 : Hid (n ≤ 4096 ∧ m ≤ 4096) := by show _ ∧ _; split at hq <;> omega
  clear hbig hb1 hb2
  go_wp2_with fail
  generalize ((w.alloc (.cells (bs ky).toArray 23)).alloc (.cells (bs nc).toArray 25)).alloc (.cells (bs tg).toArray 46) = w0 at X0 ⊢
  refine (ANew_any w0).mono ?_
  rintro e w1 ⟨gc, rfl, hbc⟩
  have X1 := Lib.hid (X0.out.bl hbc)
  clear hbc X0 hq hbig2
  have r1 : Hid (w1.rangeAt w.heap.size 0 (bs ky)) := range_block (X1.out.get (by simp) : w1.heap[w.heap.size]? = some (.cells (bs ky).toArray 23 (0, 0)))
  have r2 : Hid (w1.rangeAt (w.heap.size + 1) 0 (bs nc)) := range_block (X1.out.get (by simp) : w1.heap[w.heap.size + 1]? = some (.cells (bs nc).toArray 25 (0, 0)))
  go_wp2_with (first
    | ((with_reducible refine lst_load_mid 23 (.tmp 5) rfl (w.heap.size) 0 rfl (bs ky) _ r1.out uK.out rfl i1.out ?_ ?_)
       (focus rfl))
    | ((with_reducible refine lst_load_mid 25 (.tmp 6) rfl (w.heap.size + 1) 0 rfl (bs nc) _ r2.out uN.out rfl i2.out ?_ ?_)
       (focus rfl)))
  clear r1 r2
  refine (Seal_any _ HK.out HN.out (H1.out.belF X1.out.bel (fun _ h => h)) (old_up X1.out.bel) (H2.out.belF X1.out.bel (fun _ h => h)) (old_up X1.out.bel) (Nat.le_trans hn4.out.1 (by decide)) (Nat.le_trans hn4.out.2 (by decide))).mono ?_
  rintro e w2 ⟨A2, n2, c2, rfl, ho2, hb2⟩
  have hn2 : Hid (n2 = m + 16) := by have h := ho2.1; rw [bs_length, sealL_len, L2.out] at h; show _ = _; omega
  have X2 := Lib.hid (X1.out.bl hb2)
  have S2 : Hid (Sl w2 (fun k => k < w2.heap.size) A2 n2 c2 (sealL ky nc head b)) := (Sl.of_own ho2).mono (fun k h => h.2.1)
  clear ho2 hb2 X1
  obtain ⟨a2, rfl⟩ := S2.out.some_ (by have := hn2.out; omega)
  have hm4 := hn4.out.2
  have hmI : (n2 : Int) - 16 = (m : Int) := by have := hn2.out; omega
  have h16 : 16 ≤ n2 := by have := hn2.out; omega
  have hmc : m ≤ c2 := by have := hn2.out; have := S2.out.cap; omega
  go_wp2_with fail
  have p2 : Hid (Sl w2 (fun k => k < w2.heap.size) (some a2) m c2 (streamL ky nc b)) := Sl.take_ (l' := aeadTag ky nc head (streamL ky nc b)) S2.out (by rw [streamL_len]; exact L2.out)
  refine (CopyBytes_sl p2.out (fun _ h => h) (by have := hn4.out; omega)).mono ?_
  rintro e w3 ⟨A3, c3, rfl, ho3, hb3⟩
  have O3 := Lib.hid ho3
  have X3 := Lib.hid (X2.out.bl hb3)
  have S3 := Lib.hid (S2.out.belF hb3 (fun _ h => h))
  have T3 : Hid (Sl w3 (fun k => k = w.heap.size + 2) (some ⟨w.heap.size + 2, 0, none⟩) 16 16 tg) := Sl.of_block (X3.out.get (by simp) : w3.heap[w.heap.size + 2]? = some (.cells (bs tg).toArray 46 (0, 0))) rfl 16 HT.out
  have z3 := Lib.hid hb3.size
  clear ho3 hb3 p2 S2
  go_wp2_with (first
    | (at_builtin
       refine append_bytes rfl (.tmp 41) (.tmp 42) rfl w2.heap.size A3 m c3 _ rfl O3.out (some ⟨w.heap.size + 2, 0, none⟩) 16 16 tg rfl HT.out T3.out.rd (by have := hn4.out; omega) z3.out ?_
       intro A5 c5 w5 hown5 hg5 hor5
       have n5 : Hid (m + 16 = n2) := hn2.out.symm
       have lt3 : Hid (∀ j, (Value.slice A3 m c3).ownBlock = some j → w2.heap.size ≤ j ∧ j < w3.heap.size) := O3.out.lt
       have f5 : Hid (Fr (fun j => w2.heap.size ≤ j) w3 w5) := (Fr.of_grown hg5).mono (fun j _ e => (lt3.out j e.symm).1)
       rw [n5.out] at hown5 ⊢
       have O5 := Lib.hid hown5
       have X5 := Lib.hid (X3.out.fr f5.out (fun p hp e => by
         have h := X2.out.lt (g := p.1) (o := p.2) hp
         exact absurd e (Nat.not_le_of_lt h)) (fun k hk => Nat.le_trans X2.out.bel.size hk))
       have r1 : Hid (w5.rangeAt w.heap.size 0 (bs ky)) := range_block (X5.out.get (by simp) : w5.heap[w.heap.size]? = some (.cells (bs ky).toArray 23 (0, 0)))
       have r2 : Hid (w5.rangeAt (w.heap.size + 1) 0 (bs nc)) := range_block (X5.out.get (by simp) : w5.heap[w.heap.size + 1]? = some (.cells (bs nc).toArray 25 (0, 0)))
       clear hown5 hg5 hor5 lt3)
    | ((with_reducible refine lst_load_mid 23 (.tmp 5) rfl (w.heap.size) 0 rfl (bs ky) _ r1.out uK.out rfl i1.out ?_ ?_)
       (focus rfl))
    | ((with_reducible refine lst_load_mid 25 (.tmp 6) rfl (w.heap.size + 1) 0 rfl (bs nc) _ r2.out uN.out rfl i2.out ?_ ?_)
       (focus rfl)))
  have S5 := Lib.hid (S3.out.fr f5.out (fun k hk => ⟨Nat.lt_of_lt_of_le hk z3.out, Nat.not_le_of_lt hk⟩))
  have P5 := Lib.hid (Sl.of_own O5.out)
  have z5 : Hid (w2.heap.size ≤ w5.heap.size) := Nat.le_trans z3.out f5.out.size
  clear X3 S3 T3 z3 O3 O5 f5 hmI h16 hmc X2
  clear r1 r2
  refine (Open_any _ HK.out HN.out (H1.out.belF X5.out.bel (fun _ h => h)) (old_up X5.out.bel) P5.out (fun _ h => h.2.1) (Nat.le_trans hn4.out.1 (by decide)) (by have := hn4.out; have := n5.out; omega)).mono ?_
  rw [open_tag _ _ _ _ _ HT.out]
  rintro e w6 ⟨⟨A6, n6, c6, rfl, _⟩, hb6⟩
  have X6 := Lib.hid (X5.out.bl hb6)
  have S6 := Lib.hid (S5.out.belF hb6 (fun k hk => Nat.lt_of_lt_of_le hk z5.out))
  have P6 := Lib.hid (P5.out.belF hb6 (fun k hk => hk.2.1))
  have z6 : Hid (w2.heap.size ≤ w6.heap.size) := Nat.le_trans z5.out hb6.size
  have u6 := Lib.hid hb6.size
  clear hb6 X5 S5 P5 z5
  obtain ⟨p, hp⟩ : ∃ p, p = m + 1 := ⟨_, rfl⟩
  have hpI : (n2 : Int) - 15 = (p : Int) := by have := n5.out; omega
  have hpn : p ≤ n2 := by have := n5.out; omega
  have hpc : p < c2 := by have := n5.out; have := S6.out.cap; omega
  have hp15 : n2 - p = 15 := by have := n5.out; omega
  have hpw : IntKind.i64.wrap (p : Int) = (p : Int) := by rw [IntKind.wrap_i64]; omega
  have hpc2 : ¬ c2 = p := by omega
  have E6 : Hid (Sl w6 (fun k => k < w2.heap.size) (some (a2.add p)) 15 (c2 - p) ((sealL ky nc head b).drop p)) := by
    have h := S6.out.drop_ (m := p) (A' := some (a2.add p)) hpn (.inr rfl)
    rw [hp15] at h; exact h
  clear hp hm4 hpc
  go_wp2_with fail
  have r1 : Hid (w6.rangeAt w.heap.size 0 (bs ky)) := range_block (X6.out.get (by simp) : w6.heap[w.heap.size]? = some (.cells (bs ky).toArray 23 (0, 0)))
  have r2 : Hid (w6.rangeAt (w.heap.size + 1) 0 (bs nc)) := range_block (X6.out.get (by simp) : w6.heap[w.heap.size + 1]? = some (.cells (bs nc).toArray 25 (0, 0)))
  have l1 := X6.out.lt (g := w.heap.size) (o := .cells (bs ky).toArray 23 (0, 0)) (by simp)
  have l2 := X6.out.lt (g := w.heap.size + 1) (o := .cells (bs nc).toArray 25 (0, 0)) (by simp)
  refine wp_calm ?_
  refine wp_region_os (fun _ w' => Below (w6).drew.heap.size (w6).drew w') [1, 2] (.move 0 (.take 1 (.take 2 (.move 3 (.move 4 (.move 5 (.move 6 (.move 7 (.move 8 (.run 9 [] (.move 10 (.move 11 (.move 12 (.move 13 (.move 14 .done))))))))))))))) (by kernel_rfl) (by kernel_rfl) (fun _ _ _ _ _ h => nomatch h.1) ?_
  have hS0 : Below (w6).drew.heap.size (w6).drew (w6).drew := Below.refl _ _
  refine os_move rfl rfl rfl (Nat.le_of_ble_eq_true rfl) ?_
  apply Exists.intro
  refine ⟨fun w' K hK => ?_, ?_⟩
  (focus
    go_simp
    exact hK)
  refine os_load_mid 23 (.tmp 5) (w.heap.size) (0) (bs ky) _ hS0 rfl rfl rfl rfl rfl (uK.out) rfl (i1.out) (fun w' h => rangeAt_bel (range_dr (r1.out)) h l1) ⟨_, rfl, ?_⟩
  refine os_load_mid 25 (.tmp 6) (w.heap.size + 1) (0) (bs nc) _ hS0 rfl rfl rfl rfl rfl (uN.out) rfl (i2.out) (fun w' h => rangeAt_bel (range_dr (r2.out)) h l2) ⟨_, rfl, ?_⟩
  refine os_move rfl rfl rfl (Nat.le_of_ble_eq_true rfl) ?_
  apply Exists.intro
  refine ⟨fun w' K hK => ?_, ?_⟩
  (focus
    go_simp
    exact hK)
  refine os_move rfl rfl rfl (Nat.le_of_ble_eq_true rfl) ?_
  apply Exists.intro
  refine ⟨fun w' K hK => ?_, ?_⟩
  (focus
    go_simp
    exact hK)
  refine os_move rfl rfl rfl (Nat.le_of_ble_eq_true rfl) ?_
  apply Exists.intro
  refine ⟨fun w' K hK => ?_, ?_⟩
  (focus
    go_simp
    exact hK)
  refine os_move rfl rfl rfl (Nat.le_of_ble_eq_true rfl) ?_
  apply Exists.intro
  refine ⟨fun w' K hK => ?_, ?_⟩
  (focus
    go_simp
    exact hK)
  refine os_move rfl rfl rfl (Nat.le_of_ble_eq_true rfl) ?_
  apply Exists.intro
  refine ⟨fun w' K hK => ?_, ?_⟩
  (focus
    go_simp
    exact hK)
  refine os_move rfl rfl rfl (Nat.le_of_ble_eq_true rfl) ?_
  apply Exists.intro
  refine ⟨fun w' K hK => ?_, ?_⟩
  (focus
    go_simp
    exact hK)
  refine os_run rfl rfl (fun K hK => ?_)
  go_wp2_with fail
  refine (Open_any _ HK.out HN.out (H1.out.belF (Below.tr X6.out.bel (Below.undr hS0)) (fun _ h => h)) (old_up (Below.tr X6.out.bel (Below.undr hS0))) (E6.out.belF (Below.undr hS0) (fun k hk => Nat.lt_of_lt_of_le hk z6.out)) (fun k hk => Nat.lt_of_lt_of_le (Nat.lt_of_lt_of_le hk z6.out) (Below.undr hS0).size) (Nat.le_trans hn4.out.1 (by decide)) (by decide)).mono ?_
  rw [open_short _ _ _ _ E6.out.len]
  rintro e w7 ⟨⟨A7, n7, c7, rfl, _⟩, hb7⟩
  go_wp2_with fail
  refine ⟨fun _ hk => absurd hk List.not_mem_nil, ?_⟩
  replace hS0 := Below.tr hS0 (hb7)
  refine os_move rfl rfl rfl (Nat.le_of_ble_eq_true rfl) ?_
  apply Exists.intro
  refine ⟨fun w' K hK => ?_, ?_⟩
  (focus
    go_simp
    exact hK)
  refine os_move rfl rfl rfl (Nat.le_of_ble_eq_true rfl) ?_
  apply Exists.intro
  refine ⟨fun w' K hK => ?_, ?_⟩
  (focus
    go_simp
    exact hK)
  refine os_move rfl rfl rfl (Nat.le_of_ble_eq_true rfl) ?_
  apply Exists.intro
  refine ⟨fun w' K hK => ?_, ?_⟩
  (focus
    go_simp
    exact hK)
  refine os_move rfl rfl rfl (Nat.le_of_ble_eq_true rfl) ?_
  apply Exists.intro
  refine ⟨fun w' K hK => ?_, ?_⟩
  (focus
    go_simp
    exact hK)
  refine os_move rfl rfl rfl (Nat.le_of_ble_eq_true rfl) ?_
  apply Exists.intro
  refine ⟨fun w' K hK => ?_, ?_⟩
  (focus
    go_simp
    exact hK)
  refine os_done ⟨rfl, ?_⟩
  have X7 := Lib.hid (X6.out.bl (Below.undr hS0))
  have S7 := Lib.hid (S6.out.belF (Below.undr hS0) (fun k hk => Nat.lt_of_lt_of_le hk z6.out))
  have P7 := Lib.hid (P6.out.belF (Below.undr hS0) (fun k hk => Nat.lt_of_lt_of_le hk.2.1 u6.out))
  clear hS0 X6 S6 P6 E6 z6 r1 r2 l1 l2 hpI hpn hp15 hpw hpc2
  go_wp2_with fail
  refine (Same_at P7.out S7.out (by have := hn4.out; have := n5.out; omega) (by have := hn4.out; have := n5.out; omega) _ rfl).mono ?_
  rintro e w' ⟨rfl, x8, rfl⟩
  generalize (streamL ky nc b ++ tg == sealL ky nc head b) = tt
  go_wp2_with fail
  refine (works_any _).mono ?_
  rintro e w' ⟨rfl, hb⟩
  go_wp2_with fail
  go_ret
  exact ⟨rfl, Below.tr (Below.tr X7.out.bel (Below.drN _ _)) hb⟩
end Go.Proofs.Ytklclbppdoahjaa
/- Aead: the walks in the rows' order. -/
namespace Go.Proofs.Ytklclbppdoahjaa
set_option maxRecDepth 100000
open Go.RowKit
theorem AeadBackW_any (w : World) (ky : List UInt8) (hk : ky.length = 32) (nc : List UInt8) (hn : nc.length = 12) {A B : Option Addr} {n c m d : Nat} {head b : List UInt8} (h1 : Sl w (Old w) A n c head) (hb1 : n ≤ 140737488355000) (h2 : Sl w (Old w) B m d b) (hb2 : m ≤ 140737488355000) :
    Calls Try.prog 5 #[.agg (bs ky).toArray, .agg (bs nc).toArray, .slice A n c, .slice B m d] w fun e w' => e = .returned (.bool true) ∧ Below w.heap.size w w' := AeadBack_any w hk hn h1 h2 hb1 hb2
theorem AeadTagsW_any (w : World) (ky : List UInt8) (hk : ky.length = 32) (nc : List UInt8) (hn : nc.length = 12) {A B : Option Addr} {n c m d : Nat} {head b : List UInt8} (h1 : Sl w (Old w) A n c head) (hb1 : n ≤ 140737488355000) (h2 : Sl w (Old w) B m d b) (hb2 : m ≤ 140737488355000) (tg : List UInt8) (ht : tg.length = 16) :
    Calls Try.prog 6 #[.agg (bs ky).toArray, .agg (bs nc).toArray, .slice A n c, .slice B m d, .agg (bs tg).toArray] w fun e w' => e = .returned (.bool true) ∧ Below w.heap.size w w' := AeadTags_any w hk hn ht h1 h2 hb1 hb2
theorem AeadStreamW_any (w : World) (ky : List UInt8) (hk : ky.length = 32) (nc : List UInt8) (hn : nc.length = 12) {A A' B : Option Addr} {n c n' c' m d : Nat} {head other b : List UInt8} (h1 : Sl w (Old w) A n c head) (hb1 : n ≤ 140737488355000) (h1' : Sl w (Old w) A' n' c' other) (hb1' : n' ≤ 140737488355000) (h2 : Sl w (Old w) B m d b) (hb2 : m ≤ 140737488355000) :
    Calls Try.prog 7 #[.agg (bs ky).toArray, .agg (bs nc).toArray, .slice A n c, .slice A' n' c', .slice B m d] w fun e w' => e = .returned (.bool true) ∧ Below w.heap.size w w' := AeadStream_any w hk hn h1 h1' h2 hb1 hb1' hb2
end Go.Proofs.Ytklclbppdoahjaa
/- AeadKnown. -/
namespace Go.Proofs.Ytklclbppdoahjaa
set_option maxRecDepth 100000
open Go.RowKit
attribute [local go_sem] yld yldUpon_value

set_option maxRecDepth 100000 in
set_option maxHeartbeats 8000000 in
theorem AeadKnown_any (w : World) : Calls Try.prog 8 #[] w fun e w' => e = .returned (.bool true) ∧ Below w.heap.size w w' := by
  obtain ⟨iK, hiK, zK, _, _⟩ := info_parts Try.infoK
  have HiK := Lib.hid hiK; have HzK := Lib.hid zK
  obtain ⟨iN, hiN, zN, _, _⟩ := info_parts infoN_
  have HiN := Lib.hid hiN; have HzN := Lib.hid zN
  obtain ⟨iB, hiB, zB, sB, _⟩ := info_parts Try.infoB
  have HiB := Lib.hid hiB; have HzB := Lib.hid zB; have HsB := Lib.hid sB
  clear hiK zK hiN zN hiB zB sB
  have uK := Lib.hid Try.underlying23
  have uN := Lib.hid Try.underlying25
  have uS := Lib.hid Try.underlying26
  have i1 : Hid ((Try.prog.info? 23).map (·.size) = some (bs pubK).length) := by rw [bs_length, pubK_len]; exact Try.sizeKey
  have i2 : Hid ((Try.prog.info? 25).map (·.size) = some (bs pubN).length) := by rw [bs_length]; exact Try.sizeN
  go_enter Try.func8, Try.ntmps8
  go_wp2_with fail
  refine (published_any w).mono ?_
  rintro e w1 ⟨gh, gt, rfl, sh, st, bh, bt, hb1⟩
  have H1 := Lib.hid sh; have T1 := Lib.hid st; have B1 := Lib.hid hb1
  have zh : Hid (∀ k, k = gh → k < w1.heap.size) := fun k e => by rw [e]; exact sh.blk (by decide)
  have zt : Hid (∀ k, k = gt → k < w1.heap.size) := fun k e => by rw [e]; exact st.blk (by rw [pubT_len]; decide)
  clear sh st bh bt hb1
  go_wp2_with (first
    | ((with_reducible refine lst_alloc_d 1 rfl 23 rfl iK _ HiK.out HzK.out ?_ ?_)
       (focus rfl)
       intro g1 w2 Hg Hh hb
       have X2 : Hid (Has w1 w2 [(g1, .cells (bs (List.replicate 32 0)).toArray 23 (0, 0))]) := (Has.start (Below.refl _ w1)).new hb (Nat.le_of_eq Hg.out.1.symm) Hh.out
       clear Hg Hh hb)
    | ((with_reducible refine lst_alloc_d 2 rfl 25 rfl iN _ HiN.out HzN.out ?_ ?_)
       (focus rfl)
       intro g2 w3 Hg Hh hb
       have X3 : Hid (Has w1 w3 [(g2, .cells (bs (List.replicate 12 0)).toArray 25 (0, 0)), (g1, .cells (bs (List.replicate 32 0)).toArray 23 (0, 0))]) := X2.out.new hb (Nat.le_of_eq Hg.out.1.symm) Hh.out
       have h31 : Hid (w3.heap[g1]? = some (.cells (bs (List.replicate 32 0)).toArray 23 (0, 0))) := X3.out.get (by simp)
       clear Hg Hh hb X2)
    | ((with_reducible refine lst_store_abs 23 (.tmp 1) (.tmp 10) rfl g1 23 (bs (List.replicate 32 0)).toArray (bs pubK).toArray rfl rfl h31.out (by simpa using i1.out) (by simp [bs_length, pubK_len]) (by simp; exact bs_oneCell _) ?_ ?_)
       (focus rfl)
       intro w4 Hh4 hg4
       have X4 : Hid (Has w1 w4 [(g2, .cells (bs (List.replicate 12 0)).toArray 25 (0, 0)), (g1, .cells (bs pubK).toArray 23 (0, 0))]) := Has.wr (L := [_]) X3.out hg4 Hh4.out
       have h42 : Hid (w4.heap[g2]? = some (.cells (bs (List.replicate 12 0)).toArray 25 (0, 0))) := X4.out.get (by simp)
       clear Hh4 hg4 X3 h31)
    | ((with_reducible refine lst_store_abs 25 (.tmp 2) (.tmp 11) rfl g2 25 (bs (List.replicate 12 0)).toArray (bs pubN).toArray rfl rfl h42.out (by simpa using i2.out) (by simp [bs_length, pubN]) (by simp; exact bs_oneCell _) ?_ ?_)
       (focus rfl)
       intro w5 Hh5 hg5
       have X5 : Hid (Has w1 w5 [(g2, .cells (bs pubN).toArray 25 (0, 0)), (g1, .cells (bs pubK).toArray 23 (0, 0))]) := Has.wr (L := []) X4.out hg5 Hh5.out
       clear Hh5 hg5 X4 h42))
  have H5 := Lib.hid (H1.out.belF X5.out.bel zh.out)
  have T5 := Lib.hid (T1.out.belF X5.out.bel zt.out)
  have zh5 : Hid (∀ k, k = gh → k < w5.heap.size) := fun k hk => Nat.lt_of_lt_of_le (zh.out k hk) X5.out.bel.size
  have zt5 : Hid (∀ k, k = gt → k < w5.heap.size) := fun k hk => Nat.lt_of_lt_of_le (zt.out k hk) X5.out.bel.size
  have B5 := Lib.hid (Below.tr B1.out X5.out.bel)
  have Y5 := Lib.hid (Has.get (g := g1) (o := .cells (bs pubK).toArray 23 (0, 0)) X5.out (by simp))
  have V5 := Lib.hid (Has.get (g := g2) (o := .cells (bs pubN).toArray 25 (0, 0)) X5.out (by simp))
  clear H1 T1 zh zt B1 X5
  go_loopw [5] (fun iv wr => ∃ k : Nat, k ≤ 128 ∧ iv = .int .i64 (k : Nat) ∧ Hid (Below w5.heap.size w5 wr)) (fun iv _ => 128 - (intOf iv).toNat)
  case atStart => exact ⟨0, Nat.zero_le _, rfl, Below.refl _ _⟩
  case round =>
    obtain ⟨k, hk, rfl, B⟩ := hrel
    have hk0 : (0 : Int) ≤ (k : Int) := by omega
    by_cases hlt : k < 128
    · have hkI : (k : Int) < 128 := by omega
      obtain ⟨q, r, hq, hr, hr8⟩ : ∃ q r : Nat, (k : Int) / 8 = (q : Int) ∧ (k : Int) % 8 = (r : Int) ∧ r < 8 := ⟨k / 8, k % 8, by omega, by omega, by omega⟩
      obtain ⟨x, hx⟩ : ∃ x : UInt8, (2 : Int) ^ r % 256 = (x.toNat : Int) := ⟨UInt8.ofNat (2 ^ r), by
        match r, hr8 with
        | 0, _ => decide
        | 1, _ => decide
        | 2, _ => decide
        | 3, _ => decide
        | 4, _ => decide
        | 5, _ => decide
        | 6, _ => decide
        | 7, _ => decide⟩
      have hqt : (k : Int).tdiv 8 = (q : Int) := by rw [Int.tdiv_eq_ediv_of_nonneg hk0]; exact hq
      have hrt : (k : Int).tmod 8 = (r : Int) := by rw [Int.tmod_eq_emod_of_nonneg hk0]; exact hr
      have r1 : Hid (wr.rangeAt g1 0 (bs pubK)) := range_block (heap_bel Y5.out B.out)
      have r2 : Hid (wr.rangeAt g2 0 (bs pubN)) := range_block (heap_bel V5.out B.out)
      go_wp2_with (first
        | ((with_reducible refine lst_load_mid 23 (.tmp 1) rfl g1 0 rfl (bs pubK) _ r1.out uK.out rfl i1.out ?_ ?_)
           (focus rfl))
        | ((with_reducible refine lst_load_mid 25 (.tmp 2) rfl g2 0 rfl (bs pubN) _ r2.out uN.out rfl i2.out ?_ ?_)
           (focus rfl)))
      refine (AeadOpens_any wr pubK_len (show pubN.length = 12 from rfl) ((H5.out.belF B.out zh5.out).mono (fun k e => Nat.lt_of_lt_of_le (zh5.out k e) B.out.size)) ((T5.out.belF B.out zt5.out).mono (fun k e => Nat.lt_of_lt_of_le (zt5.out k e) B.out.size)) (by decide) (by decide) (q : Int) x).mono ?_
      rintro e w6 ⟨rfl, hb6⟩
      replace B := Lib.hid (Below.tr B.out hb6)
      have r1 : Hid (w6.rangeAt g1 0 (bs pubK)) := range_block (heap_bel Y5.out B.out)
      have r2 : Hid (w6.rangeAt g2 0 (bs pubN)) := range_block (heap_bel V5.out B.out)
      clear hb6
      go_wp2_with (first
        | ((with_reducible refine lst_load_mid 23 (.tmp 1) rfl g1 0 rfl (bs pubK) _ r1.out uK.out rfl i1.out ?_ ?_)
           (focus rfl))
        | ((with_reducible refine lst_load_mid 25 (.tmp 2) rfl g2 0 rfl (bs pubN) _ r2.out uN.out rfl i2.out ?_ ?_)
           (focus rfl)))
      refine (AeadOpens_any w6 pubK_len (show pubN.length = 12 from rfl) ((H5.out.belF B.out zh5.out).mono (fun k e => Nat.lt_of_lt_of_le (zh5.out k e) B.out.size)) ((T5.out.belF B.out zt5.out).mono (fun k e => Nat.lt_of_lt_of_le (zt5.out k e) B.out.size)) (by decide) (by decide) _ x).mono ?_
      rintro e w7 ⟨rfl, hb7⟩
      replace B := Lib.hid (Below.tr B.out hb7)
      clear hb7 r1 r2 hx hq hr hqt hrt
      go_wp2_with fail
      go_roundw
      case rel => exact ⟨k + 1, by omega, by go_num, B⟩
      case measure => simp [intOf]; omega
    · have hkI : ¬ (k : Int) < 128 := by omega
      clear hk hlt hk0
      go_wp2_with fail
      clear hkI
      obtain ⟨wq, hwq⟩ : ∃ wq, wq = wr := ⟨_, rfl⟩
      subst hwq
      go_loopw [6] (fun iv wr => ∃ k : Nat, k ≤ 34 ∧ iv = .int .i64 (k : Nat) ∧ Hid (Below w5.heap.size w5 wr)) (fun iv _ => 34 - (intOf iv).toNat)
      case atStart => exact ⟨0, Nat.zero_le _, rfl, B⟩
      case round =>
        clear B
        obtain ⟨i, hi, rfl, B⟩ := hrel
        have hi0 : (0 : Int) ≤ (i : Int) := by omega
        by_cases hil : i < 34
        · have hiI : (i : Int) < 34 := by omega
          go_wp2_with fail
          obtain ⟨wx, hwx⟩ : ∃ wx, wx = wr := ⟨_, rfl⟩
          subst hwx
          go_loopw [7] (fun iv wr => ∃ k : Nat, k ≤ 38 ∧ iv = .int .i64 (k : Nat) ∧ Hid (Below w5.heap.size w5 wr)) (fun iv _ => 38 - (intOf iv).toNat)
          case atStart => exact ⟨0, Nat.zero_le _, rfl, B⟩
          case round =>
            clear B
            obtain ⟨m, hm, rfl, B⟩ := hrel
            have hm0 : (0 : Int) ≤ (m : Int) := by omega
            by_cases hml : m < 34
            · have hmI : (m : Int) < 34 := by omega
              have r1 : Hid (wr.rangeAt g1 0 (bs pubK)) := range_block (heap_bel Y5.out B.out)
              have r2 : Hid (wr.rangeAt g2 0 (bs pubN)) := range_block (heap_bel V5.out B.out)
              have l1 : g1 < wr.heap.size := (Array.getElem?_eq_some_iff.1 (heap_bel Y5.out B.out)).1
              have l2 : g2 < wr.heap.size := (Array.getElem?_eq_some_iff.1 (heap_bel V5.out B.out)).1
              have htag : Hid ((bs (List.replicate 16 0)).toArray = (bs (List.replicate 16 0)).toArray) := rfl
              go_wp2_with fail
              refine wp_calm ?_
              refine wp_region_os (fun _ w' => Below (wr).drew.heap.size (wr).drew w') [0, 1, 9, 10, 19, 20] (.take 0 (.take 1 (.move 2 (.move 4 (.run 3 [0, 1, 9, 10, 19, 20] (.run 5 [0, 1, 9, 10, 19, 20] (.run 6 [9, 10, 19, 20] (.move 7 (.move 8 (.take 9 (.take 10 (.move 11 (.move 13 (.run 12 [0, 1, 9, 10, 19, 20] (.run 14 [0, 1, 9, 10, 19, 20] (.run 15 [0, 1, 19, 20] (.move 16 (.move 17 (.move 18 (.take 19 (.take 20 (.move 21 (.move 23 (.move 25 (.run 22 [0, 1, 9, 10, 19, 20] (.run 24 [0, 1, 9, 10, 19, 20] (.run 26 [0, 1, 9, 10] (.move 27 (.move 28 .done))))))))))))))))))))))))))))) (by kernel_rfl) (by kernel_rfl) (fun _ _ _ _ _ h => nomatch h.1) ?_
              have hS0 : Below (wr).drew.heap.size (wr).drew (wr).drew := Below.refl _ _
              refine os_load_mid 23 (.tmp 1) (g1) (0) (bs pubK) _ hS0 rfl rfl rfl rfl rfl (uK.out) rfl (i1.out) (fun w' h => rangeAt_bel (range_dr (r1.out)) h l1) ⟨_, rfl, ?_⟩
              refine os_load_mid 25 (.tmp 2) (g2) (0) (bs pubN) _ hS0 rfl rfl rfl rfl rfl (uN.out) rfl (i2.out) (fun w' h => rangeAt_bel (range_dr (r2.out)) h l2) ⟨_, rfl, ?_⟩
              refine os_move rfl rfl rfl (Nat.le_of_ble_eq_true rfl) ?_
              apply Exists.intro
              refine ⟨fun w' K hK => ?_, ?_⟩
              (focus
                go_simp
                exact hK)
              refine os_move rfl rfl rfl (Nat.le_of_ble_eq_true rfl) ?_
              apply Exists.intro
              refine ⟨fun w' K hK => ?_, ?_⟩
              (focus
                go_simp
                exact hK)
              refine os_run rfl rfl (fun K hK => ?_)
              go_wp2_with fail
              refine (Row_any i _ (by omega)).mono ?_
              rintro e wa ⟨Aa, ca, rfl, hoa, hba⟩
              have Sa := Lib.hid (Sl.own_lt hoa)
              clear hoa
              go_wp2_with fail
              refine ⟨fun _ _ h => Below.tr h (hba), ?_⟩
              replace hS0 := Below.tr hS0 (hba)
              refine os_run rfl rfl (fun K hK => ?_)
              go_wp2_with fail
              refine (Row_any m _ (by omega)).mono ?_
              rintro e wb ⟨Ab, cb, rfl, hob, hbb⟩
              have Sb := Lib.hid (Sl.own_lt hob)
              replace Sa := Lib.hid ((Sa.out.belF hbb (fun _ h => h)).mono (fun k hk => Nat.lt_of_lt_of_le hk hbb.size))
              clear hob
              go_wp2_with fail
              refine ⟨fun _ _ h => Below.tr h (hbb), ?_⟩
              replace hS0 := Below.tr hS0 (hbb)
              refine os_run rfl rfl (fun K hK => ?_)
              go_wp2_with fail
              refine (AeadSeals_any _ pubK_len (show pubN.length = 12 from rfl) Sa.out Sb.out (by omega) (by omega)).mono ?_
              rintro e wc ⟨rfl, hbc⟩
              clear Sa Sb
              go_wp2_with fail
              refine ⟨fun _ _ h => Below.tr h (hbc), ?_⟩
              replace hS0 := Below.tr hS0 (hbc)
              refine os_move rfl rfl rfl (Nat.le_of_ble_eq_true rfl) ?_
              apply Exists.intro
              refine ⟨fun w' K hK => ?_, ?_⟩
              (focus
                go_simp
                exact hK)
              refine os_move rfl rfl rfl (Nat.le_of_ble_eq_true rfl) ?_
              apply Exists.intro
              refine ⟨fun w' K hK => ?_, ?_⟩
              (focus
                go_simp
                exact hK)
              refine os_load_mid 23 (.tmp 1) (g1) (0) (bs pubK) _ hS0 rfl rfl rfl rfl rfl (uK.out) rfl (i1.out) (fun w' h => rangeAt_bel (range_dr (r1.out)) h l1) ⟨_, rfl, ?_⟩
              refine os_load_mid 25 (.tmp 2) (g2) (0) (bs pubN) _ hS0 rfl rfl rfl rfl rfl (uN.out) rfl (i2.out) (fun w' h => rangeAt_bel (range_dr (r2.out)) h l2) ⟨_, rfl, ?_⟩
              refine os_moveg rfl rfl rfl (Nat.le_of_ble_eq_true rfl) ?_
              apply Exists.intro
              refine ⟨fun w' K hK => ?_, ?_⟩
              (focus
                go_simp
                exact hK)
              refine os_moveg rfl rfl rfl (Nat.le_of_ble_eq_true rfl) ?_
              apply Exists.intro
              refine ⟨fun w' K hK => ?_, ?_⟩
              (focus
                go_simp
                exact hK)
              refine os_run rfl rfl (fun K hK => ?_)
              go_wp2_with fail
              refine (Row_any m _ (by omega)).mono ?_
              rintro e wa ⟨Aa, ca, rfl, hoa, hba⟩
              have Sa := Lib.hid (Sl.own_lt hoa)
              clear hoa
              go_wp2_with fail
              refine ⟨fun _ _ h => Below.tr h (hba), ?_⟩
              replace hS0 := Below.tr hS0 (hba)
              refine os_run rfl rfl (fun K hK => ?_)
              go_wp2_with fail
              refine (Row_any i _ (by omega)).mono ?_
              rintro e wb ⟨Ab, cb, rfl, hob, hbb⟩
              have Sb := Lib.hid (Sl.own_lt hob)
              replace Sa := Lib.hid ((Sa.out.belF hbb (fun _ h => h)).mono (fun k hk => Nat.lt_of_lt_of_le hk hbb.size))
              clear hob
              go_wp2_with fail
              refine ⟨fun _ _ h => Below.tr h (hbb), ?_⟩
              replace hS0 := Below.tr hS0 (hbb)
              refine os_run rfl rfl (fun K hK => ?_)
              go_wp2_with fail
              refine (AeadBack_any _ pubK_len (show pubN.length = 12 from rfl) Sa.out Sb.out (by omega) (by omega)).mono ?_
              rintro e wc ⟨rfl, hbc⟩
              clear Sa Sb
              go_wp2_with fail
              refine ⟨fun _ _ h => Below.tr h (hbc), ?_⟩
              replace hS0 := Below.tr hS0 (hbc)
              refine os_moveg rfl rfl rfl (Nat.le_of_ble_eq_true rfl) ?_
              apply Exists.intro
              refine ⟨fun w' K hK => ?_, ?_⟩
              (focus
                go_simp
                exact hK)
              refine os_move rfl rfl rfl (Nat.le_of_ble_eq_true rfl) ?_
              apply Exists.intro
              refine ⟨fun w' K hK => ?_, ?_⟩
              (focus
                go_simp
                exact hK)
              refine os_move rfl rfl rfl (Nat.le_of_ble_eq_true rfl) ?_
              apply Exists.intro
              refine ⟨fun w' K hK => ?_, ?_⟩
              (focus
                go_simp
                exact hK)
              refine os_load_mid 23 (.tmp 1) (g1) (0) (bs pubK) _ hS0 rfl rfl rfl rfl rfl (uK.out) rfl (i1.out) (fun w' h => rangeAt_bel (range_dr (r1.out)) h l1) ⟨_, rfl, ?_⟩
              refine os_load_mid 25 (.tmp 2) (g2) (0) (bs pubN) _ hS0 rfl rfl rfl rfl rfl (uN.out) rfl (i2.out) (fun w' h => rangeAt_bel (range_dr (r2.out)) h l2) ⟨_, rfl, ?_⟩
              refine os_moveg rfl rfl rfl (Nat.le_of_ble_eq_true rfl) ?_
              apply Exists.intro
              refine ⟨fun w' K hK => ?_, ?_⟩
              (focus
                go_simp
                exact hK)
              refine os_moveg rfl rfl rfl (Nat.le_of_ble_eq_true rfl) ?_
              apply Exists.intro
              refine ⟨fun w' K hK => ?_, ?_⟩
              (focus
                go_simp
                exact hK)
              refine os_moveg rfl rfl rfl (Nat.le_of_ble_eq_true rfl) ?_
              apply Exists.intro
              refine ⟨fun w' K hK => ?_, ?_⟩
              (focus
                go_simp
                exact hK)
              refine os_run rfl rfl (fun K hK => ?_)
              go_wp2_with fail
              refine (Row_any i _ (by omega)).mono ?_
              rintro e wa ⟨Aa, ca, rfl, hoa, hba⟩
              have Sa := Lib.hid (Sl.own_lt hoa)
              clear hoa
              go_wp2_with fail
              refine ⟨fun _ _ h => Below.tr h (hba), ?_⟩
              replace hS0 := Below.tr hS0 (hba)
              refine os_run rfl rfl (fun K hK => ?_)
              go_wp2_with fail
              refine (Row_any m _ (by omega)).mono ?_
              rintro e wb ⟨Ab, cb, rfl, hob, hbb⟩
              have Sb := Lib.hid (Sl.own_lt hob)
              replace Sa := Lib.hid ((Sa.out.belF hbb (fun _ h => h)).mono (fun k hk => Nat.lt_of_lt_of_le hk hbb.size))
              clear hob
              go_wp2_with fail
              refine ⟨fun _ _ h => Below.tr h (hbb), ?_⟩
              replace hS0 := Below.tr hS0 (hbb)
              refine os_run rfl rfl (fun K hK => ?_)
              go_wp2_with fail
              refine (AeadTags_any _ pubK_len (show pubN.length = 12 from rfl) (show (List.replicate 16 (0 : UInt8)).length = 16 from rfl) Sa.out Sb.out (by omega) (by omega)).mono ?_
              rintro e wc ⟨rfl, hbc⟩
              clear Sa Sb
              go_wp2_with fail
              refine ⟨fun _ _ h => Below.tr h (hbc), ?_⟩
              replace hS0 := Below.tr hS0 (hbc)
              refine os_moveg rfl rfl rfl (Nat.le_of_ble_eq_true rfl) ?_
              apply Exists.intro
              refine ⟨fun w' K hK => ?_, ?_⟩
              (focus
                go_simp
                exact hK)
              refine os_move rfl rfl rfl (Nat.le_of_ble_eq_true rfl) ?_
              apply Exists.intro
              refine ⟨fun w' K hK => ?_, ?_⟩
              (focus
                go_simp
                exact hK)
              refine os_done ⟨rfl, ?_⟩
              go_wp2_with fail
              go_roundw
              case rel => exact ⟨m + 5, by omega, by go_num, Lib.hid (Below.tr B.out (Below.undr hS0))⟩
              case measure => simp [intOf]; omega
            · have hmI : ¬ (m : Int) < 34 := by omega
              go_wp2_with fail
              go_roundw
              case rel => exact ⟨i + 1, by omega, by go_num, B⟩
              case measure => simp [intOf]; omega
        · have hiI : ¬ (i : Int) < 34 := by omega
          go_wp2_with fail
          refine (works_any _).mono ?_
          rintro e wk ⟨rfl, hbk⟩
          go_wp2_with fail
          go_ret
          exact ⟨rfl, Below.tr (Below.tr B5.out B.out) hbk⟩
end Go.Proofs.Ytklclbppdoahjaa
/- Aead: the walks of the reference's laws in the rows' order. -/
namespace Go.Proofs.Ytklclbppdoahjaa
set_option maxRecDepth 100000
open Go.RowKit
theorem AeadSealsW_any (w : World) (ky : List UInt8) (hk : ky.length = 32) (nc : List UInt8) (hn : nc.length = 12) {A B : Option Addr} {n c m d : Nat} {head b : List UInt8} (h1 : Sl w (Old w) A n c head) (hb1 : n ≤ 140737488355000) (h2 : Sl w (Old w) B m d b) (hb2 : m ≤ 140737488355000) :
    Calls Try.prog 3 #[.agg (bs ky).toArray, .agg (bs nc).toArray, .slice A n c, .slice B m d] w fun e w' => e = .returned (.bool true) ∧ Below w.heap.size w w' := AeadSeals_any w hk hn h1 h2 hb1 hb2
theorem u8_of_wf {b : Int} (h : (Lit.int .u8 b).wf = true) : ∃ u : UInt8, b = (u.toNat : Int) := ⟨UInt8.ofNat b.toNat, (byte_of_wf h).symm⟩
theorem AeadOpensW_any (w : World) (ky : List UInt8) (hk : ky.length = 32) (nc : List UInt8) (hn : nc.length = 12) {A B : Option Addr} {n c m d : Nat} {head b : List UInt8} (h1 : Sl w (Old w) A n c head) (hb1 : n ≤ 140737488355000) (h2 : Sl w (Old w) B m d b) (hb2 : m ≤ 140737488355000) (at' : Int) (_ : (Lit.int .i64 at').wf = true) (bits : Int) (hw : (Lit.int .u8 bits).wf = true) :
    Calls Try.prog 4 #[.agg (bs ky).toArray, .agg (bs nc).toArray, .slice A n c, .slice B m d, .int .i64 at', .int .u8 bits] w fun e w' => e = .returned (.bool true) ∧ Below w.heap.size w w' := by
  obtain ⟨u, rfl⟩ := u8_of_wf hw
  exact AeadOpens_any w hk hn h1 h2 hb1 hb2 at' u
end Go.Proofs.Ytklclbppdoahjaa
