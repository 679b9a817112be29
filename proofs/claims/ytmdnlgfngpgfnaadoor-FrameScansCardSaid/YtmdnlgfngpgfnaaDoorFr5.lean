/- Get. -/
import Derived.Test.YtmdnlgfngpgfnaaDoorFr4
namespace Go.Proofs.YtmdnlgfngpgfnaaDoor
open Go.RowKit

/-- what Get says: the error, the kind, the body, how many bytes -/
structure Got where
  e : Int
  k : Int
  body : List UInt8
  n : Nat
def getP (l : List UInt8) : Got :=
  if (wholeP l).1 ≠ 0 then ⟨(wholeP l).1, 0, [], 0⟩
  else if num4 ((l.take ((wholeP l).2 + 9)).drop (5 + (wholeP l).2)) ≠ (crc (l.take (5 + (wholeP l).2))).toNat then ⟨6, 0, [], 0⟩
  else ⟨0, ((l.headD 0).toNat : Nat), (l.drop 5).take (wholeP l).2, (wholeP l).2 + 9⟩
def gotV (g : Got) (A : Option Addr) (n c : Nat) : Value := .tuple #[.agg #[.int .i64 g.k, .slice A n c], .int .i64 g.n, .int .i64 g.e]

theorem wholeP_cases (l : List UInt8) : ((wholeP l).1 = 2 ∨ (wholeP l).1 = 4 ∨ (wholeP l).1 = 5) ∨ ((wholeP l).1 = 0 ∧ (wholeP l).2 ≤ 2039 ∧ (wholeP l).2 + 9 ≤ l.length) := by
  unfold wholeP
  split
  · left; right; left; rfl
  · split
    · left; left; rfl
    · split
      · left; right; right; rfl
      · split
        · left; right; left; rfl
        · right; refine ⟨rfl, ?_, ?_⟩
          · show num4 (l.drop 1) ≤ 2039
            omega
          · show num4 (l.drop 1) + 9 ≤ l.length
            omega

set_option maxRecDepth 100000 in
set_option maxHeartbeats 1000000 in
theorem Get_no {w : World} {F : Nat → Prop} {A : Option Addr} {n c : Nat} {l : List UInt8} (h : Sl w F A n c l) (hF : ∀ k, F k → k < w.heap.size) (hl : n ≤ 9223372036854775000) (e0 : Int) (he : (wholeP l).1 = e0) (h0 : e0 = 2 ∨ e0 = 4 ∨ e0 = 5) :
    Calls Tryd.prog 20 #[.slice A n c] w fun e w' => e = .returned (gotV ⟨e0, 0, [], 0⟩ none 0 0) ∧ Below w.heap.size w w' := by
  have H := Lib.hid h; clear h
  have Hw : Hid (wholeV A c (wholeP l) = .tuple #[.slice none 0 0, .int .i64 (wholeP l).2, .int .i64 e0]) := by
    show _ = _
    unfold wholeV
    rw [he, if_neg (by omega)]
  clear he
  rcases h0 with rfl | rfl | rfl
  all_goals
    go_enter Tryd.func20, Tryd.ntmps20
    go_wp2_with fail
    have hb1 : Below w.heap.size w (w.alloc (.cells #[.int .i64 0, .slice none 0 0] 34)) := (Below.refl _ _).alloc (Nat.le_refl _) _
    refine (whole_any (H.out.fr (Fr.of_below (M := NoB) hb1) (fun k hk => ⟨hF k hk, id⟩)) hl _ rfl).mono ?_
    rintro e w1 ⟨rfl, m, rfl⟩
    rw [Hw.out]
    go_wp2_with fail
    go_quiet (fail)
    go_wp2_with fail
    (try simp only [Exit.inBlock, Exit.then])
    refine bodyPost_ret (v := gotV ⟨_, 0, [], 0⟩ none 0 0) (by simp [results, Tryd.results20, go_sem]; rfl) rfl ⟨rfl, ?_⟩
    exact ((below_drewN hb1 _).setCell (Nat.le_refl _) _).setCell (Nat.le_refl _) _
theorem Sl.drewN_ {w : World} {F : Nat → Prop} {A : Option Addr} {n c : Nat} {l : List UInt8} (h : Sl w F A n c l) (m : Nat) : Sl (w.drewN m) F A n c l := ⟨h.len, h.cap, h.nil, h.foot, h.rd⟩
theorem number_q {w : World} {F : Nat → Prop} {A : Option Addr} {n c : Nat} {l : List UInt8} (h : Sl w F A n c l) (hn : 4 ≤ n) (v : Nat) (hv : num4 l = v) (m : Nat) :
    Calls Tryd.prog 33 #[.slice A n c] (w.drewN m) fun x w' => x = .returned (.int .u32 (v : Nat)) ∧ ∃ k, w' = w.drewN k := by
  subst hv
  exact (number_l (h.drewN_ m) hn).mono fun _ _ ⟨he, k, hk⟩ => ⟨he, m + k, by rw [hk, World.drewN_drewN]⟩
theorem Sum_q {F : Nat → Prop} {A : Option Addr} {n c : Nat} {l : List UInt8} {w : World} (hS : Steps w) (h : Sl w F A n c l) (hl : n ≤ 9223372036854775806) (v : BitVec 32) (hv : crc l = v) (m : Nat) :
    Calls Tryd.prog 16 #[.slice A n c] (w.drewN m) fun e w' => e = .returned (.int .u32 (wv v)) ∧ ∃ k, w' = w.drewN k := by
  subst hv
  exact (Sum_any (w := w.drewN m) hS (h.drewN_ m) hl).mono fun _ _ ⟨he, hk⟩ => ⟨he, m, hk.symm⟩

set_option maxRecDepth 100000 in
set_option maxHeartbeats 1000000 in
theorem Get_bad {w : World} (hS : Steps w) {F : Nat → Prop} {A : Option Addr} {n c : Nat} {l : List UInt8} (h : Sl w F A n c l) (hF : ∀ k, F k → k < w.heap.size) (hl : n ≤ 9223372036854775000) (N : Nat) (hw : wholeP l = (0, N)) (hN : N ≤ 2039) (hfit : N + 9 ≤ n)
    (x : Nat) (y : BitVec 32) (hx : num4 ((l.take (N + 9)).drop (5 + N)) = x) (hy : crc (l.take (5 + N)) = y) (hne : x ≠ y.toNat) :
    Calls Tryd.prog 20 #[.slice A n c] w fun e w' => e = .returned (gotV ⟨6, 0, [], 0⟩ none 0 0) ∧ Below w.heap.size w w' := by
  have H := Lib.hid h
  have hcap := h.cap
  have hlen := h.len
  have HS := Lib.hid hS
  have Hw : Hid (wholeV A c (0, N) = .tuple #[.slice A (5 + N + 4) c, .int .i64 N, .int .i64 0]) := by
    show _ = _
    unfold wholeV
    rw [show N + 9 = 5 + N + 4 by omega]; rfl
  have Hx := Lib.hid hx; have Hy := Lib.hid hy; have Hlen := Lib.hid hlen; have Hfit := Lib.hid hfit
  have hneB : ((x : Int) != wv y) = true := by simp only [bne_iff_ne, ne_eq, wv]; omega
  have Hwp := Lib.hid hw
  have hcI : 5 + (N : Int) + 4 ≤ (c : Int) := by omega
  have hNI : (N : Int) ≤ 2039 := by omega
  obtain ⟨ad, rfl⟩ : ∃ ad, A = some ad := by
    cases A with
    | some ad => exact ⟨ad, rfl⟩
    | none => have := (h.zero rfl).1; omega
  clear h hx hy hlen hne hw hcap hfit hN hS
  go_enter Tryd.func20, Tryd.ntmps20
  go_wp2_with fail
  have hb1 : Below w.heap.size w (w.alloc (.cells #[.int .i64 0, .slice none 0 0] 34)) := (Below.refl _ _).alloc (Nat.le_refl _) _
  refine (whole_any (H.out.fr (Fr.of_below (M := NoB) hb1) (fun k hk => ⟨hF k hk, id⟩)) hl _ Hwp.out).mono ?_
  rintro e w1 ⟨rfl, m, rfl⟩
  rw [Hw.out]
  go_wp2_with fail
  have hb2 : Hid (Below w.heap.size w ((w.alloc (.cells #[.int .i64 0, .slice none 0 0] 34)).drewN m)) := below_drewN hb1 m
  have hg2 : Hid (((w.alloc (.cells #[.int .i64 0, .slice none 0 0] 34)).drewN m).heap[w.heap.size]? = some (.cells #[.int .i64 0, .slice none 0 0] 34 (0, 0))) := heap_alloc_new w _
  generalize (w.alloc (.cells #[.int .i64 0, .slice none 0 0] 34)).drewN m = w2 at hb2 hg2 ⊢
  have s0 := H.out.fr (Fr.of_below (M := NoB) hb2.out) (fun k hk => ⟨hF k hk, id⟩)
  have hS2 := Lib.hid (HS.out.below hb2.out HS.out.pos)
  have s1 : Sl w2 F (some ad) (N + 9) c (l.take (N + 9)) := Sl.take_ (l' := l.drop (N + 9)) (by rw [List.take_append_drop]; exact s0) (by rw [List.length_take]; have := Hlen.out; have := Hfit.out; omega)
  have s2 : Hid (Sl w2 F (some (ad.add (5 + N))) 4 (c - (5 + N)) ((l.take (N + 9)).drop (5 + N))) := by
    have s2 := s1.drop_ (m := 5 + N) (A' := some (ad.add (5 + N))) (by omega) (.inr rfl)
    rw [show N + 9 - (5 + N) = 4 by omega] at s2
    exact s2
  have s3 : Hid (Sl w2 F (some ad) (5 + N) c (l.take (5 + N))) := Sl.take_ (l' := l.drop (5 + N)) (by rw [List.take_append_drop]; exact s0) (by rw [List.length_take]; have := Hlen.out; have := Hfit.out; omega)
  clear hb1 s0 s1
  go_quiet (first
    | (go_at_call 33; exact number_q s2.out (by omega) x Hx.out _)
    | (go_at_call 16; exact Sum_q hS2.out s3.out (by omega) y Hy.out _))
  have hc0 : w2.cell? ⟨w.heap.size, 0, none⟩ = some (.int .i64 0) := by rw [cell_of_row w2 _ 0 _ _ _ hg2.out]; rfl
  have hc1 : w2.cell? ⟨w.heap.size, 1, none⟩ = some (.slice none 0 0) := by rw [cell_of_row w2 _ 1 _ _ _ hg2.out]; rfl
  have f0 : w2.frozen? ⟨w.heap.size, 0, none⟩ = false := frozen_of_row w2 _ 0 _ _ hg2.out
  have f1 : w2.frozen? ⟨w.heap.size, 1, none⟩ = false := frozen_of_row w2 _ 1 _ _ hg2.out
  go_wp2_with fail
  (try simp only [Exit.inBlock, Exit.then])
  refine bodyPost_ret (v := gotV ⟨6, 0, [], 0⟩ none 0 0) (by simp [results, Tryd.results20, go_sem, hc0, hc1, f0, f1]; rfl) rfl ⟨rfl, ?_⟩
  exact ((below_drewN hb2.out _).setCell (Nat.le_refl _) _).setCell (Nat.le_refl _) _

attribute [local go_sem] yld yldUpon_value
set_option maxRecDepth 100000 in
set_option maxHeartbeats 1000000 in
theorem Get_ok {w : World} (hS : Steps w) {F : Nat → Prop} {A : Option Addr} {n c : Nat} {k : UInt8} {l : List UInt8} (h : Sl w F A n c (k :: l)) (hF : ∀ k, F k → k < w.heap.size) (hl : n ≤ 9223372036854775000) (N : Nat) (hw : wholeP (k :: l) = (0, N)) (hN : N ≤ 2039) (hfit : N + 9 ≤ n)
    (x : Nat) (y : BitVec 32) (hx : num4 (((k :: l).take (N + 9)).drop (5 + N)) = x) (hy : crc ((k :: l).take (5 + N)) = y) (hne : x = y.toNat) :
    Calls Tryd.prog 20 #[.slice A n c] w fun e w' => ∃ A' c', e = .returned (gotV ⟨0, (k.toNat : Nat), [], N + 9⟩ A' N c') ∧ w'.ownsRow w.heap.size 5 1 (.slice A' N c') N (bs (((k :: l).drop 5).take N)) ∧ Below w.heap.size w w' := by
  have H := Lib.hid h
  have hcap := h.cap
  have hlen := h.len
  have HS := Lib.hid hS
  have Hw : Hid (wholeV A c (0, N) = .tuple #[.slice A (5 + N + 4) c, .int .i64 N, .int .i64 0]) := by
    show _ = _
    unfold wholeV
    rw [show N + 9 = 5 + N + 4 by omega]; rfl
  have Hx := Lib.hid hx; have Hy := Lib.hid hy; have Hlen := Lib.hid hlen; have Hfit := Lib.hid hfit
  have hneB : ((x : Int) != wv y) = false := by simp only [bne_eq_false_iff_eq, wv]; omega
  have Hwp := Lib.hid hw
  have hcI : 5 + (N : Int) + 4 ≤ (c : Int) := by omega
  have hNI : (N : Int) ≤ 2039 := by omega
  obtain ⟨ad, rfl⟩ : ∃ ad, A = some ad := by
    cases A with
    | some ad => exact ⟨ad, rfl⟩
    | none => have := (h.zero rfl).1; omega
  obtain ⟨_, e0, hck⟩ := h.rd 0 _ rfl
  injection e0 with e0; subst e0
  have hck : w.cell? ad = some (.int .u8 (k.toNat : Int)) := hck
  have Hck := Lib.hid hck
  have h0n : 0 < n := by omega
  clear h hx hy hlen hne hw hcap hfit hN hS hck
  go_enter Tryd.func20, Tryd.ntmps20
  go_wp2_with fail
  have hb1 : Below w.heap.size w (w.alloc (.cells #[.int .i64 0, .slice none 0 0] 34)) := (Below.refl _ _).alloc (Nat.le_refl _) _
  refine (whole_any (H.out.fr (Fr.of_below (M := NoB) hb1) (fun k hk => ⟨hF k hk, id⟩)) hl _ Hwp.out).mono ?_
  rintro e w1 ⟨rfl, m, rfl⟩
  rw [Hw.out]
  go_wp2_with fail
  have hb2 : Hid (Below w.heap.size w ((w.alloc (.cells #[.int .i64 0, .slice none 0 0] 34)).drewN m)) := below_drewN hb1 m
  have hg2 : Hid (((w.alloc (.cells #[.int .i64 0, .slice none 0 0] 34)).drewN m).heap[w.heap.size]? = some (.cells #[.int .i64 0, .slice none 0 0] 34 (0, 0))) := heap_alloc_new w _
  generalize (w.alloc (.cells #[.int .i64 0, .slice none 0 0] 34)).drewN m = w2 at hb2 hg2 ⊢
  have s0 := H.out.fr (Fr.of_below (M := NoB) hb2.out) (fun k hk => ⟨hF k hk, id⟩)
  have hS2 := Lib.hid (HS.out.below hb2.out HS.out.pos)
  have s1 : Sl w2 F (some ad) (N + 9) c ((k :: l).take (N + 9)) := Sl.take_ (l' := (k :: l).drop (N + 9)) (by rw [List.take_append_drop]; exact s0) (by rw [List.length_take]; have := Hlen.out; have := Hfit.out; omega)
  have s2 : Hid (Sl w2 F (some (ad.add (5 + N))) 4 (c - (5 + N)) (((k :: l).take (N + 9)).drop (5 + N))) := by
    have s2 := s1.drop_ (m := 5 + N) (A' := some (ad.add (5 + N))) (by omega) (.inr rfl)
    rw [show N + 9 - (5 + N) = 4 by omega] at s2
    exact s2
  have s3 : Hid (Sl w2 F (some ad) (5 + N) c ((k :: l).take (5 + N))) := Sl.take_ (l' := (k :: l).drop (5 + N)) (by rw [List.take_append_drop]; exact s0) (by rw [List.length_take]; have := Hlen.out; have := Hfit.out; omega)
  have s4 : Hid (Sl w2 F (some (ad.add 5)) N (c - 5) (((k :: l).drop 5).take N)) := by
    have s4 := s3.out.drop_ (m := 5) (A' := some (ad.add 5)) (by omega) (.inr rfl)
    rw [show 5 + N - 5 = N by omega, List.drop_take, show 5 + N - 5 = N by omega] at s4
    exact s4
  have hlt2 : Hid (ad.block < w.heap.size) := World.block_lt_of_cell? _ _ Hck.out
  have hck2 : Hid (w2.cell? ad = some (.int .u8 (k.toNat : Int))) := by show _ = _; rw [hb2.out.cell hlt2.out]; exact Hck.out
  clear hb1 s0 s1
  go_quiet (first
    | (go_at_call 33; exact number_q s2.out (by omega) x Hx.out _)
    | (go_at_call 16; exact Sum_q hS2.out s3.out (by omega) y Hy.out _))
  go_wp2_with fail
  have hwk : Hid (IntKind.i64.wrap (k.toNat : Int) = (k.toNat : Int)) := by have := k.toNat_lt; show _ = _; rw [IntKind.wrap_i64]; omega
  have hwN : Hid (IntKind.i64.wrap (5 + (N : Int)) = 5 + (N : Int)) := by show _ = _; rw [IntKind.wrap_i64]; omega
  have hc5 : ¬ c = 5 := by omega
  have hcI2 : 5 + (N : Int) ≤ (c : Int) := by omega
  have hc5' : 5 ≤ c := by omega
  have hS0 : Hid ((w2.drewN nq).drew.cell? ad = some (.int .u8 (k.toNat : Int))) := hck2.out
  refine wp_region_ord (fun w' => w'.cell? ad = some (.int .u8 (k.toNat : Int))) 15
    [(0, true), (1, true), (2, true), (3, true), (4, true), (5, true), (6, true), (7, true), (10, true), (11, true), (8, false), (9, true), (12, false), (13, false), (14, false)]
    (by kernel_rfl) (by kernel_rfl) (fun _ _ _ _ _ h => h) ?_
  iterate 3 (
    refine ord_yld hS0.out rfl rfl rfl (Nat.le_of_ble_eq_true rfl) ?_
    apply Exists.intro
    refine ⟨fun w' hS' K hK => ?_, ?_⟩
    (focus
      go_simp
      exact hK))
  iterate 1 (
    refine ord_yld hS0.out rfl rfl rfl (Nat.le_of_ble_eq_true rfl) ?_
    apply Exists.intro
    refine ⟨fun w' hS' K hK => ?_, ?_⟩
    (focus
      go_simp
      rw [hwk.out]
      exact hK))
  iterate 2 (
    refine ord_yld hS0.out rfl rfl rfl (Nat.le_of_ble_eq_true rfl) ?_
    apply Exists.intro
    refine ⟨fun w' hS' K hK => ?_, ?_⟩
    (focus
      go_simp
      exact hK))
  iterate 1 (
    refine ord_yld hS0.out rfl rfl rfl (Nat.le_of_ble_eq_true rfl) ?_
    apply Exists.intro
    refine ⟨fun w' hS' K hK => ?_, ?_⟩
    (focus
      go_simp
      rw [hwN.out]
      exact hK))
  iterate 1 (
    refine ord_yld hS0.out rfl rfl rfl (Nat.le_of_ble_eq_true rfl) ?_
    apply Exists.intro
    refine ⟨fun w' hS' K hK => ?_, ?_⟩
    (focus
      go_simp
      rw [if_pos (by omega), if_pos (by omega), show (5 + (N : Int)).toNat - 5 = N by omega]
      simp only [yldUpon_value]
      exact hK))
  iterate 2 (
    refine ord_yld hS0.out rfl rfl rfl (Nat.le_of_ble_eq_true rfl) ?_
    apply Exists.intro
    refine ⟨fun w' hS' K hK => ?_, ?_⟩
    (focus
      go_simp
      exact hK))
  refine ord_run rfl rfl (fun K hK => ?_)
  go_wp2_with fail
  have hz2 := hb2.out.size
  refine (Clone_sl (s4.out.fr (M := NoB) (Fr.drew (Fr.drewN (Fr.refl _ _) nq)) (fun j hj => ⟨Nat.lt_of_lt_of_le (hF j hj) hz2, id⟩)) (fun j hj => Nat.lt_of_lt_of_le (hF j hj) hz2) (by omega)).mono ?_
  rintro e w3 ⟨A3, c3, rfl, hown3, hb3⟩
  have hb3' : Hid (Below w2.heap.size w2 w3) := (Below.drew (below_drewN (Below.refl _ _) nq)).trans hb3
  have hS3 : w3.cell? ad = some (.int .u8 (k.toNat : Int)) := by rw [hb3'.out.cell (Nat.lt_of_lt_of_le hlt2.out hz2)]; exact hck2.out
  refine hK _ _ ⟨fun _ => hS3, ?_⟩
  clear hK K
  have hS3' := Lib.hid hS3
  clear hS3
  iterate 1 (
    refine ord_yld hS3'.out rfl rfl rfl (Nat.le_of_ble_eq_true rfl) ?_
    apply Exists.intro
    refine ⟨fun w' hS' K hK => ?_, ?_⟩
    (focus
      go_simp
      exact hK))
  have hlt : Hid (w.heap.size < w2.heap.size) := by
    have := hg2.out
    rcases Nat.lt_or_ge w.heap.size w2.heap.size with h | h
    · exact h
    · rw [Array.getElem?_eq_none h] at this; cases this
  have hg3 : Hid (w3.heap[w.heap.size]? = some (.cells #[.int .i64 0, .slice none 0 0] 34 (0, 0))) := (hb3'.out.block _ hlt.out).trans hg2.out
  have hc0 : w3.cell? ⟨w.heap.size, 0, none⟩ = some (.int .i64 0) := by rw [cell_of_row w3 _ 0 _ _ _ hg3.out]; rfl
  have hc1 : w3.cell? ⟨w.heap.size, 1, none⟩ = some (.slice none 0 0) := by rw [cell_of_row w3 _ 1 _ _ _ hg3.out]; rfl
  have f0 : w3.frozen? ⟨w.heap.size, 0, none⟩ = false := frozen_of_row w3 _ 0 _ _ hg3.out
  have f1 : w3.frozen? ⟨w.heap.size, 1, none⟩ = false := frozen_of_row w3 _ 1 _ _ hg3.out
  refine ord_run rfl rfl (fun K hK => ?_)
  go_wp2_with fail
  have hf4 : Fr (fun j => j = w.heap.size) w3 ((w3.setCell ⟨w.heap.size, 0, none⟩ (.int .i64 (k.toNat : Int))).setCell ⟨w.heap.size, 1, none⟩ (.slice A3 N c3)) := by
    have h1 : Fr (fun j => j = w.heap.size) w3 (w3.setCell ⟨w.heap.size, 0, none⟩ (.int .i64 (k.toNat : Int))) := (Fr.refl (fun j => j = w.heap.size) w3).setCell (p := ⟨w.heap.size, 0, none⟩) (.inl rfl) _
    exact h1.setCell (p := ⟨w.heap.size, 1, none⟩) (.inl rfl) _
  have hS4 : ((w3.setCell ⟨w.heap.size, 0, none⟩ (.int .i64 (k.toNat : Int))).setCell ⟨w.heap.size, 1, none⟩ (.slice A3 N c3)).cell? ad = some (.int .u8 (k.toNat : Int)) := by
    have h1 := hlt2.out
    rw [World.cell?_of_block (w := w3) (hf4.block ad.block (by have := hb3'.out.size; omega) (by omega))]
    exact hS3'.out
  refine ⟨fun _ => hS4, ?_⟩
  refine ord_run rfl rfl (fun K hK => ?_)
  refine hK _ _ ⟨fun _ => hS4, ?_⟩
  clear hK K
  refine ord_run rfl rfl (fun K hK => ?_)
  refine hK _ _ ⟨fun _ => hS4, ?_⟩
  clear hK K
  refine ord_end ?_
  go_wp2_with fail
  (try simp only [Exit.inBlock, Exit.then])
  rw [show N + 9 = 5 + N + 4 by omega]
  refine bodyPost_ret (v := gotV ⟨0, (k.toNat : Nat), [], 5 + N + 4⟩ A3 N c3) (by simp [results, Tryd.results20, go_sem, hc0, hc1]; rfl) rfl ⟨A3, c3, rfl, ?_, ?_⟩
  · exact own_mono (own_fr hown3 hf4 (fun j hj e => by have h1 := (hown3.lt j hj).1; have h2 := hlt.out; have h3 : (w2.drewN nq).drew.heap.size = w2.heap.size := rfl; omega)) hz2
  · exact ((hb2.out.trans (hb3'.out.mono hz2)).setCell (Nat.le_refl _) _).setCell (Nat.le_refl _) _
theorem Get_any {w : World} (hS : Steps w) {F : Nat → Prop} {A : Option Addr} {n c : Nat} {l : List UInt8} (h : Sl w F A n c l) (hF : ∀ k, F k → k < w.heap.size) (hl : n ≤ 9223372036854775000) (g : Got) (hg : getP l = g) :
    Calls Tryd.prog 20 #[.slice A n c] w fun e w' => ∃ A' n' c', e = .returned (gotV g A' n' c') ∧ w'.ownsRow w.heap.size 5 1 (.slice A' n' c') n' (bs g.body) ∧ Below w.heap.size w w' := by
  subst hg
  rcases wholeP_cases l with hn | ⟨h0, hN, hf⟩
  · have hne : (wholeP l).1 ≠ 0 := by omega
    refine (Get_no h hF hl (wholeP l).1 rfl hn).mono ?_
    rintro e w' ⟨he, hb⟩
    refine ⟨none, 0, 0, ?_, ?_, hb⟩
    · rw [he]; unfold getP; rw [if_pos hne]
    · unfold getP; rw [if_pos hne]; exact World.ownsRow_nil _ _ _ _
  · have hp : wholeP l = (0, (wholeP l).2) := by rw [← h0]
    by_cases hx : num4 ((l.take ((wholeP l).2 + 9)).drop (5 + (wholeP l).2)) = (crc (l.take (5 + (wholeP l).2))).toNat
    · match l, h, hp, hx, hN, hf, h0 with
      | [], _, _, _, _, hf, _ => simp at hf
      | k :: l, h, hp, hx, hN, hf, h0 =>
        refine (Get_ok hS h hF hl _ hp hN (by have := h.len; omega) _ _ rfl rfl hx).mono ?_
        rintro e w' ⟨A', c', he, ho, hb⟩
        have hg : getP (k :: l) = ⟨0, (k.toNat : Nat), ((k :: l).drop 5).take (wholeP (k :: l)).2, (wholeP (k :: l)).2 + 9⟩ := by
          unfold getP
          rw [if_neg (by rw [h0]; simp), if_neg (by rw [hx]; simp)]
          rfl
        rw [hg]
        exact ⟨A', _, c', he, ho, hb⟩
    · refine (Get_bad hS h hF hl _ hp hN (by have := h.len; omega) _ _ rfl rfl hx).mono ?_
      rintro e w' ⟨he, hb⟩
      have hg : getP l = ⟨6, 0, [], 0⟩ := by
        unfold getP
        rw [if_neg (by rw [h0]; simp), if_pos hx]
      rw [hg]
      exact ⟨none, 0, 0, he, World.ownsRow_nil _ _ _ _, hb⟩
end Go.Proofs.YtmdnlgfngpgfnaaDoor
