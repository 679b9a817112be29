/- RingPlays: a call of both. -/
import Derived.Test.YtglbhoamknjdeaaRr4
import Derived.Test.YtglbhoamknjdeaaRg11
namespace Go.Proofs.Ytglbhoamknjdeaa
open Go.RowKit
attribute [local go_sem] yld yldUpon_value

theorem mem_putR {L : List (Wk × Hd)} {k : Wk} {h : Hd} {p : Wk × Hd} (hp : p ∈ putR L k h) : p ∈ L ∨ p = (k, h) := by
  unfold putR at hp
  split at hp
  · obtain ⟨q, hq, rfl⟩ := List.mem_map.1 hp
    split
    · exact .inr rfl
    · exact .inl hq
  · rcases List.mem_append.1 hp with h1 | h1
    · exact .inl h1
    · simp at h1; exact .inr h1
theorem len_putR {L : List (Wk × Hd)} {k : Wk} {h : Hd} : (putR L k h).length ≤ L.length + 1 := by
  unfold putR; split <;> simp
theorem len_putR2 {L : List (Wk × Hd)} {k : Wk} {h : Hd} (hs : (look L k).isSome = true) : (putR L k h).length = L.length := by
  unfold putR; rw [if_pos hs]; simp
theorem ok_putR {L : List (Wk × Hd)} {k : Wk} {h : Hd} (hs : SlotsOk L) (h1 : 1 ≤ h.slot ∧ h.slot ≤ 64) : SlotsOk (putR L k h) := by
  intro p hp
  rcases mem_putR hp with e | rfl
  · exact hs p e
  · exact h1
theorem ok_make {L : List (Wk × Hd)} {k : Wk} {n c : Int} {L' : List (Wk × Hd)} (h : makeR L k n = (c, L')) (hs : SlotsOk L) : SlotsOk L' ∧ L'.length ≤ L.length + 1 := by
  unfold makeR at h
  split at h
  · injection h with _ h; subst h; exact ⟨hs, by omega⟩
  · split at h
    · injection h with _ h; subst h; exact ⟨hs, by omega⟩
    · injection h with _ h; subst h; exact ⟨ok_putR hs ⟨by show 1 ≤ n; omega, by show n ≤ 64; omega⟩, len_putR⟩
theorem ok_use {L : List (Wk × Hd)} {k : Wk} {n c : Int} {L' : List (Wk × Hd)} (h : useR L k n = (c, L')) (hs : SlotsOk L) : SlotsOk L' ∧ L'.length ≤ L.length + 1 := by
  unfold useR at h
  split at h
  · injection h with _ h; subst h; exact ⟨hs, by omega⟩
  · split at h
    · injection h with _ h; subst h; exact ⟨hs, by omega⟩
    · rename_i hl
      split at h
      · injection h with _ h; subst h; exact ⟨hs, by omega⟩
      · split at h
        · injection h with _ h; subst h; exact ⟨hs, by omega⟩
        · injection h with _ h; subst h; exact ⟨ok_putR hs (hs _ (look_of hl)), len_putR⟩
theorem ok_shred {L : List (Wk × Hd)} {k : Wk} {c : Int} {L' : List (Wk × Hd)} (h : shredR L k = (c, L')) (hs : SlotsOk L) : SlotsOk L' ∧ L'.length ≤ L.length + 1 := by
  unfold shredR at h
  split at h
  · injection h with _ h; subst h; exact ⟨hs, by omega⟩
  · rename_i hl
    split at h
    · injection h with _ h; subst h; exact ⟨hs, by omega⟩
    · injection h with _ h; subst h; exact ⟨ok_putR hs (hs _ (look_of hl)), len_putR⟩
/-- both rings -/
structure BothAt (w : World) (lo b m g : Nat) (A : Option Addr) (n c : Nat) (L : List (Wk × Hd)) : Prop where
  ring : RingAt w b m L
  rf : RefAt w lo g A n c L
  bm : b < lo ∧ m < lo
  lo' : lo ≤ w.heap.size
  slots : SlotsOk L
  len : L.length ≤ 10000
theorem BothAt.n {w : World} {lo b m g : Nat} {A : Option Addr} {n c : Nat} {L : List (Wk × Hd)} (h : BothAt w lo b m g A n c L) : n ≤ 10000 := by have := h.rf.len; have := h.len; omega
theorem BothAt.bel {w w' : World} {lo b m g : Nat} {A : Option Addr} {n c : Nat} {L : List (Wk × Hd)} (h : BothAt w lo b m g A n c L) (hb : Below w.heap.size w w') : BothAt w' lo b m g A n c L :=
  ⟨h.ring.bel hb, h.rf.bel hb, h.bm, Nat.le_trans h.lo' hb.size, h.slots, h.len⟩
theorem RefAt.ofM {w w' : World} {lo m g : Nat} {A : Option Addr} {n c : Nat} {L : List (Wk × Hd)} (h : RefAt w lo g A n c L) (hm : m < lo) (hf : Fr (fun j => j = m) w w') : RefAt w' lo g A n c L :=
  h.fr hf (fun e => by have := h.lo; omega) (fun k hk e => by have := (h.own.lt k hk).1; omega)
theorem RingAt.ofR {w w' : World} {lo b m g : Nat} {A : Option Addr} {n c : Nat} {L L' : List (Wk × Hd)} (h : RingAt w b m L) (hr : RefAt w lo g A n c L') (hb : b < lo ∧ m < lo) (hf : Fr (RM g A n c) w w') : RingAt w' b m L :=
  have key : ∀ j, j < lo → ¬ RM g A n c j := fun j hj e => by
    rcases e with e | e
    · have := hr.lo; omega
    · have := (hr.own.lt _ e).1; omega
  h.fr hf (key b hb.1) (key m hb.2)
/-- what a call of both turns -/
abbrev BM (m g : Nat) (A : Option Addr) (n c : Nat) : Nat → Prop := fun j => j = m ∨ RM g A n c j
theorem rMake_at {w : World} {lo g : Nat} {A : Option Addr} {n c : Nat} {L : List (Wk × Hd)} (h : RefAt w lo g A n c L) (hn : n ≤ 10000) (hlo : lo ≤ w.heap.size) (t s : ByteArray) (v : Int) (r : Int) (L' : List (Wk × Hd)) (hr : makeR L (t, s) v = (r, L')) :
    Calls Try.prog 22 #[.pointer (some ⟨g, 0, none⟩), .string t, .string s, .int .i64 v] w fun e w' => e = .returned (.int .i64 r) ∧ (∃ A' n' c', RefAt w' lo g A' n' c' L') ∧ Fr (RM g A n c) w w' := by
  have := rMake_any h hn hlo t s v
  rw [hr] at this; exact this
theorem rUse_at {w : World} {lo g : Nat} {A : Option Addr} {n c : Nat} {L : List (Wk × Hd)} (h : RefAt w lo g A n c L) (hn : n ≤ 10000) (hnd : (L.map (·.1)).Nodup) (hok : ∀ p ∈ L, 0 ≤ p.2.uses ∧ p.2.uses ≤ 200) (t s : ByteArray) (v : Int) (r : Int) (L' : List (Wk × Hd)) (hr : useR L (t, s) v = (r, L')) :
    Calls Try.prog 23 #[.pointer (some ⟨g, 0, none⟩), .string t, .string s, .int .i64 v] w fun e w' => e = .returned (.int .i64 r) ∧ (∃ A' n' c', RefAt w' lo g A' n' c' L') ∧ Fr (RM g A n c) w w' := by
  have := rUse_any h hn hnd hok t s v
  rw [hr] at this; exact this.mono fun e w' h => ⟨h.1, ⟨A, n, c, h.2.1⟩, h.2.2⟩
theorem rShred_at {w : World} {lo g : Nat} {A : Option Addr} {n c : Nat} {L : List (Wk × Hd)} (h : RefAt w lo g A n c L) (hn : n ≤ 10000) (hnd : (L.map (·.1)).Nodup) (t s : ByteArray) (r : Int) (L' : List (Wk × Hd)) (hr : shredR L (t, s) = (r, L')) :
    Calls Try.prog 24 #[.pointer (some ⟨g, 0, none⟩), .string t, .string s] w fun e w' => e = .returned (.int .i64 r) ∧ (∃ A' n' c', RefAt w' lo g A' n' c' L') ∧ Fr (RM g A n c) w w' := by
  have := rShred_any h hn hnd t s
  rw [hr] at this; exact this.mono fun e w' h => ⟨h.1, ⟨A, n, c, h.2.1⟩, h.2.2⟩
set_option maxRecDepth 100000 in
set_option maxHeartbeats 8000000 in
theorem does_any {w : World} {lo b m g : Nat} {A : Option Addr} {n c : Nat} {L : List (Wk × Hd)} (h : BothAt w lo b m g A n c L) (hl : L.length < 10000) (kd v : Int) (hv : (Lit.int .i64 v).wf = true) (t s : ByteArray) (hk : Fits (t, s)) :
    Calls Try.prog 15 #[.pointer (some ⟨b, 0, none⟩), .pointer (some ⟨g, 0, none⟩), .agg #[.int .i64 kd, .int .i64 v, .string t, .string s]] w fun e w' => e = .returned (.bool true) ∧ (∃ A' n' c' L', BothAt w' lo b m g A' n' c' L' ∧ L'.length ≤ L.length + 1) ∧ Fr (BM m g A n c) w w' := by
  have H := Lib.hid h; have HV := Lib.hid hv; have HK := Lib.hid hk; have HLn := Lib.hid hl
  clear h hv hk hl
  obtain ⟨M, hM⟩ : ∃ M : Nat → Prop, M = BM m g A n c := ⟨_, rfl⟩
  have HM := Lib.hid hM
  obtain ⟨gB, hgB⟩ : ∃ gB, gB = w.heap.size := ⟨_, rfl⟩
  have nM : ¬ M gB := by
    rw [hM, hgB]
    intro e
    rcases e with e | e | e
    · have := H.out.bm; have := H.out.lo'; omega
    · have := (Array.getElem?_eq_some_iff.1 H.out.rf.box).1; omega
    · have := (H.out.rf.own.lt _ e).2; omega
  go_enter Try.func15, Try.ntmps15
  go_wp2_with fail
  obtain ⟨w0, hw0⟩ : ∃ w0, w0 = w.alloc (.cells #[.int .i64 kd, .int .i64 v, .string t, .string s] 48) := ⟨_, rfl⟩
  have hh : w0.heap[gB]? = some (.cells #[.int .i64 kd, .int .i64 v, .string t, .string s] 48 (0, 0)) := by rw [hw0, hgB]; exact heap_alloc_new w _
  have B0 : Hid (Below w.heap.size w w0) := by rw [hw0]; exact Below.al w _
  rw [← hw0, ← hgB]
  have X := Lib.hid (H.out.bel B0.out)
  have hgl : gB < w0.heap.size := (Array.getElem?_eq_some_iff.1 hh).1
  have c1 : w0.cell? ⟨gB, 1, none⟩ = some (.int .i64 v) := by rw [cell_of_row w0 gB 1 _ _ _ hh]; rfl
  have c2 : w0.cell? ⟨gB, 2, none⟩ = some (.string t) := by rw [cell_of_row w0 gB 2 _ _ _ hh]; rfl
  have c3 : w0.cell? ⟨gB, 3, none⟩ = some (.string s) := by rw [cell_of_row w0 gB 3 _ _ _ hh]; rfl
  clear hw0 hgB hM hh
  refine (Pick_any kd 5 _ (by decide)).mono ?_
  rintro e w1 ⟨rfl, rfl⟩
  obtain ⟨q, hq⟩ : ∃ q : Int, (if (5 : Int) < 1 then 0 else kd % 5) = q := ⟨_, rfl⟩
  have hq2 : q = 0 ∨ q = 1 ∨ q = 2 ∨ q = 3 ∨ q = 4 := by rw [if_neg (by decide)] at hq; omega
  rw [hq]
  clear hq
  rcases hq2 with rfl | rfl | rfl | rfl | rfl
  · obtain ⟨⟨r, L'⟩, hr⟩ : ∃ r, makeR L (t, s) v = r := ⟨_, rfl⟩
    have HR := Lib.hid hr
    clear hr
    go_wp2_with fail
    refine wp_calm ?_
    refine wp_region_os (fun _ w' => Fr M (w0).drew w') [2, 4, 6, 10, 12, 14] (.move 0 (.move 1 (.take 2 (.move 3 (.take 4 (.move 5 (.take 6 (.move 8 (.move 9 (.take 10 (.move 11 (.take 12 (.move 13 (.take 14 (.run 7 [10, 12, 14] (.run 15 [2, 4, 6] (.move 16 (.move 17 .done)))))))))))))))))) (by kernel_rfl) (by kernel_rfl) (fun _ _ _ _ _ h => nomatch h.1) ?_
    have hS0 : Fr M (w0).drew (w0).drew := Fr.refl _ _
    refine os_move rfl rfl rfl (Nat.le_of_ble_eq_true rfl) ?_
    apply Exists.intro
    refine ⟨fun w' K hK => ?_, ?_⟩
    (focus
      go_simp
      exact hK)
    refine os_move rfl rfl rfl (Nat.le_of_ble_eq_true rfl) ?_
    apply Exists.intro
    refine ⟨fun w' K hK => ?_, ?_⟩
    (focus
      go_simp
      exact hK)
    refine os_yld hS0 rfl rfl rfl (Nat.le_of_ble_eq_true rfl) ?_
    apply Exists.intro
    refine ⟨fun w' hS' K hK => ?_, ?_⟩
    (focus
      obtain ⟨hcc, hff⟩ := bcellM (Fr.undr hS')
      clear hS'
      go_simp
      exact hK)
    refine os_move rfl rfl rfl (Nat.le_of_ble_eq_true rfl) ?_
    apply Exists.intro
    refine ⟨fun w' K hK => ?_, ?_⟩
    (focus
      go_simp
      exact hK)
    refine os_yld hS0 rfl rfl rfl (Nat.le_of_ble_eq_true rfl) ?_
    apply Exists.intro
    refine ⟨fun w' hS' K hK => ?_, ?_⟩
    (focus
      obtain ⟨hcc, hff⟩ := bcellM (Fr.undr hS')
      clear hS'
      go_simp
      exact hK)
    refine os_move rfl rfl rfl (Nat.le_of_ble_eq_true rfl) ?_
    apply Exists.intro
    refine ⟨fun w' K hK => ?_, ?_⟩
    (focus
      go_simp
      exact hK)
    refine os_yld hS0 rfl rfl rfl (Nat.le_of_ble_eq_true rfl) ?_
    apply Exists.intro
    refine ⟨fun w' hS' K hK => ?_, ?_⟩
    (focus
      obtain ⟨hcc, hff⟩ := bcellM (Fr.undr hS')
      clear hS'
      go_simp
      exact hK)
    refine os_move rfl rfl rfl (Nat.le_of_ble_eq_true rfl) ?_
    apply Exists.intro
    refine ⟨fun w' K hK => ?_, ?_⟩
    (focus
      go_simp
      exact hK)
    refine os_move rfl rfl rfl (Nat.le_of_ble_eq_true rfl) ?_
    apply Exists.intro
    refine ⟨fun w' K hK => ?_, ?_⟩
    (focus
      go_simp
      exact hK)
    refine os_yld hS0 rfl rfl rfl (Nat.le_of_ble_eq_true rfl) ?_
    apply Exists.intro
    refine ⟨fun w' hS' K hK => ?_, ?_⟩
    (focus
      obtain ⟨hcc, hff⟩ := bcellM (Fr.undr hS')
      clear hS'
      go_simp
      exact hK)
    refine os_move rfl rfl rfl (Nat.le_of_ble_eq_true rfl) ?_
    apply Exists.intro
    refine ⟨fun w' K hK => ?_, ?_⟩
    (focus
      go_simp
      exact hK)
    refine os_yld hS0 rfl rfl rfl (Nat.le_of_ble_eq_true rfl) ?_
    apply Exists.intro
    refine ⟨fun w' hS' K hK => ?_, ?_⟩
    (focus
      obtain ⟨hcc, hff⟩ := bcellM (Fr.undr hS')
      clear hS'
      go_simp
      exact hK)
    refine os_move rfl rfl rfl (Nat.le_of_ble_eq_true rfl) ?_
    apply Exists.intro
    refine ⟨fun w' K hK => ?_, ?_⟩
    (focus
      go_simp
      exact hK)
    refine os_yld hS0 rfl rfl rfl (Nat.le_of_ble_eq_true rfl) ?_
    apply Exists.intro
    refine ⟨fun w' hS' K hK => ?_, ?_⟩
    (focus
      obtain ⟨hcc, hff⟩ := bcellM (Fr.undr hS')
      clear hS'
      go_simp
      exact hK)
    refine os_run rfl rfl (fun K hK => ?_)
    go_wp2_with fail
    refine (Make_at _ b m L (X.out.bel (Below.dr1 _)).ring t s HK.out v HV.out r L' HR.out).mono ?_
    rintro e w2 ⟨rfl, hr2, hf2⟩
    have R2 := Lib.hid (RefAt.ofM (X.out.bel (Below.dr1 _)).rf X.out.bm.2 hf2)
    go_wp2_with fail
    refine ⟨fun _ _ h => Fr.tr h ((hf2.mono (fun j _ e => by rw [HM.out]; exact .inl e))), ?_⟩
    replace hS0 := Fr.tr hS0 ((hf2.mono (fun j _ e => by rw [HM.out]; exact .inl e)))
    refine os_run rfl rfl (fun K hK => ?_)
    go_wp2_with fail
    refine (rMake_at R2.out X.out.n (Nat.le_trans X.out.lo' hf2.size) t s v r L' HR.out).mono ?_
    rintro e w3 ⟨rfl, ⟨A', n', c', hr3⟩, hf3⟩
    go_wp2_with fail
    refine ⟨fun _ _ h => Fr.tr h ((hf3.mono (fun j _ e => by rw [HM.out]; exact .inr e))), ?_⟩
    replace hS0 := Fr.tr hS0 ((hf3.mono (fun j _ e => by rw [HM.out]; exact .inr e)))
    refine os_move rfl rfl rfl (Nat.le_of_ble_eq_true rfl) ?_
    apply Exists.intro
    refine ⟨fun w' K hK => ?_, ?_⟩
    (focus
      go_simp
      exact hK)
    refine os_move rfl rfl rfl (Nat.le_of_ble_eq_true rfl) ?_
    apply Exists.intro
    refine ⟨fun w' K hK => ?_, ?_⟩
    (focus
      go_simp
      exact hK)
    refine os_done ⟨rfl, ?_⟩
    go_wp2_with fail
    have hS1 := hS0.undr
    rw [HM.out] at hS1
    go_ret
    have ok := ok_make HR.out X.out.slots
    exact ⟨rfl, ⟨A', n', c', L', ⟨RingAt.ofR hr2 R2.out X.out.bm hf3, hr3, X.out.bm, Nat.le_trans X.out.lo' hS1.size, ok.1, by have := ok.2; have := HLn.out; omega⟩, ok.2⟩, (Fr.of_below B0.out).tr hS1⟩
  · obtain ⟨⟨r, L'⟩, hr⟩ : ∃ r, makeR L (t, s) v = r := ⟨_, rfl⟩
    have HR := Lib.hid hr
    clear hr
    go_wp2_with fail
    refine wp_calm ?_
    refine wp_region_os (fun _ w' => Fr M (w0).drew w') [2, 4, 6, 10, 12, 14] (.move 0 (.move 1 (.take 2 (.move 3 (.take 4 (.move 5 (.take 6 (.move 8 (.move 9 (.take 10 (.move 11 (.take 12 (.move 13 (.take 14 (.run 7 [10, 12, 14] (.run 15 [2, 4, 6] (.move 16 (.move 17 .done)))))))))))))))))) (by kernel_rfl) (by kernel_rfl) (fun _ _ _ _ _ h => nomatch h.1) ?_
    have hS0 : Fr M (w0).drew (w0).drew := Fr.refl _ _
    refine os_move rfl rfl rfl (Nat.le_of_ble_eq_true rfl) ?_
    apply Exists.intro
    refine ⟨fun w' K hK => ?_, ?_⟩
    (focus
      go_simp
      exact hK)
    refine os_move rfl rfl rfl (Nat.le_of_ble_eq_true rfl) ?_
    apply Exists.intro
    refine ⟨fun w' K hK => ?_, ?_⟩
    (focus
      go_simp
      exact hK)
    refine os_yld hS0 rfl rfl rfl (Nat.le_of_ble_eq_true rfl) ?_
    apply Exists.intro
    refine ⟨fun w' hS' K hK => ?_, ?_⟩
    (focus
      obtain ⟨hcc, hff⟩ := bcellM (Fr.undr hS')
      clear hS'
      go_simp
      exact hK)
    refine os_move rfl rfl rfl (Nat.le_of_ble_eq_true rfl) ?_
    apply Exists.intro
    refine ⟨fun w' K hK => ?_, ?_⟩
    (focus
      go_simp
      exact hK)
    refine os_yld hS0 rfl rfl rfl (Nat.le_of_ble_eq_true rfl) ?_
    apply Exists.intro
    refine ⟨fun w' hS' K hK => ?_, ?_⟩
    (focus
      obtain ⟨hcc, hff⟩ := bcellM (Fr.undr hS')
      clear hS'
      go_simp
      exact hK)
    refine os_move rfl rfl rfl (Nat.le_of_ble_eq_true rfl) ?_
    apply Exists.intro
    refine ⟨fun w' K hK => ?_, ?_⟩
    (focus
      go_simp
      exact hK)
    refine os_yld hS0 rfl rfl rfl (Nat.le_of_ble_eq_true rfl) ?_
    apply Exists.intro
    refine ⟨fun w' hS' K hK => ?_, ?_⟩
    (focus
      obtain ⟨hcc, hff⟩ := bcellM (Fr.undr hS')
      clear hS'
      go_simp
      exact hK)
    refine os_move rfl rfl rfl (Nat.le_of_ble_eq_true rfl) ?_
    apply Exists.intro
    refine ⟨fun w' K hK => ?_, ?_⟩
    (focus
      go_simp
      exact hK)
    refine os_move rfl rfl rfl (Nat.le_of_ble_eq_true rfl) ?_
    apply Exists.intro
    refine ⟨fun w' K hK => ?_, ?_⟩
    (focus
      go_simp
      exact hK)
    refine os_yld hS0 rfl rfl rfl (Nat.le_of_ble_eq_true rfl) ?_
    apply Exists.intro
    refine ⟨fun w' hS' K hK => ?_, ?_⟩
    (focus
      obtain ⟨hcc, hff⟩ := bcellM (Fr.undr hS')
      clear hS'
      go_simp
      exact hK)
    refine os_move rfl rfl rfl (Nat.le_of_ble_eq_true rfl) ?_
    apply Exists.intro
    refine ⟨fun w' K hK => ?_, ?_⟩
    (focus
      go_simp
      exact hK)
    refine os_yld hS0 rfl rfl rfl (Nat.le_of_ble_eq_true rfl) ?_
    apply Exists.intro
    refine ⟨fun w' hS' K hK => ?_, ?_⟩
    (focus
      obtain ⟨hcc, hff⟩ := bcellM (Fr.undr hS')
      clear hS'
      go_simp
      exact hK)
    refine os_move rfl rfl rfl (Nat.le_of_ble_eq_true rfl) ?_
    apply Exists.intro
    refine ⟨fun w' K hK => ?_, ?_⟩
    (focus
      go_simp
      exact hK)
    refine os_yld hS0 rfl rfl rfl (Nat.le_of_ble_eq_true rfl) ?_
    apply Exists.intro
    refine ⟨fun w' hS' K hK => ?_, ?_⟩
    (focus
      obtain ⟨hcc, hff⟩ := bcellM (Fr.undr hS')
      clear hS'
      go_simp
      exact hK)
    refine os_run rfl rfl (fun K hK => ?_)
    go_wp2_with fail
    refine (Make_at _ b m L (X.out.bel (Below.dr1 _)).ring t s HK.out v HV.out r L' HR.out).mono ?_
    rintro e w2 ⟨rfl, hr2, hf2⟩
    have R2 := Lib.hid (RefAt.ofM (X.out.bel (Below.dr1 _)).rf X.out.bm.2 hf2)
    go_wp2_with fail
    refine ⟨fun _ _ h => Fr.tr h ((hf2.mono (fun j _ e => by rw [HM.out]; exact .inl e))), ?_⟩
    replace hS0 := Fr.tr hS0 ((hf2.mono (fun j _ e => by rw [HM.out]; exact .inl e)))
    refine os_run rfl rfl (fun K hK => ?_)
    go_wp2_with fail
    refine (rMake_at R2.out X.out.n (Nat.le_trans X.out.lo' hf2.size) t s v r L' HR.out).mono ?_
    rintro e w3 ⟨rfl, ⟨A', n', c', hr3⟩, hf3⟩
    go_wp2_with fail
    refine ⟨fun _ _ h => Fr.tr h ((hf3.mono (fun j _ e => by rw [HM.out]; exact .inr e))), ?_⟩
    replace hS0 := Fr.tr hS0 ((hf3.mono (fun j _ e => by rw [HM.out]; exact .inr e)))
    refine os_move rfl rfl rfl (Nat.le_of_ble_eq_true rfl) ?_
    apply Exists.intro
    refine ⟨fun w' K hK => ?_, ?_⟩
    (focus
      go_simp
      exact hK)
    refine os_move rfl rfl rfl (Nat.le_of_ble_eq_true rfl) ?_
    apply Exists.intro
    refine ⟨fun w' K hK => ?_, ?_⟩
    (focus
      go_simp
      exact hK)
    refine os_done ⟨rfl, ?_⟩
    go_wp2_with fail
    have hS1 := hS0.undr
    rw [HM.out] at hS1
    go_ret
    have ok := ok_make HR.out X.out.slots
    exact ⟨rfl, ⟨A', n', c', L', ⟨RingAt.ofR hr2 R2.out X.out.bm hf3, hr3, X.out.bm, Nat.le_trans X.out.lo' hS1.size, ok.1, by have := ok.2; have := HLn.out; omega⟩, ok.2⟩, (Fr.of_below B0.out).tr hS1⟩
  · obtain ⟨⟨r, L'⟩, hr⟩ : ∃ r, useR L (t, s) v = r := ⟨_, rfl⟩
    have HR := Lib.hid hr
    clear hr
    go_wp2_with fail
    refine wp_calm ?_
    refine wp_region_os (fun _ w' => Fr M (w0).drew w') [2, 4, 6, 10, 12, 14] (.move 0 (.move 1 (.take 2 (.move 3 (.take 4 (.move 5 (.take 6 (.move 8 (.move 9 (.take 10 (.move 11 (.take 12 (.move 13 (.take 14 (.run 7 [10, 12, 14] (.run 15 [2, 4, 6] (.move 16 (.move 17 .done)))))))))))))))))) (by kernel_rfl) (by kernel_rfl) (fun _ _ _ _ _ h => nomatch h.1) ?_
    have hS0 : Fr M (w0).drew (w0).drew := Fr.refl _ _
    refine os_move rfl rfl rfl (Nat.le_of_ble_eq_true rfl) ?_
    apply Exists.intro
    refine ⟨fun w' K hK => ?_, ?_⟩
    (focus
      go_simp
      exact hK)
    refine os_move rfl rfl rfl (Nat.le_of_ble_eq_true rfl) ?_
    apply Exists.intro
    refine ⟨fun w' K hK => ?_, ?_⟩
    (focus
      go_simp
      exact hK)
    refine os_yld hS0 rfl rfl rfl (Nat.le_of_ble_eq_true rfl) ?_
    apply Exists.intro
    refine ⟨fun w' hS' K hK => ?_, ?_⟩
    (focus
      obtain ⟨hcc, hff⟩ := bcellM (Fr.undr hS')
      clear hS'
      go_simp
      exact hK)
    refine os_move rfl rfl rfl (Nat.le_of_ble_eq_true rfl) ?_
    apply Exists.intro
    refine ⟨fun w' K hK => ?_, ?_⟩
    (focus
      go_simp
      exact hK)
    refine os_yld hS0 rfl rfl rfl (Nat.le_of_ble_eq_true rfl) ?_
    apply Exists.intro
    refine ⟨fun w' hS' K hK => ?_, ?_⟩
    (focus
      obtain ⟨hcc, hff⟩ := bcellM (Fr.undr hS')
      clear hS'
      go_simp
      exact hK)
    refine os_move rfl rfl rfl (Nat.le_of_ble_eq_true rfl) ?_
    apply Exists.intro
    refine ⟨fun w' K hK => ?_, ?_⟩
    (focus
      go_simp
      exact hK)
    refine os_yld hS0 rfl rfl rfl (Nat.le_of_ble_eq_true rfl) ?_
    apply Exists.intro
    refine ⟨fun w' hS' K hK => ?_, ?_⟩
    (focus
      obtain ⟨hcc, hff⟩ := bcellM (Fr.undr hS')
      clear hS'
      go_simp
      exact hK)
    refine os_move rfl rfl rfl (Nat.le_of_ble_eq_true rfl) ?_
    apply Exists.intro
    refine ⟨fun w' K hK => ?_, ?_⟩
    (focus
      go_simp
      exact hK)
    refine os_move rfl rfl rfl (Nat.le_of_ble_eq_true rfl) ?_
    apply Exists.intro
    refine ⟨fun w' K hK => ?_, ?_⟩
    (focus
      go_simp
      exact hK)
    refine os_yld hS0 rfl rfl rfl (Nat.le_of_ble_eq_true rfl) ?_
    apply Exists.intro
    refine ⟨fun w' hS' K hK => ?_, ?_⟩
    (focus
      obtain ⟨hcc, hff⟩ := bcellM (Fr.undr hS')
      clear hS'
      go_simp
      exact hK)
    refine os_move rfl rfl rfl (Nat.le_of_ble_eq_true rfl) ?_
    apply Exists.intro
    refine ⟨fun w' K hK => ?_, ?_⟩
    (focus
      go_simp
      exact hK)
    refine os_yld hS0 rfl rfl rfl (Nat.le_of_ble_eq_true rfl) ?_
    apply Exists.intro
    refine ⟨fun w' hS' K hK => ?_, ?_⟩
    (focus
      obtain ⟨hcc, hff⟩ := bcellM (Fr.undr hS')
      clear hS'
      go_simp
      exact hK)
    refine os_move rfl rfl rfl (Nat.le_of_ble_eq_true rfl) ?_
    apply Exists.intro
    refine ⟨fun w' K hK => ?_, ?_⟩
    (focus
      go_simp
      exact hK)
    refine os_yld hS0 rfl rfl rfl (Nat.le_of_ble_eq_true rfl) ?_
    apply Exists.intro
    refine ⟨fun w' hS' K hK => ?_, ?_⟩
    (focus
      obtain ⟨hcc, hff⟩ := bcellM (Fr.undr hS')
      clear hS'
      go_simp
      exact hK)
    refine os_run rfl rfl (fun K hK => ?_)
    go_wp2_with fail
    refine (Use_at _ b m L (X.out.bel (Below.dr1 _)).ring t s HK.out v HV.out r L' HR.out).mono ?_
    rintro e w2 ⟨rfl, hr2, hf2⟩
    have R2 := Lib.hid (RefAt.ofM (X.out.bel (Below.dr1 _)).rf X.out.bm.2 hf2)
    go_wp2_with fail
    refine ⟨fun _ _ h => Fr.tr h ((hf2.mono (fun j _ e => by rw [HM.out]; exact .inl e))), ?_⟩
    replace hS0 := Fr.tr hS0 ((hf2.mono (fun j _ e => by rw [HM.out]; exact .inl e)))
    refine os_run rfl rfl (fun K hK => ?_)
    go_wp2_with fail
    refine (rUse_at R2.out X.out.n X.out.ring.nodup X.out.ring.okh t s v r L' HR.out).mono ?_
    rintro e w3 ⟨rfl, ⟨A', n', c', hr3⟩, hf3⟩
    go_wp2_with fail
    refine ⟨fun _ _ h => Fr.tr h ((hf3.mono (fun j _ e => by rw [HM.out]; exact .inr e))), ?_⟩
    replace hS0 := Fr.tr hS0 ((hf3.mono (fun j _ e => by rw [HM.out]; exact .inr e)))
    refine os_move rfl rfl rfl (Nat.le_of_ble_eq_true rfl) ?_
    apply Exists.intro
    refine ⟨fun w' K hK => ?_, ?_⟩
    (focus
      go_simp
      exact hK)
    refine os_move rfl rfl rfl (Nat.le_of_ble_eq_true rfl) ?_
    apply Exists.intro
    refine ⟨fun w' K hK => ?_, ?_⟩
    (focus
      go_simp
      exact hK)
    refine os_done ⟨rfl, ?_⟩
    go_wp2_with fail
    have hS1 := hS0.undr
    rw [HM.out] at hS1
    go_ret
    have ok := ok_use HR.out X.out.slots
    exact ⟨rfl, ⟨A', n', c', L', ⟨RingAt.ofR hr2 R2.out X.out.bm hf3, hr3, X.out.bm, Nat.le_trans X.out.lo' hS1.size, ok.1, by have := ok.2; have := HLn.out; omega⟩, ok.2⟩, (Fr.of_below B0.out).tr hS1⟩
  · obtain ⟨⟨r, L'⟩, hr⟩ : ∃ r, useR L (t, s) v = r := ⟨_, rfl⟩
    have HR := Lib.hid hr
    clear hr
    go_wp2_with fail
    refine wp_calm ?_
    refine wp_region_os (fun _ w' => Fr M (w0).drew w') [2, 4, 6, 10, 12, 14] (.move 0 (.move 1 (.take 2 (.move 3 (.take 4 (.move 5 (.take 6 (.move 8 (.move 9 (.take 10 (.move 11 (.take 12 (.move 13 (.take 14 (.run 7 [10, 12, 14] (.run 15 [2, 4, 6] (.move 16 (.move 17 .done)))))))))))))))))) (by kernel_rfl) (by kernel_rfl) (fun _ _ _ _ _ h => nomatch h.1) ?_
    have hS0 : Fr M (w0).drew (w0).drew := Fr.refl _ _
    refine os_move rfl rfl rfl (Nat.le_of_ble_eq_true rfl) ?_
    apply Exists.intro
    refine ⟨fun w' K hK => ?_, ?_⟩
    (focus
      go_simp
      exact hK)
    refine os_move rfl rfl rfl (Nat.le_of_ble_eq_true rfl) ?_
    apply Exists.intro
    refine ⟨fun w' K hK => ?_, ?_⟩
    (focus
      go_simp
      exact hK)
    refine os_yld hS0 rfl rfl rfl (Nat.le_of_ble_eq_true rfl) ?_
    apply Exists.intro
    refine ⟨fun w' hS' K hK => ?_, ?_⟩
    (focus
      obtain ⟨hcc, hff⟩ := bcellM (Fr.undr hS')
      clear hS'
      go_simp
      exact hK)
    refine os_move rfl rfl rfl (Nat.le_of_ble_eq_true rfl) ?_
    apply Exists.intro
    refine ⟨fun w' K hK => ?_, ?_⟩
    (focus
      go_simp
      exact hK)
    refine os_yld hS0 rfl rfl rfl (Nat.le_of_ble_eq_true rfl) ?_
    apply Exists.intro
    refine ⟨fun w' hS' K hK => ?_, ?_⟩
    (focus
      obtain ⟨hcc, hff⟩ := bcellM (Fr.undr hS')
      clear hS'
      go_simp
      exact hK)
    refine os_move rfl rfl rfl (Nat.le_of_ble_eq_true rfl) ?_
    apply Exists.intro
    refine ⟨fun w' K hK => ?_, ?_⟩
    (focus
      go_simp
      exact hK)
    refine os_yld hS0 rfl rfl rfl (Nat.le_of_ble_eq_true rfl) ?_
    apply Exists.intro
    refine ⟨fun w' hS' K hK => ?_, ?_⟩
    (focus
      obtain ⟨hcc, hff⟩ := bcellM (Fr.undr hS')
      clear hS'
      go_simp
      exact hK)
    refine os_move rfl rfl rfl (Nat.le_of_ble_eq_true rfl) ?_
    apply Exists.intro
    refine ⟨fun w' K hK => ?_, ?_⟩
    (focus
      go_simp
      exact hK)
    refine os_move rfl rfl rfl (Nat.le_of_ble_eq_true rfl) ?_
    apply Exists.intro
    refine ⟨fun w' K hK => ?_, ?_⟩
    (focus
      go_simp
      exact hK)
    refine os_yld hS0 rfl rfl rfl (Nat.le_of_ble_eq_true rfl) ?_
    apply Exists.intro
    refine ⟨fun w' hS' K hK => ?_, ?_⟩
    (focus
      obtain ⟨hcc, hff⟩ := bcellM (Fr.undr hS')
      clear hS'
      go_simp
      exact hK)
    refine os_move rfl rfl rfl (Nat.le_of_ble_eq_true rfl) ?_
    apply Exists.intro
    refine ⟨fun w' K hK => ?_, ?_⟩
    (focus
      go_simp
      exact hK)
    refine os_yld hS0 rfl rfl rfl (Nat.le_of_ble_eq_true rfl) ?_
    apply Exists.intro
    refine ⟨fun w' hS' K hK => ?_, ?_⟩
    (focus
      obtain ⟨hcc, hff⟩ := bcellM (Fr.undr hS')
      clear hS'
      go_simp
      exact hK)
    refine os_move rfl rfl rfl (Nat.le_of_ble_eq_true rfl) ?_
    apply Exists.intro
    refine ⟨fun w' K hK => ?_, ?_⟩
    (focus
      go_simp
      exact hK)
    refine os_yld hS0 rfl rfl rfl (Nat.le_of_ble_eq_true rfl) ?_
    apply Exists.intro
    refine ⟨fun w' hS' K hK => ?_, ?_⟩
    (focus
      obtain ⟨hcc, hff⟩ := bcellM (Fr.undr hS')
      clear hS'
      go_simp
      exact hK)
    refine os_run rfl rfl (fun K hK => ?_)
    go_wp2_with fail
    refine (Use_at _ b m L (X.out.bel (Below.dr1 _)).ring t s HK.out v HV.out r L' HR.out).mono ?_
    rintro e w2 ⟨rfl, hr2, hf2⟩
    have R2 := Lib.hid (RefAt.ofM (X.out.bel (Below.dr1 _)).rf X.out.bm.2 hf2)
    go_wp2_with fail
    refine ⟨fun _ _ h => Fr.tr h ((hf2.mono (fun j _ e => by rw [HM.out]; exact .inl e))), ?_⟩
    replace hS0 := Fr.tr hS0 ((hf2.mono (fun j _ e => by rw [HM.out]; exact .inl e)))
    refine os_run rfl rfl (fun K hK => ?_)
    go_wp2_with fail
    refine (rUse_at R2.out X.out.n X.out.ring.nodup X.out.ring.okh t s v r L' HR.out).mono ?_
    rintro e w3 ⟨rfl, ⟨A', n', c', hr3⟩, hf3⟩
    go_wp2_with fail
    refine ⟨fun _ _ h => Fr.tr h ((hf3.mono (fun j _ e => by rw [HM.out]; exact .inr e))), ?_⟩
    replace hS0 := Fr.tr hS0 ((hf3.mono (fun j _ e => by rw [HM.out]; exact .inr e)))
    refine os_move rfl rfl rfl (Nat.le_of_ble_eq_true rfl) ?_
    apply Exists.intro
    refine ⟨fun w' K hK => ?_, ?_⟩
    (focus
      go_simp
      exact hK)
    refine os_move rfl rfl rfl (Nat.le_of_ble_eq_true rfl) ?_
    apply Exists.intro
    refine ⟨fun w' K hK => ?_, ?_⟩
    (focus
      go_simp
      exact hK)
    refine os_done ⟨rfl, ?_⟩
    go_wp2_with fail
    have hS1 := hS0.undr
    rw [HM.out] at hS1
    go_ret
    have ok := ok_use HR.out X.out.slots
    exact ⟨rfl, ⟨A', n', c', L', ⟨RingAt.ofR hr2 R2.out X.out.bm hf3, hr3, X.out.bm, Nat.le_trans X.out.lo' hS1.size, ok.1, by have := ok.2; have := HLn.out; omega⟩, ok.2⟩, (Fr.of_below B0.out).tr hS1⟩
  · obtain ⟨⟨r, L'⟩, hr⟩ : ∃ r, shredR L (t, s) = r := ⟨_, rfl⟩
    have HR := Lib.hid hr
    clear hr
    go_wp2_with fail
    refine wp_calm ?_
    refine wp_region_os (fun _ w' => Fr M (w0).drew w') [2, 4, 8, 10] (.move 0 (.move 1 (.take 2 (.move 3 (.take 4 (.move 6 (.move 7 (.take 8 (.move 9 (.take 10 (.run 5 [8, 10] (.run 11 [2, 4] (.move 12 (.move 13 .done)))))))))))))) (by kernel_rfl) (by kernel_rfl) (fun _ _ _ _ _ h => nomatch h.1) ?_
    have hS0 : Fr M (w0).drew (w0).drew := Fr.refl _ _
    refine os_move rfl rfl rfl (Nat.le_of_ble_eq_true rfl) ?_
    apply Exists.intro
    refine ⟨fun w' K hK => ?_, ?_⟩
    (focus
      go_simp
      exact hK)
    refine os_move rfl rfl rfl (Nat.le_of_ble_eq_true rfl) ?_
    apply Exists.intro
    refine ⟨fun w' K hK => ?_, ?_⟩
    (focus
      go_simp
      exact hK)
    refine os_yld hS0 rfl rfl rfl (Nat.le_of_ble_eq_true rfl) ?_
    apply Exists.intro
    refine ⟨fun w' hS' K hK => ?_, ?_⟩
    (focus
      obtain ⟨hcc, hff⟩ := bcellM (Fr.undr hS')
      clear hS'
      go_simp
      exact hK)
    refine os_move rfl rfl rfl (Nat.le_of_ble_eq_true rfl) ?_
    apply Exists.intro
    refine ⟨fun w' K hK => ?_, ?_⟩
    (focus
      go_simp
      exact hK)
    refine os_yld hS0 rfl rfl rfl (Nat.le_of_ble_eq_true rfl) ?_
    apply Exists.intro
    refine ⟨fun w' hS' K hK => ?_, ?_⟩
    (focus
      obtain ⟨hcc, hff⟩ := bcellM (Fr.undr hS')
      clear hS'
      go_simp
      exact hK)
    refine os_move rfl rfl rfl (Nat.le_of_ble_eq_true rfl) ?_
    apply Exists.intro
    refine ⟨fun w' K hK => ?_, ?_⟩
    (focus
      go_simp
      exact hK)
    refine os_move rfl rfl rfl (Nat.le_of_ble_eq_true rfl) ?_
    apply Exists.intro
    refine ⟨fun w' K hK => ?_, ?_⟩
    (focus
      go_simp
      exact hK)
    refine os_yld hS0 rfl rfl rfl (Nat.le_of_ble_eq_true rfl) ?_
    apply Exists.intro
    refine ⟨fun w' hS' K hK => ?_, ?_⟩
    (focus
      obtain ⟨hcc, hff⟩ := bcellM (Fr.undr hS')
      clear hS'
      go_simp
      exact hK)
    refine os_move rfl rfl rfl (Nat.le_of_ble_eq_true rfl) ?_
    apply Exists.intro
    refine ⟨fun w' K hK => ?_, ?_⟩
    (focus
      go_simp
      exact hK)
    refine os_yld hS0 rfl rfl rfl (Nat.le_of_ble_eq_true rfl) ?_
    apply Exists.intro
    refine ⟨fun w' hS' K hK => ?_, ?_⟩
    (focus
      obtain ⟨hcc, hff⟩ := bcellM (Fr.undr hS')
      clear hS'
      go_simp
      exact hK)
    refine os_run rfl rfl (fun K hK => ?_)
    go_wp2_with fail
    refine (Shred_at _ b m L (X.out.bel (Below.dr1 _)).ring t s HK.out r L' HR.out).mono ?_
    rintro e w2 ⟨rfl, hr2, hf2⟩
    have R2 := Lib.hid (RefAt.ofM (X.out.bel (Below.dr1 _)).rf X.out.bm.2 hf2)
    go_wp2_with fail
    refine ⟨fun _ _ h => Fr.tr h ((hf2.mono (fun j _ e => by rw [HM.out]; exact .inl e))), ?_⟩
    replace hS0 := Fr.tr hS0 ((hf2.mono (fun j _ e => by rw [HM.out]; exact .inl e)))
    refine os_run rfl rfl (fun K hK => ?_)
    go_wp2_with fail
    refine (rShred_at R2.out X.out.n X.out.ring.nodup t s r L' HR.out).mono ?_
    rintro e w3 ⟨rfl, ⟨A', n', c', hr3⟩, hf3⟩
    go_wp2_with fail
    refine ⟨fun _ _ h => Fr.tr h ((hf3.mono (fun j _ e => by rw [HM.out]; exact .inr e))), ?_⟩
    replace hS0 := Fr.tr hS0 ((hf3.mono (fun j _ e => by rw [HM.out]; exact .inr e)))
    refine os_move rfl rfl rfl (Nat.le_of_ble_eq_true rfl) ?_
    apply Exists.intro
    refine ⟨fun w' K hK => ?_, ?_⟩
    (focus
      go_simp
      exact hK)
    refine os_move rfl rfl rfl (Nat.le_of_ble_eq_true rfl) ?_
    apply Exists.intro
    refine ⟨fun w' K hK => ?_, ?_⟩
    (focus
      go_simp
      exact hK)
    refine os_done ⟨rfl, ?_⟩
    go_wp2_with fail
    have hS1 := hS0.undr
    rw [HM.out] at hS1
    go_ret
    have ok := ok_shred HR.out X.out.slots
    exact ⟨rfl, ⟨A', n', c', L', ⟨RingAt.ofR hr2 R2.out X.out.bm hf3, hr3, X.out.bm, Nat.le_trans X.out.lo' hS1.size, ok.1, by have := ok.2; have := HLn.out; omega⟩, ok.2⟩, (Fr.of_below B0.out).tr hS1⟩
end Go.Proofs.Ytglbhoamknjdeaa
