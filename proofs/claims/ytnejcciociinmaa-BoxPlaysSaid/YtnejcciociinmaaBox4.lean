/- known; BoxKnown. -/
import Derived.Test.YtnejcciociinmaaBox3
namespace Go.Proofs.Ytnejcciociinmaa
open Go.RowKit

/-- what Open comes to -/
def openP (rows : List BRow) (k n head sealed : List UInt8) : Option (List UInt8) :=
  if numOf sealed rows.length < 0 then none else
    match rows[(numOf sealed rows.length).toNat]? with
    | some r => if r.k == k && r.n == n && r.head == head && r.sealed == sealed then some r.plain else none
    | none => none
theorem numOf_cases (l : List UInt8) (n : Nat) : numOf l n = -1 ∨ ∃ a : Nat, numOf l n = (a : Int) ∧ a < n := by
  unfold numOf
  split
  · exact .inl rfl
  · split
    · exact .inl rfl
    · split
      · exact .inl rfl
      · rename_i h1 h2 h3
        exact .inr ⟨(numI l 0).toNat, by omega, by omega⟩

theorem Open_any (b : Nat) (F G : Nat → Prop) (src : List UInt8) (rows : List BRow) (w : World) (h : BoxAt w b F src rows) (k n : List UInt8) (hk : k.length = 32) (hn : n.length = 12)
    (HA : Option Addr) (hn1 hc1 : Nat) (head : List UInt8) (hh : Sl w G HA hn1 hc1 head) (PA : Option Addr) (pn pc : Nat) (sealed : List UInt8) (hp : Sl w G PA pn pc sealed) (hG : ∀ k, G k → k < w.heap.size)
    (hrl : rows.length ≤ 1000) (res : Option (List UInt8)) (hres : openP rows k n head sealed = res) :
    Calls Try.prog 17 #[.pointer (some ⟨b, 0, none⟩), .agg (bs k).toArray, .agg (bs n).toArray, .slice HA hn1 hc1, .slice PA pn pc] w fun e w' =>
      ∃ A' n' c', e = .returned (.tuple #[.slice A' n' c', .bool res.isSome]) ∧ Below w.heap.size w w' ∧ w'.ownsRow w.heap.size 5 1 (.slice A' n' c') n' (bs (res.getD [])) := by
  rcases numOf_cases sealed rows.length with hno | ⟨a, ha, hlt⟩
  · have hr : res = none := by rw [← hres]; unfold openP; rw [hno]; rfl
    subst hr
    exact (Open_none b F G src rows w h k n HA hn1 hc1 PA pn pc sealed hp hG hno).mono fun e w' ⟨he, hb⟩ => ⟨none, 0, 0, he, hb, by simpa [bs] using World.ownsRow_nil w' _ _ _⟩
  · refine (Open_row b F G src rows w h k n hk hn HA hn1 hc1 head hh PA pn pc sealed hp hG a hlt ha hrl _ _ _ _ rfl rfl rfl rfl).mono ?_
    rintro e w' ⟨A', n', c', he, hb, ho⟩
    have hr : res = if (!(rows[a].k != k) && !(rows[a].n != n) && (rows[a].head == head) && (rows[a].sealed == sealed)) = true then some rows[a].plain else none := by
      rw [← hres]; unfold openP
      rw [ha, if_neg (by omega), Int.toNat_natCast, List.getElem?_eq_getElem hlt]
      simp only [bne, Bool.not_not]
    refine ⟨A', n', c', ?_, hb, ?_⟩
    · rw [he, hr]
      split
      · rename_i hc; rw [hc]; rfl
      · rename_i hc; rw [Bool.not_eq_true] at hc; rw [hc]; rfl
    · rw [hr]
      split at ho
      · rename_i hc; rw [if_pos hc]; exact ho
      · rename_i hc; rw [if_neg hc]; exact ho

/-- a key, a nonce out of their first bytes -/
def keyOf (l : List UInt8) : List UInt8 := l ++ List.replicate (32 - l.length) 0
def nonceOf (l : List UInt8) : List UInt8 := l ++ List.replicate (12 - l.length) 0

theorem build_key1 (w : World) : (Instr.build 38 #[(0, .int .u8 1)]).run Try.prog w = .ok (.agg (bs (keyOf [1])).toArray) w := by kernel_rfl
theorem build_nonce2 (w : World) : (Instr.build 40 #[(0, .int .u8 2)]).run Try.prog w = .ok (.agg (bs (nonceOf [2])).toArray) w := by kernel_rfl
theorem seal0 : sealOf 0 2 [5, 6, 7] = [0, 0, 0, 0, 0, 0, 0, 0, 5, 6, 7, 0, 0, 0, 0, 0, 0, 0] := by decide
theorem num0 : numOf [0, 0, 0, 0, 0, 0, 0, 0, 5, 6, 7, 0, 0, 0, 0, 0, 0, 0] 1 = 0 := by decide +kernel

set_option maxRecDepth 100000 in
set_option maxHeartbeats 2000000 in
theorem known_any (w : World) : Calls Try.prog 12 #[] w fun e w' => e = .returned (.bool true) ∧ Below w.heap.size w w' := by
  go_enter Try.func12, Try.ntmps12
  go_wp2_with fail
  have hb1 : Below w.heap.size w (w.alloc (.cells #[.int .u8 5, .int .u8 6, .int .u8 7] 5)) := (Below.refl _ _).alloc (Nat.le_refl _) _
  have s1 := Sl.of_block (l := [5, 6, 7]) (heap_alloc_new w (.cells #[.int .u8 5, .int .u8 6, .int .u8 7] 5)) rfl 3 rfl
  refine (New_any s1 (fun k hk => by subst hk; simp) (by omega)).mono ?_
  rintro e w1 ⟨b, G, rfl, hbox, hbw1, hG⟩
  have Hbox := Lib.hid hbox
  have HG : Hid (∀ k, G k → w.heap.size ≤ k) := fun k hk => by have := hG k hk; simp at this; omega
  have hb2 : Hid (Below w.heap.size w w1) := hb1.trans (hbw1.mono (by simp))
  clear hbox hG s1 hb1 hbw1
  go_wp2_with (first
    | ((with_reducible refine lst_build 38 _ #[(0, .int .u8 1)] _ rfl (build_key1 _) ?_ ?_ ?_)
       (focus (simp only [List.map_toArray, List.map_cons, List.map_nil]; rfl))
       (focus rfl))
    | ((with_reducible refine lst_build 40 _ #[(0, .int .u8 2)] _ rfl (build_nonce2 _) ?_ ?_ ?_)
       (focus (simp only [List.map_toArray, List.map_cons, List.map_nil]; rfl))
       (focus rfl)))
  generalize hW2 : (w1.alloc (.cells #[.int .u8 3] 5)).alloc (.cells #[.int .u8 8, .int .u8 9] 5) = w2
  have hf12 : Fr NoB w1 w2 := by rw [← hW2]; exact ((Fr.refl _ _).alloc _).alloc _
  have b0 : w2.heap[w1.heap.size]? = some (.cells #[.int .u8 3] 5 (0, 0)) := by rw [← hW2]; exact heap_alloc2_old _ _ _
  have b1 : w2.heap[w1.heap.size + 1]? = some (.cells #[.int .u8 8, .int .u8 9] 5 (0, 0)) := by rw [← hW2]; exact heap_alloc2_new _ _ _
  have hsz : w2.heap.size = w1.heap.size + 2 := by rw [← hW2]; simp
  have sh := (Sl.of_block (l := [3]) b0 rfl 1 rfl).mono (G := fun k => w1.heap.size ≤ k ∧ k < w2.heap.size) (fun k hk => by subst hk; omega)
  have sp := (Sl.of_block (l := [8, 9]) b1 rfl 2 rfl).mono (G := fun k => w1.heap.size ≤ k ∧ k < w2.heap.size) (fun k hk => by subst hk; omega)
  have hGlt : ∀ k, G k → k < w1.heap.size := Hbox.out.1
  refine (Seal_any b G _ [5, 6, 7] [] w2 (Hbox.out.fr hf12 (fun _ _ e => e)) (keyOf [1]) (nonceOf [2]) rfl rfl _ _ _ [3] sh _ _ _ [8, 9] sp (fun k hk => ⟨hk.2, fun h => by have := hGlt k h; omega⟩) (by omega) (by omega) (by simp)).mono ?_
  rintro e w3 ⟨F', g, c, rfl, hown, hbox3, hF', hgF, hfr⟩
  have hb3 : Hid (Below w.heap.size w w3) := by
    refine hb2.out.trans ((Fr.to_below hf12 (fun _ _ e => e)).mono hb2.out.size |>.trans ?_)
    exact ⟨hfr.os, hfr.tape, hfr.output, hfr.size, fun i hi => hfr.block i (by have := hb2.out.size; omega) (fun h => by have := HG.out i h; omega)⟩
  have Hbox3 := Lib.hid hbox3; have Hown := Lib.hid hown; have HF' := Lib.hid hF'; have HgF := Lib.hid hgF
  have hcc : 18 ≤ c := by have := (Sl.of_own hown).cap; omega
  clear hbox3 hown hF' hgF hfr sh sp b0 b1 hf12 hW2 hsz Hbox hGlt hb2
  simp only [List.length_nil, seal0, List.nil_append] at Hown Hbox3
  go_wp2_with (first
    | ((with_reducible refine lst_build 38 _ #[(0, .int .u8 1)] _ rfl (build_key1 _) ?_ ?_ ?_)
       (focus (simp only [List.map_toArray, List.map_cons, List.map_nil]; rfl))
       (focus rfl))
    | ((with_reducible refine lst_build 40 _ #[(0, .int .u8 2)] _ rfl (build_nonce2 _) ?_ ?_ ?_)
       (focus (simp only [List.map_toArray, List.map_cons, List.map_nil]; rfl))
       (focus rfl)))
  have hgl : g < w3.heap.size := (Hown.out.lt g rfl).2
  have sh := (Sl.of_block (l := [3]) (heap_alloc_new w3 (.cells #[.int .u8 3] 5)) rfl 1 rfl).mono (G := fun k => k < (w3.alloc (.cells #[.int .u8 3] 5)).heap.size) (fun k hk => by subst hk; simp)
  have hb34 : Below w3.heap.size w3 (w3.alloc (.cells #[.int .u8 3] 5)) := (Below.refl _ _).alloc (Nat.le_refl _) _
  have sa := ((Sl.of_own Hown.out).fr (M := NoB) (Fr.of_below hb34) (fun k hk => ⟨hk.2.1, id⟩)).mono (G := fun k => k < (w3.alloc (.cells #[.int .u8 3] 5)).heap.size) (fun k hk => by have := hk.2.1; simp; omega)
  refine (Open_any b F' _ _ _ _ (Hbox3.out.fr (Fr.of_below (M := NoB) hb34) (fun _ _ e => e)) (keyOf [1]) (nonceOf [2]) rfl rfl _ _ _ [3] sh _ _ _ _ sa (fun k hk => hk) (by simp) (some [8, 9]) (by decide +kernel)).mono ?_
  rintro e w4 ⟨A4, n4, c4, rfl, hb4, hown4⟩
  have hb4' : Hid (Below w3.heap.size w3 w4) := hb34.trans (hb4.mono (by simp))
  have Hown4 : Hid (w4.ownsRow w3.heap.size 5 1 (.slice A4 n4 c4) n4 (bs [8, 9])) := own_mono hown4 (by simp)
  clear sh sa hb34 hb4 hown4
  go_wp2_with (first
    | ((with_reducible refine lst_build 38 _ #[(0, .int .u8 1)] _ rfl (build_key1 _) ?_ ?_ ?_)
       (focus (simp only [List.map_toArray, List.map_cons, List.map_nil]; rfl))
       (focus rfl))
    | ((with_reducible refine lst_build 40 _ #[(0, .int .u8 2)] _ rfl (build_nonce2 _) ?_ ?_ ?_)
       (focus (simp only [List.map_toArray, List.map_cons, List.map_nil]; rfl))
       (focus rfl)))
  have sn : Sl w4 (fun k => k < w4.heap.size) none 0 0 [] := Sl.nil_ _ _
  have sa := ((Sl.of_own Hown.out).fr (M := NoB) (Fr.of_below hb4'.out) (fun k hk => ⟨hk.2.1, id⟩)).mono (G := fun k => k < w4.heap.size) (fun k hk => Nat.lt_of_lt_of_le hk.2.1 hb4'.out.size)
  refine (Open_any b F' _ _ _ _ (Hbox3.out.fr (Fr.of_below (M := NoB) hb4'.out) (fun _ _ e => e)) (keyOf [1]) (nonceOf [2]) rfl rfl _ _ _ [] sn _ _ _ _ sa (fun k hk => hk) (by simp) none (by decide +kernel)).mono ?_
  rintro e w5 ⟨A5, n5, c5, rfl, hb5, hown5⟩
  have hb5' : Hid (Below w3.heap.size w3 w5) := hb4'.out.trans (hb5.mono hb4'.out.size)
  have sp5 := Lib.hid ((Sl.of_own Hown4.out).fr (M := NoB) (Fr.of_below hb5) (fun k hk => ⟨hk.2.1, id⟩))
  have k8 : w5.cell? ⟨g, 8, none⟩ = some (.int .u8 5) := by rw [hb5'.out.cell (p := ⟨g, 8, none⟩) hgl, Hown.out.cellAt 8 (by omega)]; rfl
  have k10 : w5.cell? ⟨g, 10, none⟩ = some (.int .u8 7) := by rw [hb5'.out.cell (p := ⟨g, 10, none⟩) hgl, Hown.out.cellAt 10 (by omega)]; rfl
  have k11 : w5.cell? ⟨g, 11, none⟩ = some (.int .u8 0) := by rw [hb5'.out.cell (p := ⟨g, 11, none⟩) hgl, Hown.out.cellAt 11 (by omega)]; rfl
  have h45 : w4.heap.size ≤ w5.heap.size := hb5.size
  have hn4 : Hid (n4 ≤ 9223372036854775807) := by have := sp5.out.len; simp at this; show n4 ≤ _; omega
  clear sn sa hb5 hown5
  go_wp2_with fail
  have hb56 : Below w5.heap.size w5 (w5.alloc (.cells #[.int .u8 8, .int .u8 9] 5)) := (Below.refl _ _).alloc (Nat.le_refl _) _
  have s89 := Sl.of_block (l := [8, 9]) (heap_alloc_new w5 (.cells #[.int .u8 8, .int .u8 9] 5)) rfl 2 rfl
  refine (Same_at (sp5.out.fr (M := NoB) (Fr.of_below hb56) (fun k hk => ⟨Nat.lt_of_lt_of_le hk.2.1 (by assumption), id⟩)) s89 hn4.out (by omega) true (by decide)).mono ?_
  rintro e w6 ⟨rfl, k6, rfl⟩
  have hb6 : Hid (Below w3.heap.size w3 ((w5.alloc (.cells #[.int .u8 8, .int .u8 9] 5)).drewN k6)) := below_drewN (hb5'.out.trans (hb56.mono hb5'.out.size)) _
  generalize (w5.alloc (.cells #[.int .u8 8, .int .u8 9] 5)).drewN k6 = w6 at hb6 ⊢
  clear s89 hb56
  go_wp2_with (go_at_call 22; refine (Len_any b F' _ _ w6 (Hbox3.out.fr (Fr.of_below (M := NoB) hb6.out) (fun _ _ e => e))).mono ?_; rintro e w' ⟨rfl, rfl⟩)
  go_ret
  exact ⟨rfl, hb3.out.trans (hb6.out.mono hb3.out.size)⟩
end Go.Proofs.Ytnejcciociinmaa
