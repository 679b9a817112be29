/- BoxKnown: the walk. -/
import Derived.Test.YtnejcciociinmaaBox4
namespace Go.Proofs.Ytnejcciociinmaa
open Go.RowKit

theorem build_key0 (w : World) : (Instr.build 38 #[]).run Try.prog w = .ok (.agg (bs (keyOf [])).toArray) w := by kernel_rfl
theorem build_nonce0 (w : World) : (Instr.build 40 #[]).run Try.prog w = .ok (.agg (bs (nonceOf [])).toArray) w := by kernel_rfl

/-- Seal, seen from an elder world in which there was no box yet -/
theorem Seal_b (w0 : World) (b : Nat) (F G : Nat → Prop) (src : List UInt8) (rows : List BRow) (w : World) (hb : Below w0.heap.size w0 w) (hF : ∀ k, F k → w0.heap.size ≤ k) (h : BoxAt w b F src rows) (k n : List UInt8) (hk : k.length = 32) (hn : n.length = 12)
    (HA : Option Addr) (hn1 hc1 : Nat) (head : List UInt8) (hh : Sl w G HA hn1 hc1 head) (PA : Option Addr) (pn pc : Nat) (plain : List UInt8) (hp : Sl w G PA pn pc plain) (hG : ∀ k, G k → k < w.heap.size ∧ ¬ F k)
    (hh1 : hn1 ≤ 140737488355000) (hp1 : pn ≤ 1024) (hrl : rows.length ≤ 1000) (out src' : List UInt8) (ho : sealOf rows.length pn src = out) (hs : src.drop (8 + pn) = src') :
    Calls Try.prog 13 #[.pointer (some ⟨b, 0, none⟩), .agg (bs k).toArray, .agg (bs n).toArray, .slice HA hn1 hc1, .slice PA pn pc] w fun e w' =>
      ∃ F' g c, e = .returned (.slice (some ⟨g, 0, none⟩) (16 + pn) c) ∧ Hid (w'.ownsRow w.heap.size 5 1 (.slice (some ⟨g, 0, none⟩) (16 + pn) c) (16 + pn) (bs out)) ∧
        Hid (BoxAt w' b F' src' (rows ++ [⟨k, n, head, plain, out⟩])) ∧ Hid (∀ j, F' j → F j ∨ w.heap.size ≤ j) ∧ Hid (¬ F' g) ∧ Fr F w w' ∧ Below w0.heap.size w0 w' ∧ Hid (∀ k, F' k → w0.heap.size ≤ k) ∧ 16 + pn ≤ c := by
  subst ho hs
  refine (Seal_any b F G src rows w h k n hk hn HA hn1 hc1 head hh PA pn pc plain hp hG hh1 hp1 hrl).mono ?_
  rintro e w' ⟨F', g, c, he, hown, hbox, hF', hg, hfr⟩
  have hsz := hb.size
  refine ⟨F', g, c, he, hown, hbox, hF', hg, hfr, hb.trans ⟨hfr.os, hfr.tape, hfr.output, hfr.size, fun i hi => hfr.block i (by omega) (fun h => by have := hF i h; omega)⟩, fun k hk => ?_, (Sl.of_own hown).cap⟩
  rcases hF' k hk with h | h
  · exact hF k h
  · omega
theorem old_sl {w w' : World} {base : Nat} {A : Option Addr} {n c : Nat} {l : List UInt8} (h : w.ownsRow base 5 1 (.slice A n c) n (bs l)) (hb : Below w.heap.size w w') : Sl w' (Old w') A n c l :=
  ((Sl.of_own h).fr (M := NoB) (Fr.of_below hb) (fun _ hk => ⟨hk.2.1, id⟩)).mono (fun _ hk => Nat.lt_of_lt_of_le hk.2.1 hb.size)

set_option maxRecDepth 100000 in
set_option maxHeartbeats 4000000 in
theorem BoxKnown_any (w : World) : Calls Try.prog 6 #[] w fun e w' => e = .returned (.bool true) ∧ Below w.heap.size w w' := by
  go_enter Try.func6, Try.ntmps6
  go_wp2_with fail
  have hb1 : Below w.heap.size w (w.alloc (.cells #[.int .u8 5, .int .u8 6, .int .u8 7] 5)) := (Below.refl _ _).alloc (Nat.le_refl _) _
  have s1 := Sl.of_block (l := [5, 6, 7]) (heap_alloc_new w (.cells #[.int .u8 5, .int .u8 6, .int .u8 7] 5)) rfl 3 rfl
  refine (New_any s1 (fun k hk => by subst hk; simp) (by omega)).mono ?_
  rintro e w1 ⟨b, G, rfl, hbox, hbw1, hG⟩
  have HB1 := Lib.hid hbox
  have HG1 : Hid (∀ k, G k → w.heap.size ≤ k) := fun k hk => by have := hG k hk; simp at this; omega
  have hb2 : Hid (Below w.heap.size w w1) := hb1.trans (hbw1.mono (by simp))
  clear hbox hG s1 hb1 hbw1
  go_wp2_with (first
    | ((with_reducible refine lst_build 38 _ #[] _ rfl (build_key0 _) ?_ ?_ ?_)
       (focus (simp only [List.map_toArray, List.map_nil]; try rfl))
       (focus rfl))
    | ((with_reducible refine lst_build 40 _ #[] _ rfl (build_nonce0 _) ?_ ?_ ?_)
       (focus (simp only [List.map_toArray, List.map_nil]; try rfl))
       (focus rfl))
    | (go_at_call 22; refine (Len_any b G _ _ w1 HB1.out).mono ?_; rintro e w' ⟨rfl, rfl⟩))
  have hba : Below w1.heap.size w1 (w1.alloc (.cells #[.int .u8 1, .int .u8 2] 5)) := (Below.refl _ _).alloc (Nat.le_refl _) _
  have s12 := (Sl.of_block (l := [1, 2]) (heap_alloc_new w1 (.cells #[.int .u8 1, .int .u8 2] 5)) rfl 2 rfl)
  have hGlt : ∀ k, G k → k < w1.heap.size := HB1.out.1
  refine (Seal_b w b G (fun k => k = w1.heap.size) _ [] _ (hb2.out.trans (hba.mono hb2.out.size)) HG1.out (HB1.out.fr (Fr.of_below (M := NoB) hba) (fun _ _ e => e)) (keyOf []) (nonceOf []) rfl rfl _ _ _ [] (Sl.nil_ _ _) _ _ _ [1, 2] s12
    (fun k hk => ⟨by subst hk; simp, fun h => by have := hGlt k h; omega⟩) (by omega) (by omega) (by simp) [0, 0, 0, 0, 0, 0, 0, 0, 5, 6, 7, 0, 0, 0, 0, 0, 0, 0] [] (by decide) (by decide)).mono ?_
  rintro e w2 ⟨F2, ga, ca, rfl, Ha2, HB2, HF2, Hga2, hfr2, hbw2, HG2, hca⟩
  have Hbw2 := Lib.hid hbw2
  clear hba s12 hGlt hfr2 hb2 HB1 HF2 hbw2
  go_wp2_with (first
    | ((with_reducible refine lst_build 38 _ #[] _ rfl (build_key0 _) ?_ ?_ ?_)
       (focus (simp only [List.map_toArray, List.map_nil]; try rfl))
       (focus rfl))
    | ((with_reducible refine lst_build 40 _ #[] _ rfl (build_nonce0 _) ?_ ?_ ?_)
       (focus (simp only [List.map_toArray, List.map_nil]; try rfl))
       (focus rfl)))
  refine (Seal_b w b F2 NoB _ _ w2 Hbw2.out HG2.out HB2.out (keyOf []) (nonceOf []) rfl rfl _ _ _ [] (Sl.nil_ _ _) _ _ _ [] (Sl.nil_ _ _)
    (fun k hk => hk.elim) (by omega) (by omega) (by simp) [1, 0, 0, 0, 0, 0, 0, 0, 0, 0, 0, 0, 0, 0, 0, 0] [] (by decide) (by decide)).mono ?_
  rintro e w3 ⟨F3, gb, cb, rfl, Hb3, HB3, HF3, Hgb3, hfr3, hbw3, HG3, hcb⟩
  have Hbw3 := Lib.hid hbw3
  have Ha3 : Hid (w3.ownsRow 0 5 1 (.slice (some ⟨ga, 0, none⟩) (16 + 2) ca) (16 + 2) (bs [0, 0, 0, 0, 0, 0, 0, 0, 5, 6, 7, 0, 0, 0, 0, 0, 0, 0])) :=
    own_mono (own_fr Ha2.out hfr3 (fun j hj h => by simp [Value.ownBlock] at hj; subst hj; exact Hga2.out h)) (Nat.zero_le _)
  have Hb3' : Hid (w3.ownsRow 0 5 1 (.slice (some ⟨gb, 0, none⟩) (16 + 0) cb) (16 + 0) (bs [1, 0, 0, 0, 0, 0, 0, 0, 0, 0, 0, 0, 0, 0, 0, 0])) := own_mono Hb3.out (Nat.zero_le _)
  clear hfr3 Ha2 Hga2 HB2 HF3 Hgb3 Hbw2 HG2 Hb3 hbw3
  simp only [List.nil_append, List.cons_append] at HB3
  generalize hrows : [(⟨keyOf [], nonceOf [], [], [1, 2], [0, 0, 0, 0, 0, 0, 0, 0, 5, 6, 7, 0, 0, 0, 0, 0, 0, 0]⟩ : BRow), ⟨keyOf [], nonceOf [], [], [], [1, 0, 0, 0, 0, 0, 0, 0, 0, 0, 0, 0, 0, 0, 0, 0]⟩] = rows at HB3
  have Hr1 : Hid (openP rows (keyOf []) (nonceOf []) [] [1, 0, 0, 0, 0, 0, 0, 0, 0, 0, 0, 0, 0, 0, 0, 0] = some []) := by rw [← hrows]; show _ = _; decide +kernel
  have Hr2 : Hid (openP rows (keyOf []) (nonceOf []) [] [] = none) := by rw [← hrows]; show _ = _; decide +kernel
  have Hr3 : Hid (openP rows (keyOf []) (nonceOf []) [] [255, 255, 255, 255, 255, 255, 255, 255, 0] = none) := by rw [← hrows]; show _ = _; decide +kernel
  have Hr4 : Hid (openP rows (keyOf []) (nonceOf []) [] [0, 0, 0, 0, 0, 0, 0, 0, 5, 6, 7, 0, 0, 0, 0, 0, 0] = none) := by rw [← hrows]; show _ = _; decide +kernel
  have hrl : rows.length = 2 := by rw [← hrows]; rfl
  have Hrl := Lib.hid hrl
  clear hrows hrl
  go_wp2_with (first
    | ((with_reducible refine lst_build 38 _ #[] _ rfl (build_key0 _) ?_ ?_ ?_)
       (focus (simp only [List.map_toArray, List.map_nil]; try rfl))
       (focus rfl))
    | ((with_reducible refine lst_build 40 _ #[] _ rfl (build_nonce0 _) ?_ ?_ ?_)
       (focus (simp only [List.map_toArray, List.map_nil]; try rfl))
       (focus rfl)))
  refine (Open_any b F3 _ _ _ w3 HB3.out (keyOf []) (nonceOf []) rfl rfl _ _ _ [] (Sl.nil_ _ _) _ _ _ _ (old_sl Hb3'.out (Below.refl _ _)) (fun k hk => hk) (by have := Hrl.out; omega) _ Hr1.out).mono ?_
  rintro e w4 ⟨A4, n4, c4, rfl, hb4, hown4⟩
  have Hb4 := Lib.hid hb4
  have hn4 : n4 = 0 := by have := hown4.1; simpa [bs] using this.symm
  subst hn4
  clear hown4 hb4
  go_wp2_with (first
    | ((with_reducible refine lst_build 38 _ #[] _ rfl (build_key0 _) ?_ ?_ ?_)
       (focus (simp only [List.map_toArray, List.map_nil]; try rfl))
       (focus rfl))
    | ((with_reducible refine lst_build 40 _ #[] _ rfl (build_nonce0 _) ?_ ?_ ?_)
       (focus (simp only [List.map_toArray, List.map_nil]; try rfl))
       (focus rfl)))
  refine (Open_any b F3 (Old w4) _ _ w4 (HB3.out.fr (Fr.of_below (M := NoB) Hb4.out) (fun _ _ e => e)) (keyOf []) (nonceOf []) rfl rfl _ _ _ [] (Sl.nil_ _ _) _ _ _ [] (Sl.nil_ _ _) (fun k hk => hk) (by have := Hrl.out; omega) _ Hr2.out).mono ?_
  rintro e w5 ⟨A5, n5, c5, rfl, hb5, hown5⟩
  have Hb5 : Hid (Below w3.heap.size w3 w5) := Hb4.out.trans (hb5.mono Hb4.out.size)
  clear hown5 hb5
  go_wp2_with (first
    | ((with_reducible refine lst_build 38 _ #[] _ rfl (build_key0 _) ?_ ?_ ?_)
       (focus (simp only [List.map_toArray, List.map_nil]; try rfl))
       (focus rfl))
    | ((with_reducible refine lst_build 40 _ #[] _ rfl (build_nonce0 _) ?_ ?_ ?_)
       (focus (simp only [List.map_toArray, List.map_nil]; try rfl))
       (focus rfl)))
  have hb56 : Below w5.heap.size w5 (w5.alloc (.cells #[.int .u8 255, .int .u8 255, .int .u8 255, .int .u8 255, .int .u8 255, .int .u8 255, .int .u8 255, .int .u8 255, .int .u8 0] 5)) := (Below.refl _ _).alloc (Nat.le_refl _) _
  have s255 := (Sl.of_block (l := [255, 255, 255, 255, 255, 255, 255, 255, 0]) (heap_alloc_new w5 (.cells #[.int .u8 255, .int .u8 255, .int .u8 255, .int .u8 255, .int .u8 255, .int .u8 255, .int .u8 255, .int .u8 255, .int .u8 0] 5)) rfl 9 rfl)
  refine (Open_any b F3 _ _ _ _ (HB3.out.fr (Fr.of_below (M := NoB) (Hb5.out.trans (hb56.mono Hb5.out.size))) (fun _ _ e => e)) (keyOf []) (nonceOf []) rfl rfl _ _ _ [] (Sl.nil_ _ _) _ _ _ _ s255 (fun k hk => by subst hk; simp) (by have := Hrl.out; omega) _ Hr3.out).mono ?_
  rintro e w6 ⟨A6, n6, c6, rfl, hb6, hown6⟩
  have Hb6 : Hid (Below w3.heap.size w3 w6) := (Hb5.out.trans (hb56.mono Hb5.out.size)).trans (hb6.mono (by have := Hb5.out.size; simp; omega))
  clear hown6 hb6 s255 hb56
  go_wp2_with (first
    | ((with_reducible refine lst_build 38 _ #[] _ rfl (build_key0 _) ?_ ?_ ?_)
       (focus (simp only [List.map_toArray, List.map_nil]; try rfl))
       (focus rfl))
    | ((with_reducible refine lst_build 40 _ #[] _ rfl (build_nonce0 _) ?_ ?_ ?_)
       (focus (simp only [List.map_toArray, List.map_nil]; try rfl))
       (focus rfl)))
  have sa6 := (old_sl Ha3.out Hb6.out).take_ (l := [0, 0, 0, 0, 0, 0, 0, 0, 5, 6, 7, 0, 0, 0, 0, 0, 0]) (l' := [0]) (m := 17) rfl
  refine (Open_any b F3 (Old w6) _ _ w6 (HB3.out.fr (Fr.of_below (M := NoB) Hb6.out) (fun _ _ e => e)) (keyOf []) (nonceOf []) rfl rfl _ _ _ [] (Sl.nil_ _ _) _ _ _ _ sa6 (fun k hk => hk) (by have := Hrl.out; omega) _ Hr4.out).mono ?_
  rintro e w7 ⟨A7, n7, c7, rfl, hb7, hown7⟩
  have Hb7 : Hid (Below w3.heap.size w3 w7) := Hb6.out.trans (hb7.mono Hb6.out.size)
  clear hown7 hb7 sa6
  go_wp2_with fail
  have hb78 : Below w7.heap.size w7 (w7.alloc (.cells #[.int .u8 0, .int .u8 0, .int .u8 0, .int .u8 0, .int .u8 0, .int .u8 0, .int .u8 0, .int .u8 0, .int .u8 5, .int .u8 6, .int .u8 7, .int .u8 0, .int .u8 0, .int .u8 0, .int .u8 0, .int .u8 0, .int .u8 0, .int .u8 0] 5)) := (Below.refl _ _).alloc (Nat.le_refl _) _
  have s18 := Sl.of_block (l := [0, 0, 0, 0, 0, 0, 0, 0, 5, 6, 7, 0, 0, 0, 0, 0, 0, 0]) (heap_alloc_new w7 (.cells #[.int .u8 0, .int .u8 0, .int .u8 0, .int .u8 0, .int .u8 0, .int .u8 0, .int .u8 0, .int .u8 0, .int .u8 5, .int .u8 6, .int .u8 7, .int .u8 0, .int .u8 0, .int .u8 0, .int .u8 0, .int .u8 0, .int .u8 0, .int .u8 0] 5)) rfl 18 rfl
  refine (Same_at (old_sl Ha3.out (Hb7.out.trans (hb78.mono Hb7.out.size))) s18 (by omega) (by omega) true (by decide)).mono ?_
  rintro e w8 ⟨rfl, k8, hw8⟩
  have Hb8 : Hid (Below w3.heap.size w3 w8) := by rw [hw8]; exact below_drewN (Hb7.out.trans (hb78.mono Hb7.out.size)) _
  clear hw8 s18 hb78
  go_wp2_with fail
  have hb89 : Below w8.heap.size w8 (w8.alloc (.cells #[.int .u8 1, .int .u8 0, .int .u8 0, .int .u8 0, .int .u8 0, .int .u8 0, .int .u8 0, .int .u8 0, .int .u8 0, .int .u8 0, .int .u8 0, .int .u8 0, .int .u8 0, .int .u8 0, .int .u8 0, .int .u8 0] 5)) := (Below.refl _ _).alloc (Nat.le_refl _) _
  have s16 := Sl.of_block (l := [1, 0, 0, 0, 0, 0, 0, 0, 0, 0, 0, 0, 0, 0, 0, 0]) (heap_alloc_new w8 (.cells #[.int .u8 1, .int .u8 0, .int .u8 0, .int .u8 0, .int .u8 0, .int .u8 0, .int .u8 0, .int .u8 0, .int .u8 0, .int .u8 0, .int .u8 0, .int .u8 0, .int .u8 0, .int .u8 0, .int .u8 0, .int .u8 0] 5)) rfl 16 rfl
  refine (Same_at (old_sl Hb3'.out (Hb8.out.trans (hb89.mono Hb8.out.size))) s16 (by omega) (by omega) true (by decide)).mono ?_
  rintro e w9 ⟨rfl, k9, hw9⟩
  have Hb9 : Hid (Below w3.heap.size w3 w9) := by rw [hw9]; exact below_drewN (Hb8.out.trans (hb89.mono Hb8.out.size)) _
  clear hw9 s16 hb89
  have Hl9 : Hid ((rows.length : Int) = 2) := by have := Hrl.out; show _ = _; omega
  go_wp2_with (go_at_call 22; refine (Len_any b F3 _ _ w9 (HB3.out.fr (Fr.of_below (M := NoB) Hb9.out) (fun _ _ e => e))).mono ?_; rintro e w' ⟨rfl, rfl⟩; rw [Hl9.out])
  refine (known_any _).mono ?_
  rintro e w10 ⟨rfl, hb10⟩
  go_wp2_with fail
  go_ret
  exact ⟨rfl, Hbw3.out.trans ((Hb9.out.mono Hbw3.out.size).trans (hb10.mono (by have := Hbw3.out.size; have := Hb9.out.size; omega)))⟩
end Go.Proofs.Ytnejcciociinmaa
