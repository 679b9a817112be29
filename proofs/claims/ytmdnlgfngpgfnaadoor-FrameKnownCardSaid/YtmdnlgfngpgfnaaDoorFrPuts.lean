/- FramePuts' walk. -/
import Derived.Test.YtmdnlgfngpgfnaaDoorFr9
namespace Go.Proofs.YtmdnlgfngpgfnaaDoor
open Go.RowKit

set_option maxRecDepth 100000 in
set_option maxHeartbeats 2000000 in
theorem FramePuts_any (w : World) (hS : Steps w) (kind : Int) (_ : (Lit.int .i64 kind).wf = true) (A : Option Addr) (n c : Nat) (body : List UInt8) (h : Sl w (Old w) A n c body) (hl : n ≤ 140737488355000) :
    Calls Tryd.prog 3 #[.int .i64 kind, .slice A n c] w fun e w' => e = .returned (.bool true) ∧ Below w.heap.size w w' := by
  have HS := Lib.hid hS; have H := Lib.hid h; have Hlen := Lib.hid h.len
  clear hS h
  by_cases hbig : 8192 < n
  · have hbI : (8192 : Int) < (n : Int) := by omega
    go_enter Tryd.func3, Tryd.ntmps3
    go_wp2_with fail
    refine (works_any w HS.out).mono ?_
    rintro e w3 ⟨rfl, hb3⟩
    go_wp2_with fail
    go_ret
    exact ⟨rfl, hb3⟩
  · have hbI : ¬ (8192 : Int) < (n : Int) := by omega
    go_enter Tryd.func3, Tryd.ntmps3
    go_wp2_with fail
    refine (LentBytes_sl H.out (fun k hk => hk) (by omega)).mono ?_
    rintro e w1 ⟨g, cx, rfl, hown1, hb1⟩
    have Hb1 := Lib.hid hb1; have Ho1 := Lib.hid hown1
    have HS1 := Lib.hid (HS.out.below hb1 HS.out.pos)
    have sx := Sl.of_own hown1
    have hcx : n ≤ cx := by have := sx.cap; omega
    have hcxI : (n : Int) ≤ (cx : Int) := by omega
    have Sx := Lib.hid (Sl.take_ (m := n) sx Hlen.out)
    have HB := Lib.hid (H.out.fr (Fr.of_below (M := NoB) hb1) (fun k hk => ⟨hk, id⟩))
    have hz1 := hb1.size
    have hFx : ∀ k, (w.heap.size ≤ k ∧ k < w1.heap.size ∧ (Value.slice (some ⟨g, 0, none⟩) (n + 5) cx).ownBlock = some k) → k < w1.heap.size := fun k hk => hk.2.1
    clear hb1 hown1 sx
    have hn8 : n ≤ 8192 := by omega
    clear hbig hl hcx
    go_wp2_with fail
    refine (Put_any HS1.out kind Sx.out hFx (by omega)).mono ?_
    rintro e w2 ⟨A2, n2, c2, rfl, hown2, hb2⟩
    have Hb2 := Lib.hid hb2; have Ho2 := Lib.hid hown2
    have hz2 := hb2.size
    have HS2 := Lib.hid (HS1.out.below hb2 HS1.out.pos)
    have Sx2 := Lib.hid (Sx.out.fr (Fr.of_below (M := NoB) hb2) (fun k hk => ⟨hFx k hk, id⟩))
    have HB2 := Lib.hid (HB.out.fr (Fr.of_below (M := NoB) hb2) (fun k hk => ⟨Nat.lt_of_lt_of_le hk hz1, id⟩))
    clear hb2 hown2
    go_wp2_with fail
    refine (Put_any HS2.out kind Sx2.out (fun k hk => Nat.lt_of_lt_of_le (hFx k hk) hz2) (by omega)).mono ?_
    rintro e w3 ⟨A3, n3, c3, rfl, hown3, hb3⟩
    have Hb3 := Lib.hid hb3; have Ho3 := Lib.hid hown3
    have hz3 := hb3.size
    have HS3 := Lib.hid (HS2.out.below hb3 HS2.out.pos)
    have Sx3 := Lib.hid (Sx2.out.fr (Fr.of_below (M := NoB) hb3) (fun k hk => ⟨Nat.lt_of_lt_of_le (hFx k hk) hz2, id⟩))
    have HB3 := Lib.hid (HB2.out.fr (Fr.of_below (M := NoB) hb3) (fun k hk => ⟨Nat.lt_of_lt_of_le (Nat.lt_of_lt_of_le hk hz1) hz2, id⟩))
    clear hb3 hown3
    go_wp2_with fail
    have hzw3 : w.heap.size ≤ w3.heap.size := by omega
    refine (RefPut_any kind HB3.out (fun k hk => Nat.lt_of_lt_of_le hk hzw3) (by omega)).mono ?_
    rintro e w4 ⟨A4, n4, c4, rfl, hown4, hb4⟩
    have Hb4 := Lib.hid hb4; have Ho4 := Lib.hid hown4
    have hz4 := hb4.size
    have HS4 := Lib.hid (HS3.out.below hb4 HS3.out.pos)
    have Sx4 := Lib.hid (Sx3.out.fr (Fr.of_below (M := NoB) hb4) (fun k hk => ⟨Nat.lt_of_lt_of_le (Nat.lt_of_lt_of_le (hFx k hk) hz2) hz3, id⟩))
    have HB4 := Lib.hid (HB3.out.fr (Fr.of_below (M := NoB) hb4) (fun k hk => ⟨Nat.lt_of_lt_of_le hk hzw3, id⟩))
    clear hb4 hown4
    have one4 := Lib.hid (((Sl.of_own Ho2.out).fr (Fr.of_below (M := NoB) Hb3.out) (fun k hk => ⟨hk.2.1, id⟩)).fr (Fr.of_below (M := NoB) Hb4.out) (fun k hk => ⟨Nat.lt_of_lt_of_le hk.2.1 hz3, id⟩))
    have two4 := Lib.hid ((Sl.of_own Ho3.out).fr (Fr.of_below (M := NoB) Hb4.out) (fun k hk => ⟨hk.2.1, id⟩))
    have want4 := Lib.hid (Sl.of_own Ho4.out)
    have full4 := Lib.hid ((((Sl.of_own Ho1.out).fr (Fr.of_below (M := NoB) Hb2.out) (fun k hk => ⟨hk.2.1, id⟩)).fr (Fr.of_below (M := NoB) Hb3.out) (fun k hk => ⟨Nat.lt_of_lt_of_le hk.2.1 hz2, id⟩)).fr (Fr.of_below (M := NoB) Hb4.out) (fun k hk => ⟨Nat.lt_of_lt_of_le (Nat.lt_of_lt_of_le hk.2.1 hz2) hz3, id⟩))
    have hpn : (putB kind body).length ≤ 9000 := by
      unfold putB
      split
      · simp only [frameB, headB, be4, List.length_append, List.length_cons, List.length_nil]
        have := Hlen.out; omega
      · simp
    have l2 : n2 = (putB kind body).length := one4.out.len.symm
    have l3 : n3 = (putB kind body).length := two4.out.len.symm
    have l4 : n4 = (putB kind body).length := want4.out.len.symm
    have hn2 : n2 ≤ 9000 := by omega
    have hn3 : n3 ≤ 9000 := by omega
    have hn4 : n4 ≤ 9000 := by omega
    have Hown2 : Hid (w4.ownsRow w1.heap.size 5 1 (.slice A2 n2 c2) n2 (bs (putB kind body))) := own_fr (own_fr Ho2.out (Fr.of_below (M := NoB) Hb3.out) (fun _ _ e => e)) (Fr.of_below (M := NoB) Hb4.out) (fun _ _ e => e)
    clear l2 l3 l4 hpn
    go_wp2_with (first
      | (go_at_call 15
         (with_reducible refine (Same_at one4.out want4.out (by omega) (by omega) true (by simp)).mono ?_)
         rintro e w5 ⟨rfl, m5, rfl⟩)
      | (go_at_call 16
         (with_reducible refine (Sum_any (w := w4.drewN m5) (Steps.fr HS4.out (Fr.drewN (Fr.refl NoB _) m5) (fun e => e)) (Sl.drewN_ Sx4.out m5) (by omega)).mono ?_)
         rintro e w' ⟨rfl, rfl⟩)
      | (go_at_call 17
         (with_reducible refine (RefSum_any (w := w4.drewN m5) (Sl.drewN_ HB4.out m5) (by omega)).mono ?_)
         rintro e w' ⟨rfl, rfl⟩)
      | (go_at_call 18
         (with_reducible refine (SpoilBytes_any w1.heap.size A2 n2 c2 n2 _ (w4.drewN m5) (own_fr Hown2.out (Fr.drewN (Fr.refl NoB _) m5) (fun _ _ e => e)) (Nat.le_refl _) (by omega)).mono ?_)
         rintro e w6 ⟨rfl, hg6⟩
         have hf6 : Fr (fun j => some j = (Value.slice A2 n2 c2).ownBlock) w4 w6 := (Fr.drewN (Fr.refl _ _) m5).trans (Fr.of_grown hg6) (fun _ _ e => e)
         have ho2 : ∀ j, some j = (Value.slice A2 n2 c2).ownBlock → w1.heap.size ≤ j ∧ j < w2.heap.size := fun j e => Ho2.out.lt j e.symm
         have two6 := Lib.hid (two4.out.fr hf6 (fun j hj => ⟨Nat.lt_of_lt_of_le hj.2.1 hz4, fun e => by have := (ho2 j e).2; have := hj.1; omega⟩))
         have want6 := Lib.hid (want4.out.fr hf6 (fun j hj => ⟨hj.2.1, fun e => by have := (ho2 j e).2; have := hj.1; omega⟩))
         have full6 := Lib.hid (full4.out.fr hf6 (fun j hj => ⟨by have := hj.2.1; omega, fun e => by have := (ho2 j e).1; have := hj.2.1; omega⟩))
         have HB6 := Lib.hid (HB4.out.fr hf6 (fun j hj => ⟨Nat.lt_of_lt_of_le hj (Nat.le_trans hzw3 hz4), fun e => by have := (ho2 j e).1; have hj : j < w.heap.size := hj; omega⟩))
         have HS6 : Hid (Steps w6) := Steps.fr HS4.out hf6 (fun e => by have := (ho2 0 e).1; have := HS.out.pos; omega)
         have Hb6 : Hid (Below w.heap.size w w6) := Below.fr_ (((Hb1.out.trans (Hb2.out.mono hz1)).trans (Hb3.out.mono (Nat.le_trans hz1 hz2))).trans (Hb4.out.mono hzw3)) hf6 (Nat.le_trans hzw3 hz4) (fun j e => by have := (ho2 j e).1; omega)
         have hz6 := hf6.size
         clear hf6 ho2 hg6)
      | (go_at_call 15
         (with_reducible refine (Same_at two6.out want6.out (by omega) (by omega) true (by simp)).mono ?_)
         rintro e w7 ⟨rfl, m7, rfl⟩)
      | (go_at_call 19
         (refine (KeptBytes_sl (w := w6.drewN m7) (Sl.drewN_ full6.out m7) (fun k hk => Nat.lt_of_lt_of_le hk.2.1 (Nat.le_trans (Nat.le_trans (Nat.le_trans hz2 hz3) hz4) hz6)) (Sl.drewN_ HB6.out m7) (fun k hk => Nat.lt_of_lt_of_le hk (Nat.le_trans (Nat.le_trans hzw3 hz4) hz6)) (by omega)).mono ?_)
         rintro e w8 ⟨rfl, hb8⟩
         have Hb8 := Lib.hid hb8
         have HS8 := Lib.hid (Steps.below (w := w6.drewN m7) (Steps.fr HS6.out (Fr.drewN (Fr.refl NoB _) m7) (fun e => e)) hb8 HS6.out.pos)
         clear hb8)
      | (go_at_call 11
         (with_reducible refine (works_any w8 HS8.out).mono ?_)
         rintro e w9 ⟨rfl, hb9⟩))
    go_ret
    exact ⟨rfl, ((Hb6.out.trans ((below_drewN (Below.refl _ _) m7).mono Hb6.out.size)).trans (Hb8.out.mono Hb6.out.size)).trans (hb9.mono (Nat.le_trans Hb6.out.size Hb8.out.size))⟩
end Go.Proofs.YtmdnlgfngpgfnaaDoor
