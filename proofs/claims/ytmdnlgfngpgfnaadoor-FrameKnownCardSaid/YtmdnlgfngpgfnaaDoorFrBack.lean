/- FrameBack's walk. -/
import Derived.Test.YtmdnlgfngpgfnaaDoorFr6
import Derived.Test.YtmdnlgfngpgfnaaDoorFr10
namespace Go.Proofs.YtmdnlgfngpgfnaaDoor
open Go.RowKit

set_option maxRecDepth 100000 in
set_option maxHeartbeats 2000000 in
theorem FrameBack_any (w : World) (hS : Steps w) (kind : Int) (_ : (Lit.int .i64 kind).wf = true) (A1 : Option Addr) (n1 c1 : Nat) (body : List UInt8) (h1 : Sl w (Old w) A1 n1 c1 body) (b1 : n1 ≤ 140737488355000)
    (A2 : Option Addr) (n2 c2 : Nat) (more : List UInt8) (h2 : Sl w (Old w) A2 n2 c2 more) (b2 : n2 ≤ 140737488355000) (cut : Int) (_ : (Lit.int .i64 cut).wf = true) :
    Calls Tryd.prog 4 #[.int .i64 kind, .slice A1 n1 c1, .slice A2 n2 c2, .int .i64 cut] w fun e w' => e = .returned (.bool true) ∧ Below w.heap.size w w' := by
  have HS := Lib.hid hS; have H1 := Lib.hid h1; have H2 := Lib.hid h2; have L1 := Lib.hid h1.len; have L2 := Lib.hid h2.len
  clear hS h1 h2
  have hc : ((n1 : Int) < n2 ∧ 8192 < (n2 : Int)) ∨ (¬ (n1 : Int) < n2 ∧ 8192 < (n1 : Int)) ∨ ((n1 : Int) < n2 ∧ ¬ 8192 < (n2 : Int)) ∨ (¬ (n1 : Int) < n2 ∧ ¬ 8192 < (n1 : Int)) := by omega
  rcases hc with ⟨q1, q2⟩ | ⟨q1, q2⟩ | hc
  iterate 2 (
    · go_enter Tryd.func4, Tryd.ntmps4
      go_wp2_with fail
      refine (works_any w HS.out).mono ?_
      rintro e w3 ⟨rfl, hb3⟩
      go_wp2_with fail
      go_ret
      exact ⟨rfl, hb3⟩)
  have hk : kind < 1 ∨ (¬ kind < 1 ∧ 255 < kind) ∨ (¬ kind < 1 ∧ ¬ 255 < kind ∧ 2039 < (n1 : Int)) ∨ (¬ kind < 1 ∧ ¬ 255 < kind ∧ ¬ 2039 < (n1 : Int)) := by omega
  rcases hc with ⟨q1, q2⟩ | ⟨q1, q2⟩
  all_goals
    have Bd : Hid (n1 ≤ 8192 ∧ n2 ≤ 8192) := ⟨by omega, by omega⟩
    rcases hk with hk | ⟨hk, hk2⟩ | ⟨hk, hk2, hk3⟩ | ⟨hk, hk2, hk3⟩
    · have hE : putE kind n1 = 2 := by unfold putE; rw [if_pos (by omega)]
      have hB : putB kind body = [] := by unfold putB; rw [L1.out, hE]; rfl
      have HE := Lib.hid hE; have HB := Lib.hid hB
      clear hE hB
      go_enter Tryd.func4, Tryd.ntmps4
      go_wp2_with fail
      refine (Put_any HS.out kind H1.out (fun k hk => hk) (by omega)).mono ?_
      rintro e w1 ⟨A3, n3, c3, rfl, hown3, hb3⟩
      rw [HE.out]
      have hn3 : n3 = 0 := by have h := hown3.1; rw [HB.out] at h; simpa [bs] using h.symm
      subst hn3
      have Hb3 := Lib.hid hb3
      have HS3 := Lib.hid (HS.out.below hb3 HS.out.pos)
      clear hown3 hb3
      go_wp2_with fail
      refine (works_any w1 HS3.out).mono ?_
      rintro e w3 ⟨rfl, hb4⟩
      go_wp2_with fail
      go_ret
      exact ⟨rfl, Hb3.out.trans (hb4.mono Hb3.out.size)⟩
    · have hE : putE kind n1 = 2 := by unfold putE; rw [if_pos (by omega)]
      have hB : putB kind body = [] := by unfold putB; rw [L1.out, hE]; rfl
      have HE := Lib.hid hE; have HB := Lib.hid hB
      clear hE hB
      go_enter Tryd.func4, Tryd.ntmps4
      go_wp2_with fail
      refine (Put_any HS.out kind H1.out (fun k hk => hk) (by omega)).mono ?_
      rintro e w1 ⟨A3, n3, c3, rfl, hown3, hb3⟩
      rw [HE.out]
      have hn3 : n3 = 0 := by have h := hown3.1; rw [HB.out] at h; simpa [bs] using h.symm
      subst hn3
      have Hb3 := Lib.hid hb3
      have HS3 := Lib.hid (HS.out.below hb3 HS.out.pos)
      clear hown3 hb3
      go_wp2_with fail
      refine (works_any w1 HS3.out).mono ?_
      rintro e w3 ⟨rfl, hb4⟩
      go_wp2_with fail
      go_ret
      exact ⟨rfl, Hb3.out.trans (hb4.mono Hb3.out.size)⟩
    · have hE : putE kind n1 = 5 := by unfold putE; rw [if_neg (by omega), if_pos (by omega)]
      have hB : putB kind body = [] := by unfold putB; rw [L1.out, hE]; rfl
      have HE := Lib.hid hE; have HB := Lib.hid hB
      clear hE hB
      go_enter Tryd.func4, Tryd.ntmps4
      go_wp2_with fail
      refine (Put_any HS.out kind H1.out (fun k hk => hk) (by omega)).mono ?_
      rintro e w1 ⟨A3, n3, c3, rfl, hown3, hb3⟩
      rw [HE.out]
      have hn3 : n3 = 0 := by have h := hown3.1; rw [HB.out] at h; simpa [bs] using h.symm
      subst hn3
      have Hb3 := Lib.hid hb3
      have HS3 := Lib.hid (HS.out.below hb3 HS.out.pos)
      clear hown3 hb3
      go_wp2_with fail
      refine (works_any w1 HS3.out).mono ?_
      rintro e w3 ⟨rfl, hb4⟩
      go_wp2_with fail
      go_ret
      exact ⟨rfl, Hb3.out.trans (hb4.mono Hb3.out.size)⟩
    · obtain ⟨kn, rfl⟩ : ∃ kn : Nat, kind = (kn : Int) := ⟨kind.toNat, by omega⟩
      have hE : putE kn n1 = 0 := by unfold putE; rw [if_neg (by omega), if_neg (by omega)]
      have hB : putB kn body = frameB (UInt8.ofNat kn) body := by unfold putB; rw [L1.out, hE]; rfl
      have hkk : ((UInt8.ofNat kn).toNat : Int) = (kn : Int) := by rw [UInt8.toNat_ofNat', Nat.mod_eq_of_lt (by simp; omega)]
      have hk0 : UInt8.ofNat kn ≠ 0 := fun e => by rw [e] at hkk; simp at hkk; omega
      have hbl : body.length ≤ 2039 := by have := L1.out; omega
      have HE := Lib.hid hE; have HB := Lib.hid hB
      have hg1 : Hid (getP (frameB (UInt8.ofNat kn) body ++ more) = ⟨0, (kn : Int), body, n1 + 9⟩) := by
        show _ = _
        rw [get_frame _ hk0 body more hbl, L1.out]
        congr 1
      have hp : ∃ p : Nat, cut % ((n1 + 9 : Nat) : Int) = (p : Int) ∧ p < n1 + 9 := ⟨(cut % ((n1 + 9 : Nat) : Int)).toNat, by
        have h1 := Int.emod_nonneg cut (show ((n1 + 9 : Nat) : Int) ≠ 0 by omega)
        have h2 := Int.emod_lt_of_pos cut (show (0 : Int) < ((n1 + 9 : Nat) : Int) by omega)
        omega⟩
      obtain ⟨p, hp, hpl⟩ := hp
      have hg2 : Hid (getP ((frameB (UInt8.ofNat kn) body).take p) = ⟨4, 0, [], 0⟩) := get_short _ hk0 body hbl p (by have := L1.out; omega)
      have hpk : Hid ((if ((n1 + 9 : Nat) : Int) < 1 then 0 else cut % ((n1 + 9 : Nat) : Int)) = (p : Int)) := by show _ = _; rw [if_neg (by omega), hp]
      have hfl : Hid ((frameB (UInt8.ofNat kn) body).length = n1 + 9) := by show _ = _; rw [frameB_len, L1.out]
      have Hpl := Lib.hid hpl
      clear hE hB hkk hk0 hbl hp hpl hk hk2 hk3
      go_enter Tryd.func4, Tryd.ntmps4
      go_wp2_with fail
      refine (Put_any HS.out kn H1.out (fun k hk => hk) (by omega)).mono ?_
      rintro e w1 ⟨A3, n3, c3, rfl, hown3, hb3⟩
      rw [HE.out]
      rw [HB.out] at hown3
      have hn3 : n3 = n1 + 9 := by have h := hown3.1; rw [bs_length, hfl.out] at h; omega
      subst hn3
      have Hb3 := Lib.hid hb3; have Ho3 := Lib.hid hown3
      have HS3 := Lib.hid (HS.out.below hb3 HS.out.pos)
      have sb := Lib.hid (Sl.of_own hown3)
      have hz1 := hb3.size
      have hpc : p ≤ c3 := by have := sb.out.cap; have := Hpl.out; omega
      have hpcI : (p : Int) ≤ (c3 : Int) := by omega
      have H21 := Lib.hid (H2.out.fr (Fr.of_below (M := NoB) hb3) (fun k hk => ⟨hk, id⟩))
      have H11 := Lib.hid (H1.out.fr (Fr.of_below (M := NoB) hb3) (fun k hk => ⟨hk, id⟩))
      clear hown3 hb3 hpc
      go_wp2_with (first
        | (go_at_call 21
           (with_reducible refine (CopyBytes_sl sb.out (fun k hk => hk.2.1) (by have := Bd.out; omega)).mono ?_)
           rintro e w2 ⟨A4, c4, rfl, hown4, hb4⟩
           have Hb4 := Lib.hid hb4
           have hz2 := hb4.size
           have H22 := Lib.hid (H21.out.fr (Fr.of_below (M := NoB) hb4) (fun k hk => ⟨Nat.lt_of_lt_of_le hk hz1, id⟩))
           clear hb4)
        | (at_builtin
           refine append_bytes rfl (.tmp 50) (.tmp 51) rfl w1.heap.size A4 (n1 + 9) c4 _ rfl hown4 A2 n2 c2 more rfl L2.out H22.out.rd (by have := Bd.out; omega) hz2 ?_
           intro A5 c5 w3 hown5 hg5 hat5
           have hb5 : Hid (Below w1.heap.size w1 w3) := Hb4.out.grown hg5 hz2 (fun j hj => (hown4.lt j hj).1)
           have hz3 := hb5.out.size
           have Ho5 := Lib.hid hown5
           have HS5 := Lib.hid (HS3.out.below hb5.out HS3.out.pos)
           clear hown4 hg5 hat5 hown5)
        | (go_at_call 20
           (with_reducible refine (Get_any HS5.out (Sl.of_own Ho5.out) (fun k hk => hk.2.1) (by have := Bd.out; omega) _ hg1.out).mono ?_)
           rintro e w4 ⟨A6, n6, c6, rfl, hown6, hb6⟩
           have Hb6 : Hid (Below w1.heap.size w1 w4) := hb5.out.trans (hb6.mono hz3)
           have Ho6 := Lib.hid hown6
           have hn6 : n6 = n1 := by have h := hown6.1; rw [bs_length, L1.out] at h; omega
           subst hn6
           clear hown6 hb6
           unfold gotV)
        | (go_at_call 15
           refine (Same_at (w := w4.alloc _) ((Sl.of_own Ho6.out).fr (Fr.alloc (Fr.refl NoB _) _) (fun k hk => ⟨hk.2.1, id⟩)) ((H11.out.fr (Fr.of_below (M := NoB) Hb6.out) (fun k hk => ⟨Nat.lt_of_lt_of_le hk hz1, id⟩)).fr (Fr.alloc (Fr.refl NoB _) _) (fun k hk => ⟨Nat.lt_of_lt_of_le hk (Nat.le_trans hz1 Hb6.out.size), id⟩)) (by have := Bd.out; omega) (by have := Bd.out; omega) true (by simp)).mono ?_
           rintro e w5 ⟨rfl, m5, hw5⟩
           have Hb7 : Hid (Below w1.heap.size w1 w5) := by rw [hw5]; exact below_drewN (Hb6.out.alloc Hb6.out.size _) m5
           clear hw5)
        | (go_at_call 22
           refine (Pick_any cut ((n6 + 9 : Nat) : Int) w5 (by have := Bd.out; omega)).mono ?_
           rintro e w' ⟨rfl, rfl⟩
           rw [hpk.out]))
      have s7 : Sl w5 (fun k => w.heap.size ≤ k ∧ k < w1.heap.size ∧ (Value.slice A3 (n6 + 9) c3).ownBlock = some k) A3 p c3 ((frameB (UInt8.ofNat kn) body).take p) :=
        Sl.take_ (l' := (frameB (UInt8.ofNat kn) body).drop p) (by rw [List.take_append_drop]; exact sb.out.fr (Fr.of_below (M := NoB) Hb7.out) (fun k hk => ⟨hk.2.1, id⟩)) (by rw [List.length_take, hfl.out]; have := Hpl.out; omega)
      have hz7 := Hb7.out.size
      have HS7 := Lib.hid (HS3.out.below Hb7.out HS3.out.pos)
      refine (Get_any HS7.out s7 (fun k hk => Nat.lt_of_lt_of_le hk.2.1 hz7) (by have := Bd.out; have := Hpl.out; omega) _ hg2.out).mono ?_
      rintro e w6 ⟨A8, n8, c8, rfl, hown8, hb8⟩
      have Hb8 := Lib.hid hb8
      have HS8 := Lib.hid (HS7.out.below hb8 HS7.out.pos)
      clear hown8 hb8 s7
      unfold gotV
      go_wp2_with (go_at_call 11
                   (with_reducible refine (works_any w6 HS8.out).mono ?_)
                   rintro e w9 ⟨rfl, hb9⟩)
      go_ret
      exact ⟨rfl, ((Hb3.out.trans (Hb7.out.mono hz1)).trans (Hb8.out.mono (Nat.le_trans hz1 hz7))).trans (hb9.mono (Nat.le_trans (Nat.le_trans hz1 hz7) Hb8.out.size))⟩
end Go.Proofs.YtmdnlgfngpgfnaaDoor
