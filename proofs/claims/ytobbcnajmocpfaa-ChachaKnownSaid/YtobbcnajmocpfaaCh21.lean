/- ChachaXors' walk. -/
import Derived.Test.YtobbcnajmocpfaaCh20
import Derived.Test.YtobbcnajmocpfaaKit3
namespace Go.Proofs.Ytobbcnajmocpfaa
open Go.RowKit
attribute [local go_sem] yld yldUpon_value

/-- blocks from lo on, below hi -/
abbrev Iv (lo hi : Nat) : Nat → Prop := fun k => lo ≤ k ∧ k < hi
theorem Sl.bel {w w' : World} {lo hi : Nat} {A : Option Addr} {n c : Nat} {l : List UInt8} (h : Sl w (Iv lo hi) A n c l) (hb : Below w.heap.size w w') (hh : hi ≤ w.heap.size) : Sl w' (Iv lo hi) A n c l :=
  h.fr (Fr.of_below (M := NoB) hb) (fun _ hk => ⟨Nat.lt_of_lt_of_le hk.2 hh, id⟩)
theorem Sl.off {w w' : World} {lo hi a b : Nat} {A : Option Addr} {n c : Nat} {l : List UInt8} (h : Sl w (Iv lo hi) A n c l) (hf : Fr (Iv a b) w w') (hh : hi ≤ w.heap.size) (hd : hi ≤ a ∨ b ≤ lo) : Sl w' (Iv lo hi) A n c l :=
  h.fr hf (fun k hk => ⟨Nat.lt_of_lt_of_le hk.2 hh, fun e => by have := hk.1; have := hk.2; have := e.1; have := e.2; omega⟩)
theorem Sl.own_ {w w' : World} {A : Option Addr} {n c : Nat} {l : List UInt8} (h : w'.ownsRow w.heap.size 5 1 (.slice A n c) n (bs l)) : Sl w' (Iv w.heap.size w'.heap.size) A n c l :=
  (Sl.of_own h).mono (fun _ hk => ⟨hk.1, hk.2.1⟩)
theorem Sl.old {w : World} {A : Option Addr} {n c : Nat} {l : List UInt8} (h : Sl w (Old w) A n c l) : Sl w (Iv 0 w.heap.size) A n c l := h.mono (fun _ hk => ⟨Nat.zero_le _, hk⟩)
theorem Below.undr {w w' : World} (h : Below w.drew.heap.size w.drew w') : Below w.heap.size w w' := ⟨h.os, h.tape, h.output, h.size, h.block⟩
theorem Sl.dr {w : World} {F : Nat → Prop} {A : Option Addr} {n c : Nat} {l : List UInt8} (h : Sl w F A n c l) (k : Nat) : Sl (w.drewN k) F A n c l := ⟨h.len, h.cap, h.nil, h.foot, h.rd⟩
set_option maxRecDepth 100000 in
set_option maxHeartbeats 8000000 in
theorem ChachaXors_any (w : World) (key nonce : List UInt8) (ctr : BitVec 32) (hk : key.length = 32) (hn : nonce.length = 12) {A : Option Addr} {n c : Nat} {b : List UInt8} (hs : Sl w (Old w) A n c b) (hb : n ≤ 140737488355000) :
    Calls Try.prog 4 #[.agg (bs key).toArray, .int .u32 (wv ctr), .agg (bs nonce).toArray, .slice A n c] w fun e w' => e = .returned (.bool true) ∧ Below w.heap.size w w' := by
  have Hs := Lib.hid hs; have Hk := Lib.hid hk; have Hn := Lib.hid hn; have Hb := Lib.hid hb; have HL := Lib.hid hs.len
  have u1 := Lib.hid Try.underlying23
  have u2 := Lib.hid Try.underlying26
  have i1 : Hid ((Try.prog.info? 23).map (·.size) = some (bs key).length) := by rw [bs_length, hk]; exact Try.sizeK
  have i2 : Hid ((Try.prog.info? 26).map (·.size) = some (bs nonce).length) := by rw [bs_length, hn]; exact Try.sizeN
  clear hs hk hn hb
  have X2 := Lib.hid (RB.start w key nonce)
  by_cases hc : 8192 < n
  · have hcI : (8192 : Int) < (n : Int) := by omega
    go_enter Try.func4, Try.ntmps4
    go_wp2_with fail
    refine (works_any _).mono ?_
    rintro e w3 ⟨rfl, hb3⟩
    go_wp2_with fail
    go_ret
    exact ⟨rfl, X2.out.fr.trans (hb3.mono X2.out.fr.size)⟩
  · have hcI : decide ((8192 : Int) < (n : Int)) = false := decide_eq_false (by omega)
    have Hc := Lib.hid hc
    clear hc
    go_enter Try.func4, Try.ntmps4
    go_wp2_with fail
    generalize ((w.alloc (.cells (bs key).toArray 23)).alloc (.cells (bs nonce).toArray 26)) = w2 at X2 ⊢
    have s2 : Hid (Sl w2 (Iv 0 w.heap.size) A n c b) := Hs.out.old.bel X2.out.fr (Nat.le_refl _)
    refine (LentBytes_sl s2.out (fun k hk => Nat.lt_of_lt_of_le hk.2 X2.out.fr.size) (by have := Hc.out; omega)).mono ?_
    rintro e w3 ⟨g, cx, rfl, hown3, hb3⟩
    have X3 : Hid (RB w w3 key nonce) := X2.out.frm (Fr.of_below (M := NoB) hb3) (fun j e => e.elim)
    have o3 := Lib.hid hown3
    have sx := Sl.of_own hown3
    have hcxI : (n : Int) ≤ (cx : Int) := by have := sx.cap; omega
    have b3 : Hid (Sl w3 (Iv 0 w.heap.size) A n c b) := s2.out.bel hb3 X2.out.fr.size
    have x3 : Hid (Sl w3 (Iv w2.heap.size w3.heap.size) (some ⟨g, 0, none⟩) n cx b) := (Sl.take_ (m := n) sx HL.out).mono (fun k h => ⟨h.1, h.2.1⟩)
    have f3 : Hid (Sl w3 (Iv w2.heap.size w3.heap.size) (some ⟨g, 0, none⟩) (n + 5) cx (b ++ marks)) := sx.mono (fun k h => ⟨h.1, h.2.1⟩)
    have z23 := Lib.hid hb3.size
    clear hown3 hb3 sx s2
    go_wp2_with fail
    have k3 : Hid (w3.drew.rangeAt w.heap.size 0 (bs key)) := range_block X3.out.k
    have n3 : Hid (w3.drew.rangeAt (w.heap.size + 1) 0 (bs nonce)) := range_block X3.out.n
    have x3d : Hid (Sl w3.drew (Iv w2.heap.size w3.heap.size) (some ⟨g, 0, none⟩) n cx b) := x3.out.dr 1
    refine wp_calm ?_
    refine wp_region_os (fun i w' => match i with
      | 0 => w'.rangeAt w.heap.size 0 (bs key)
      | 2 => w'.rangeAt (w.heap.size + 1) 0 (bs nonce)
      | _ => True) [0, 2]
      (.take 0 (.move 1 (.take 2 (.move 3 (.move 4 (.move 5 (.move 6 (.run 7 [] (.move 8 .done))))))))) (by kernel_rfl) (by kernel_rfl) (fun _ _ _ _ _ h => nomatch h.1) ?_
    refine os_load_mid 23 (.tmp 4) w.heap.size 0 (bs key) _ k3.out rfl rfl rfl rfl rfl u1.out rfl i1.out (fun w' h => h) ⟨_, rfl, ?_⟩
    refine os_move rfl rfl rfl (Nat.le_of_ble_eq_true rfl) ?_
    apply Exists.intro
    refine ⟨fun w' K hK => ?_, ?_⟩
    (focus
      go_simp
      exact hK)
    refine os_load_mid 26 (.tmp 6) (w.heap.size + 1) 0 (bs nonce) _ n3.out rfl rfl rfl rfl rfl u2.out rfl i2.out (fun w' h => h) ⟨_, rfl, ?_⟩
    iterate 4 (
      refine os_move rfl rfl rfl (Nat.le_of_ble_eq_true rfl) ?_
      apply Exists.intro
      refine ⟨fun w' K hK => ?_, ?_⟩
      (focus
        go_simp
        exact hK))
    refine os_run rfl rfl (fun K hK => ?_)
    go_wp2_with fail
    refine (Xor_any w3.drew key nonce ctr Hk.out Hn.out x3d.out (fun k hk => hk.2) (by have := Hc.out; omega)).mono ?_
    rintro e w4 ⟨A4, c4, rfl, hown4, hb4⟩
    replace hb4 := Below.undr hb4
    have X4 : Hid (RB w w4 key nonce) := X3.out.frm (Fr.of_below (M := NoB) hb4) (fun j e => e.elim)
    have b4 : Hid (Sl w4 (Iv 0 w.heap.size) A n c b) := b3.out.bel hb4 X3.out.fr.size
    have x4 : Hid (Sl w4 (Iv w2.heap.size w3.heap.size) (some ⟨g, 0, none⟩) n cx b) := x3.out.bel hb4 (Nat.le_refl _)
    have f4 : Hid (Sl w4 (Iv w2.heap.size w3.heap.size) (some ⟨g, 0, none⟩) (n + 5) cx (b ++ marks)) := f3.out.bel hb4 (Nat.le_refl _)
    have o4 := Lib.hid hown4
    have z34 : Hid (w3.heap.size ≤ w4.heap.size) := hb4.size
    clear hown4 hb4 x3 f3 b3 k3 n3 x3d o3 X3
    go_wp2_with fail
    refine ⟨fun k hk => absurd hk List.not_mem_nil, ?_⟩
    refine os_move rfl rfl rfl (Nat.le_of_ble_eq_true rfl) ?_
    apply Exists.intro
    refine ⟨fun w' K hK => ?_, ?_⟩
    (focus
      go_simp
      exact hK)
    refine os_done ⟨rfl, ?_⟩
    go_wp2_with fail
    have k4 : Hid (w4.drew.rangeAt w.heap.size 0 (bs key)) := range_block X4.out.k
    have n4 : Hid (w4.drew.rangeAt (w.heap.size + 1) 0 (bs nonce)) := range_block X4.out.n
    have x4d : Hid (Sl w4.drew (Iv w2.heap.size w3.heap.size) (some ⟨g, 0, none⟩) n cx b) := x4.out.dr 1
    refine wp_calm ?_
    refine wp_region_os (fun i w' => match i with
      | 0 => w'.rangeAt w.heap.size 0 (bs key)
      | 2 => w'.rangeAt (w.heap.size + 1) 0 (bs nonce)
      | _ => True) [0, 2]
      (.take 0 (.move 1 (.take 2 (.move 3 (.move 4 (.move 5 (.move 6 (.run 7 [] (.move 8 .done))))))))) (by kernel_rfl) (by kernel_rfl) (fun _ _ _ _ _ h => nomatch h.1) ?_
    refine os_load_mid 23 (.tmp 4) w.heap.size 0 (bs key) _ k4.out rfl rfl rfl rfl rfl u1.out rfl i1.out (fun w' h => h) ⟨_, rfl, ?_⟩
    refine os_move rfl rfl rfl (Nat.le_of_ble_eq_true rfl) ?_
    apply Exists.intro
    refine ⟨fun w' K hK => ?_, ?_⟩
    (focus
      go_simp
      exact hK)
    refine os_load_mid 26 (.tmp 6) (w.heap.size + 1) 0 (bs nonce) _ n4.out rfl rfl rfl rfl rfl u2.out rfl i2.out (fun w' h => h) ⟨_, rfl, ?_⟩
    iterate 4 (
      refine os_move rfl rfl rfl (Nat.le_of_ble_eq_true rfl) ?_
      apply Exists.intro
      refine ⟨fun w' K hK => ?_, ?_⟩
      (focus
        go_simp
        exact hK))
    refine os_run rfl rfl (fun K hK => ?_)
    go_wp2_with fail
    refine (Xor_any w4.drew key nonce ctr Hk.out Hn.out x4d.out (fun k hk => Nat.lt_of_lt_of_le hk.2 z34.out) (by have := Hc.out; omega)).mono ?_
    rintro e w5 ⟨A5, c5, rfl, hown5, hb5⟩
    replace hb5 := Below.undr hb5
    have X5 : Hid (RB w w5 key nonce) := X4.out.frm (Fr.of_below (M := NoB) hb5) (fun j e => e.elim)
    have b5 : Hid (Sl w5 (Iv 0 w.heap.size) A n c b) := b4.out.bel hb5 X4.out.fr.size
    have f5 : Hid (Sl w5 (Iv w2.heap.size w3.heap.size) (some ⟨g, 0, none⟩) (n + 5) cx (b ++ marks)) := f4.out.bel hb5 z34.out
    have p5 : Hid (w5.ownsRow w3.heap.size 5 1 (.slice A4 n c4) n (bs (xorP key ctr nonce b))) := own_fr o4.out (Fr.of_below (M := NoB) hb5) (fun _ _ e => e)
    have o5 := Lib.hid hown5
    have z45 : Hid (w4.heap.size ≤ w5.heap.size) := hb5.size
    have lo4 : Hid (∀ j, (Value.slice A4 n c4).ownBlock = some j → w3.heap.size ≤ j ∧ j < w4.heap.size) := o4.out.lt
    have t5 : Hid (Sl w5 (Iv w4.heap.size w5.heap.size) A5 n c5 (xorP key ctr nonce b)) := Sl.own_ (w := w4) hown5
    have u5 : Hid (Sl w5 (Iv w3.heap.size w4.heap.size) A4 n c4 (xorP key ctr nonce b)) := (Sl.own_ (w := w3) o4.out).bel hb5 (Nat.le_refl _)
    clear hown5 hb5 x4 f4 b4 k4 n4 x4d o4 X4 o5
    go_wp2_with fail
    refine ⟨fun k hk => absurd hk List.not_mem_nil, ?_⟩
    refine os_move rfl rfl rfl (Nat.le_of_ble_eq_true rfl) ?_
    apply Exists.intro
    refine ⟨fun w' K hK => ?_, ?_⟩
    (focus
      go_simp
      exact hK)
    refine os_done ⟨rfl, ?_⟩
    have k5 : Hid (w5.rangeAt w.heap.size 0 (bs key)) := range_block X5.out.k
    have n5 : Hid (w5.rangeAt (w.heap.size + 1) 0 (bs nonce)) := range_block X5.out.n
    go_wp2_with (first
      | ((with_reducible refine lst_load_mid 23 (.tmp 4) rfl w.heap.size 0 rfl (bs key) _ k5.out u1.out rfl i1.out ?_ ?_)
         (focus rfl))
      | ((with_reducible refine lst_load_mid 26 (.tmp 6) rfl (w.heap.size + 1) 0 rfl (bs nonce) _ n5.out u2.out rfl i2.out ?_ ?_)
         (focus rfl)))
    refine (RefXor_any w5 key nonce ctr Hk.out Hn.out b5.out (fun k hk => Nat.lt_of_lt_of_le hk.2 X5.out.fr.size) (by have := Hc.out; omega)).mono ?_
    rintro e w6 ⟨A6, c6, rfl, hown6, hb6⟩
    have X6 : Hid (RB w w6 key nonce) := X5.out.frm (Fr.of_below (M := NoB) hb6) (fun j e => e.elim)
    have b6 : Hid (Sl w6 (Iv 0 w.heap.size) A n c b) := b5.out.bel hb6 X5.out.fr.size
    have f6 : Hid (Sl w6 (Iv w2.heap.size w3.heap.size) (some ⟨g, 0, none⟩) (n + 5) cx (b ++ marks)) := f5.out.bel hb6 (Nat.le_trans z34.out z45.out)
    have p6 : Hid (w6.ownsRow w3.heap.size 5 1 (.slice A4 n c4) n (bs (xorP key ctr nonce b))) := own_fr p5.out (Fr.of_below (M := NoB) hb6) (fun _ _ e => e)
    have t6 : Hid (Sl w6 (Iv w4.heap.size w5.heap.size) A5 n c5 (xorP key ctr nonce b)) := t5.out.bel hb6 (Nat.le_refl _)
    have u6 : Hid (Sl w6 (Iv w3.heap.size w4.heap.size) A4 n c4 (xorP key ctr nonce b)) := u5.out.bel hb6 z45.out
    have v6 : Hid (Sl w6 (Iv w5.heap.size w6.heap.size) A6 n c6 (xorP key ctr nonce b)) := Sl.own_ (w := w5) hown6
    have z56 := Lib.hid hb6.size
    clear hown6 hb6 b5 f5 p5 t5 u5 k5 n5 X5
    go_wp2_with fail
    refine (Same_at u6.out v6.out (by have := Hc.out; omega) (by have := Hc.out; omega) true (by simp)).mono ?_
    rintro e w7 ⟨rfl, x7, rfl⟩
    have p7 : Hid ((w6.drewN x7).ownsRow w3.heap.size 5 1 (.slice A4 n c4) n (bs (xorP key ctr nonce b))) := own_fr p6.out (Fr.drewN (Fr.refl NoB _) x7) (fun _ _ e => e)
    go_wp2_with fail
    refine (SpoilBytes_any w3.heap.size A4 n c4 n _ (w6.drewN x7) p7.out (Nat.le_refl _) (by have := Hc.out; omega)).mono ?_
    rintro e w8 ⟨rfl, hg8⟩
    have F8 : Hid (Fr (Iv w3.heap.size w4.heap.size) w6 w8) := (Fr.drewN (Fr.refl _ _) x7).trans ((Fr.of_grown hg8).mono (N := Iv w3.heap.size w4.heap.size) (fun i _ e => lo4.out i e.symm)) (fun _ _ e => e)
    have b8 : Hid (Sl w8 (Iv 0 w.heap.size) A n c b) := b6.out.off F8.out X6.out.fr.size (.inl (by have := X2.out.fr.size; have := z23.out; omega))
    have f8 : Hid (Sl w8 (Iv w2.heap.size w3.heap.size) (some ⟨g, 0, none⟩) (n + 5) cx (b ++ marks)) := f6.out.off F8.out (by have := z34.out; have := z45.out; have := z56.out; omega) (.inl (Nat.le_refl _))
    have t8 : Hid (Sl w8 (Iv w4.heap.size w5.heap.size) A5 n c5 (xorP key ctr nonce b)) := t6.out.off F8.out (by have := z56.out; omega) (.inr (Nat.le_refl _))
    have v8 : Hid (Sl w8 (Iv w5.heap.size w6.heap.size) A6 n c6 (xorP key ctr nonce b)) := v6.out.off F8.out (Nat.le_refl _) (.inr z45.out)
    have B8 : Hid (Below w.heap.size w w8) := ((Fr.of_below (M := Iv w3.heap.size w4.heap.size) X6.out.fr).trans F8.out (fun _ _ e => e)).to_below (fun i hi e => by have := e.1; have := X2.out.fr.size; have := z23.out; omega)
    have z68 := Lib.hid F8.out.size
    clear hg8 p7 F8 b6 f6 t6 v6 u6 p6 X6
    go_wp2_with fail
    refine (Same_at t8.out v8.out (by have := Hc.out; omega) (by have := Hc.out; omega) true (by simp)).mono ?_
    rintro e w9 ⟨rfl, x9, rfl⟩
    go_wp2_with fail
    refine (KeptBytes_sl (w := w8.drewN x9) (f8.out.dr x9) (fun k hk => Nat.lt_of_lt_of_le hk.2 (by have := z34.out; have := z45.out; have := z56.out; have := z68.out; show _ ≤ w8.heap.size; omega)) (b8.out.dr x9) (fun k hk => Nat.lt_of_lt_of_le hk.2 B8.out.size) (by have := Hc.out; omega)).mono ?_
    rintro e w10 ⟨rfl, hb10⟩
    go_wp2_with fail
    refine (works_any _).mono ?_
    rintro e w11 ⟨rfl, hb11⟩
    go_wp2_with fail
    go_ret
    exact ⟨rfl, (B8.out.trans ((below_drewN (Below.refl _ _) x9).mono B8.out.size)).trans ((hb10.mono B8.out.size).trans (hb11.mono (Nat.le_trans B8.out.size hb10.size)))⟩
theorem ChachaXorsW_any (w : World) (key : List UInt8) (hk : key.length = 32) (ctr : Int) (hc : (Lit.int .u32 ctr).wf = true) (nonce : List UInt8) (hn : nonce.length = 12) {A : Option Addr} {n c : Nat} {l : List UInt8} (hs : Sl w (Old w) A n c l) (hb : n ≤ 140737488355000) :
    Calls Try.prog 4 #[.agg (bs key).toArray, .int .u32 ctr, .agg (bs nonce).toArray, .slice A n c] w fun e w' => e = .returned (.bool true) ∧ Below w.heap.size w w' := by
  rw [word_of_wf hc]
  exact ChachaXors_any w key nonce _ hk hn hs hb
end Go.Proofs.Ytobbcnajmocpfaa
