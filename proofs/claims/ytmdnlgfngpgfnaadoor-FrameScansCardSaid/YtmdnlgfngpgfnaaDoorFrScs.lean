/- FrameScans' walk. -/
import Derived.Test.YtmdnlgfngpgfnaaDoorFrSc6
import Derived.Test.YtmdnlgfngpgfnaaDoorFrSame
namespace Go.Proofs.YtmdnlgfngpgfnaaDoor
open Go.RowKit

/-- a slice of frames that was handed in -/
structure FmSl (w : World) (F : Nat → Prop) (A : Option Addr) (n c : Nat) (l : List (Int × List UInt8)) : Prop where
  len : l.length = n
  cap : n ≤ c
  at_ : ∀ i (h : i < l.length), ∃ g o B m d, A = some ⟨g, o, none⟩ ∧ F g ∧ w.cell? ⟨g, o + i * 2, none⟩ = some (.int .i64 l[i].1) ∧ w.cell? ⟨g, o + i * 2 + 1, none⟩ = some (.slice B m d) ∧ Sl w F B m d l[i].2
theorem FmSl.fr {w w' : World} {F M : Nat → Prop} {A : Option Addr} {n c : Nat} {l : List (Int × List UInt8)} (h : FmSl w F A n c l) (hf : Fr M w w') (hF : ∀ k, F k → k < w.heap.size ∧ ¬ M k) : FmSl w' F A n c l :=
  ⟨h.len, h.cap, fun i hi => by
    obtain ⟨g, o, B, m, d, e, hg, h1, h2, h3⟩ := h.at_ i hi
    refine ⟨g, o, B, m, d, e, hg, ?_, ?_, h3.fr hf hF⟩
    · rw [World.cell?_of_block (w := w) (hf.block g (hF g hg).1 (hF g hg).2)]; exact h1
    · rw [World.cell?_of_block (w := w) (hf.block g (hF g hg).1 (hF g hg).2)]; exact h2⟩

theorem own_types {w : World} {b1 b2 e1 e2 s1 s2 n1 n2 : Nat} {v1 v2 : Value} {x1 x2 : List Value} (h1 : w.ownsRow b1 e1 s1 v1 n1 x1) (h2 : w.ownsRow b2 e2 s2 v2 n2 x2) (he : e1 ≠ e2) (j : Nat) (k1 : v1.ownBlock = some j) (k2 : v2.ownBlock = some j) : False := by
  rcases h1.2 with ⟨rfl, _⟩ | ⟨g, cap, cur, rfl, _, hg, _⟩
  · cases k1
  · rcases h2.2 with ⟨rfl, _⟩ | ⟨g', cap', cur', rfl, _, hg', _⟩
    · cases k2
    · injection k1 with k1
      injection k2 with k2
      simp only at k1 k2
      subst k1 k2
      rw [hg] at hg'
      injection hg' with hg'
      injection hg' with _ e _
      exact he e
def kOf (k : Int) : Nat := 1 + (k % 255).toNat
theorem kOf_lt (k : Int) : 1 ≤ kOf k ∧ kOf k ≤ 255 := by unfold kOf; omega
theorem kOf_eq (k : Int) : 1 + (if (255 : Int) < 1 then 0 else k % 255) = (kOf k : Int) := by rw [if_neg (by decide)]; unfold kOf; omega
def putF (l : List (Int × List UInt8)) : List (UInt8 × List UInt8) := l.map fun f => (UInt8.ofNat (kOf f.1), f.2)
theorem putF_good {l : List (Int × List UInt8)} (h : ∀ f ∈ l, f.2.length ≤ 512) : GoodF (putF l) := fun f hf => by
  simp only [putF, List.mem_map] at hf
  obtain ⟨g, hg, rfl⟩ := hf
  have h1 := h g hg
  have h2 := kOf_lt g.1
  refine ⟨fun e => ?_, by show g.2.length ≤ _; omega⟩
  have := congrArg UInt8.toNat e
  simp only at this
  rw [UInt8.toNat_ofNat', Nat.mod_eq_of_lt (by simp; omega)] at this
  simp at this; omega
/-- where they end -/
def endF (l : List (Int × List UInt8)) (k : Nat) : Nat := (catF ((putF l).take k)).length
def intv (n : Nat) : Value := .int .i64 (n : Int)
theorem putF_take_succ (l : List (Int × List UInt8)) {k : Nat} (h : k < l.length) : (putF l).take (k + 1) = (putF l).take k ++ [(UInt8.ofNat (kOf l[k].1), l[k].2)] := by
  rw [List.take_succ_eq_append_getElem (by simpa [putF] using h)]
  simp [putF]
theorem endF_succ (l : List (Int × List UInt8)) {k : Nat} (h : k < l.length) : endF l (k + 1) = endF l k + (l[k].2.length + 9) := by
  unfold endF
  rw [putF_take_succ l h, catF_append, List.length_append]
  simp [catF, frameB_len]
theorem endF_mono (l : List (Int × List UInt8)) : ∀ k, k ≤ l.length → (∀ f ∈ l, f.2.length ≤ 512) → endF l k ≤ 521 * k
  | 0, _, _ => by simp [endF, catF]
  | k + 1, h, hb => by
    rw [endF_succ l (by omega)]
    have := endF_mono l k (by omega) hb
    have := hb l[k] (List.getElem_mem _)
    omega

theorem Pick_q2 (v n : Int) (w : World) (h3 : n ≤ 9223372036854775807) (r : Int) (hr : (if n < 1 then 0 else v % n) = r) (m x : Nat) :
    Calls Tryd.prog 22 #[.int .i64 v, .int .i64 n] (w.drewN (m + x)) fun e w' => e = .returned (.int .i64 r) ∧ ∃ k, w' = w.drewN (m + k) := by
  subst hr
  exact (Pick_any v n _ h3).mono fun _ _ ⟨he, hw⟩ => ⟨he, x, hw.symm⟩
theorem Tryd.infoInt : (Tryd.prog.info? 3).map (fun i => (i.zero, i.size, i.bytes)) = some (some (.int .i64 0), 1, 8) := by kernel_rfl

attribute [local go_sem] yld yldUpon_value
set_option maxRecDepth 100000 in
set_option maxHeartbeats 4000000 in
theorem FrameScans_any (w : World) (hS : Steps w) (A0 : Option Addr) (n0 c0 : Nat) (l : List (Int × List UInt8)) (h0 : FmSl w (Old w) A0 n0 c0 l) (b0 : n0 ≤ 140737488355000)
    (A1 : Option Addr) (n1 c1 : Nat) (more : List UInt8) (h1 : Sl w (Old w) A1 n1 c1 more) (b1 : n1 ≤ 140737488355000) (cut : Int) (_ : (Lit.int .i64 cut).wf = true) :
    Calls Tryd.prog 8 #[.slice A0 n0 c0, .slice A1 n1 c1, .int .i64 cut] w fun e w' => e = .returned (.bool true) ∧ Below w.heap.size w w' := by
  have HS := Lib.hid hS; have H0 := Lib.hid h0; have H1 := Lib.hid h1; have L0 := Lib.hid h0.len; have L1 := Lib.hid h1.len
  have hpos := HS.out.pos
  clear hS h0 h1
  have hc : (30 < n0) ∨ (¬ 30 < n0 ∧ 512 < n1) ∨ (¬ 30 < n0 ∧ ¬ 512 < n1) := by omega
  rcases hc with q1 | ⟨q1, q2⟩ | ⟨q1, q2⟩
  · have q1I : (30 : Int) < (n0 : Int) := by omega
    go_enter Tryd.func8, Tryd.ntmps8
    go_wp2_with fail
    refine (works_any w HS.out).mono ?_
    rintro e w3 ⟨rfl, hb3⟩
    go_wp2_with fail
    go_ret
    exact ⟨rfl, hb3⟩
  · have q1I : decide ((30 : Int) < (n0 : Int)) = false := decide_eq_false (by omega)
    have q2I : (512 : Int) < (n1 : Int) := by omega
    go_enter Tryd.func8, Tryd.ntmps8
    go_wp2_with fail
    refine (works_any w HS.out).mono ?_
    rintro e w3 ⟨rfl, hb3⟩
    go_wp2_with fail
    go_ret
    exact ⟨rfl, hb3⟩
  · have q1I : decide ((30 : Int) < (n0 : Int)) = false := decide_eq_false (by omega)
    have q2I : decide ((512 : Int) < (n1 : Int)) = false := decide_eq_false (by omega)
    have Q1 := Lib.hid q1; have Q2 := Lib.hid q2
    obtain ⟨ii, hii, hiz0, hiz1, hiz2⟩ := info_parts Tryd.infoInt
    have Hii := Lib.hid hii; have Hz0 := Lib.hid hiz0; have Hz1 := Lib.hid hiz1; have Hz2 := Lib.hid hiz2
    clear hii hiz0 hiz1 hiz2
    go_enter Tryd.func8, Tryd.ntmps8
    go_wp2_with fail
    clear q1I q2I
    have he0 : Hid ((w.alloc (.cells #[.int .i64 0] 3)).ownsRow w.heap.size 3 1 (.slice (some ⟨w.heap.size, 0, none⟩) 1 1) 1 ((List.range 1).map fun i => intv (endF l i))) := by
      have e : ((List.range 1).map fun i => intv (endF l i)) = [.int .i64 0] := by simp [List.range_succ, intv, endF, catF]
      rw [e]
      exact ⟨rfl, .inr ⟨w.heap.size, 1, #[.int .i64 0], rfl, Nat.le_refl _, heap_alloc_new w _, Nat.le_refl _, by decide, rfl, rfl⟩⟩
    have hb0 : Hid (Below w.heap.size w (w.alloc (.cells #[.int .i64 0] 3))) := (Below.refl _ _).alloc (Nat.le_refl _) _
    go_loopw [7, 8, 9] (fun v e i w' => ∃ (k : Nat) (A : Option Addr) (c : Nat) (Ae : Option Addr) (ce : Nat), k ≤ n0 ∧ i = .int .i64 (k : Nat) ∧ v = .slice A (endF l k) c ∧ e = .slice Ae (k + 1) ce ∧
        Hid (w'.ownsRow w.heap.size 5 1 (.slice A (endF l k) c) (endF l k) (bs (catF ((putF l).take k)))) ∧ Hid (w'.ownsRow w.heap.size 3 1 (.slice Ae (k + 1) ce) (k + 1) ((List.range (k + 1)).map fun i => intv (endF l i))) ∧
        Hid (∀ i, (hi : i < l.length) → i < k → l[i].2.length ≤ 512) ∧ Hid (Below w.heap.size w w')) (fun _ _ i _ => n0 - (intOf i).toNat)
    case atStart => exact ⟨0, none, 0, _, 1, Nat.zero_le _, rfl, rfl, rfl, World.ownsRow_nil _ _ _ _, he0.out, fun i _ h => by omega, hb0.out⟩
    case round =>
      obtain ⟨k, A, c, Ae, ce, hk, rfl, rfl, rfl, Ho, Hoe, Hbd, hbr⟩ := hrel
      have hzr := hbr.out.size
      have HSr := Lib.hid (HS.out.below hbr.out hpos)
      have H0r := Lib.hid (H0.out.fr (Fr.of_below (M := NoB) hbr.out) (fun k hk => ⟨hk, id⟩))
      by_cases hlt : k < n0
      · have hkl : k < l.length := by have := L0.out; omega
        have hkI : (k : Int) < (n0 : Int) := by omega
        have hk0 : (0 : Int) ≤ (k : Int) := by omega
        obtain ⟨g, o, B, m, d, rfl, hg, hca, hcb, hsb⟩ := H0r.out.at_ k hkl
        have hSl := Lib.hid hsb
        have hml := Lib.hid hsb.len
        have hS0 : Hid (wr.drew.cell? ⟨g, o + k * 2, none⟩ = some (.int .i64 l[k].1) ∧ wr.drew.cell? ⟨g, o + k * 2 + 1, none⟩ = some (.slice B m d)) := ⟨hca, hcb⟩
        have Hes := Lib.hid (endF_succ l hkl)
        have Hps := Lib.hid (putF_take_succ l hkl)
        clear hca hsb
        by_cases hm : 512 < m
        · have hmI : (512 : Int) < (m : Int) := by omega
          go_wp2_with fail
          refine (works_any wr HSr.out).mono ?_
          rintro e w3 ⟨rfl, hb3⟩
          go_wp2_with fail
          go_ret
          exact ⟨rfl, hbr.out.trans (hb3.mono hzr)⟩
        · have hmI : ¬ (512 : Int) < (m : Int) := by omega
          have hM := Lib.hid hm
          have hkk := kOf_lt l[k].1
          have hpick := Lib.hid (kOf_eq l[k].1)
          generalize hl : l[k] = f at *
          obtain ⟨fk, fb⟩ := f
          have Hl := Lib.hid hl
          simp only at hkk
          obtain ⟨P, hP⟩ : ∃ P, kOf fk = 1 + P := ⟨kOf fk - 1, by omega⟩
          have hpk : Hid ((if (255 : Int) < 1 then 0 else fk % 255) = (P : Int)) := by have := hpick.out; simp only at this; show _ = _; omega
          have hP254 : P ≤ 254 := by omega
          have hwP : IntKind.i64.wrap (1 + (P : Int)) = 1 + (P : Int) := by rw [IntKind.wrap_i64]; omega
          have hE : Hid (putE (1 + (P : Int)) m = 0) := by show _ = _; unfold putE; rw [if_neg (by omega), if_neg (by omega)]
          have hB : Hid (putB (1 + (P : Int)) fb = frameB (UInt8.ofNat (kOf fk)) fb) := by
            show _ = _
            unfold putB
            rw [hml.out, hE.out, if_pos rfl, show (1 + (P : Int)).toNat = kOf fk by omega]
          have hfl : Hid ((frameB (UInt8.ofNat (kOf fk)) fb).length = m + 9) := by show _ = _; rw [frameB_len, hml.out]
          have hlt1 := Lib.hid (World.block_lt_of_cell? _ _ hS0.out.1)
          have hlt2 := Lib.hid (World.block_lt_of_cell? _ _ hS0.out.2)
          have hem : Hid (endF l k ≤ 521 * k) := by
            have hh : ∀ j, j ≤ k → endF l j ≤ 521 * j := fun j => by
              induction j with
              | zero => intro _; simp [endF, catF]
              | succ j ih =>
                intro hj
                have h1 := ih (by omega)
                have h2 := Hbd.out j (by omega) (by omega)
                rw [endF_succ l (by omega)]; omega
            exact hh k (Nat.le_refl _)
          clear hl hm hkk hP hpick
          go_wp2_with fail
          clear hcb
          refine wp_region_os (fun _ w' => w'.cell? ⟨g, o + k * 2, none⟩ = some (.int .i64 fk) ∧ w'.cell? ⟨g, o + k * 2 + 1, none⟩ = some (.slice B m d))
            [4, 11] (.move 0 (.move 1 (.move 2 (.move 3 (.take 4 (.move 7 (.move 8 (.move 9 (.move 10 (.take 11 (.run 5 [4, 11] (.move 6 (.run 12 [4, 11] (.move 13 (.move 14 (.move 15 (.move 16 (.move 17 .done)))))))))))))))))) (by kernel_rfl) (by kernel_rfl) (fun _ _ _ _ _ h => h) ?_
          iterate 4 (
            refine os_move rfl rfl rfl (Nat.le_of_ble_eq_true rfl) ?_
            apply Exists.intro
            refine ⟨fun w' K hK => ?_, ?_⟩
            (focus
              go_simp
              exact hK))
          refine os_yld hS0.out rfl rfl rfl (Nat.le_of_ble_eq_true rfl) ?_
          apply Exists.intro
          refine ⟨fun w' hS' K hK => ?_, ?_⟩
          (focus
            obtain ⟨q1, q2⟩ := hS'
            go_simp
            exact hK)
          iterate 4 (
            refine os_move rfl rfl rfl (Nat.le_of_ble_eq_true rfl) ?_
            apply Exists.intro
            refine ⟨fun w' K hK => ?_, ?_⟩
            (focus
              go_simp
              exact hK))
          refine os_yld hS0.out rfl rfl rfl (Nat.le_of_ble_eq_true rfl) ?_
          apply Exists.intro
          refine ⟨fun w' hS' K hK => ?_, ?_⟩
          (focus
            obtain ⟨q1, q2⟩ := hS'
            go_simp
            exact hK)
          refine os_run rfl rfl (fun K hK => ?_)
          go_wp2_with fail
          refine (Pick_any fk 255 wr.drew (by omega)).mono ?_
          rintro e w' ⟨rfl, rfl⟩
          rw [hpk.out]
          refine hK _ _ ⟨fun _ _ h => h, ?_⟩
          clear hK
          iterate 1 (
            refine os_move rfl rfl rfl (Nat.le_of_ble_eq_true rfl) ?_
            apply Exists.intro
            refine ⟨fun w' K hK => ?_, ?_⟩
            (focus
              go_simp
              exact hK))
          refine os_run rfl rfl (fun K hK => ?_)
          go_wp2_with fail
          refine (Put_any (w := wr.drew) (HSr.out.fr ((Fr.refl NoB wr).drew) id) (1 + (P : Int)) (hSl.out.fr ((Fr.refl NoB wr).drew) (fun j hj => ⟨Nat.lt_of_lt_of_le hj hzr, id⟩)) (fun j hj => Nat.lt_of_lt_of_le hj hzr) (by have := hM.out; omega)).mono ?_
          rintro e w5 ⟨A5, n5, c5, rfl, hown5, hb5⟩
          rw [hE.out]
          rw [hB.out] at hown5
          have hn5 : n5 = m + 9 := by have h := hown5.1; rw [bs_length, hfl.out] at h; omega
          subst hn5
          have Hb5 : Hid (Below wr.heap.size wr w5) := ⟨hb5.os, hb5.tape, hb5.output, hb5.size, hb5.block⟩
          have Ho5 := Lib.hid hown5
          have hz5 := Hb5.out.size
          refine hK _ _ ⟨fun _ _ h => ⟨(hb5.cell hlt1.out).trans h.1, (hb5.cell hlt2.out).trans h.2⟩, ?_⟩
          clear hK hown5 hb5
          iterate 5 (
            refine os_move rfl rfl rfl (Nat.le_of_ble_eq_true rfl) ?_
            apply Exists.intro
            refine ⟨fun w' K hK => ?_, ?_⟩
            (focus
              go_simp
              exact hK))
          refine os_done ?_
          have hO : Hid (w5.ownsRow w.heap.size 5 1 (.slice A (endF l k) c) (endF l k) (bs (catF ((putF l).take k)))) := own_fr Ho.out (Fr.of_below (M := NoB) Hb5.out) (fun _ _ h => h)
          have hOe : Hid (w5.ownsRow w.heap.size 3 1 (.slice Ae (k + 1) ce) (k + 1) ((List.range (k + 1)).map fun i => intv (endF l i))) := own_fr Hoe.out (Fr.of_below (M := NoB) Hb5.out) (fun _ _ h => h)
          have hcat : Hid (catF ((putF l).take (k + 1)) = catF ((putF l).take k) ++ frameB (UInt8.ofNat (kOf fk)) fb ∧ endF l (k + 1) = endF l k + (m + 9)) := ⟨by rw [Hps.out, catF_append]; simp [catF], by rw [Hes.out, hml.out]⟩
          have hk30 : Hid (k ≤ 30) := by have := Q1.out; show k ≤ 30; omega
          have hm512 : Hid (m ≤ 512) := by have := hM.out; show m ≤ 512; omega
          clear hwP
          go_wp2_with (first
            | (at_builtin
               refine append_bytes rfl (.tmp 56) (.tmp 57) rfl w.heap.size A (endF l k) c _ rfl hO.out A5 (m + 9) c5 _ rfl hfl.out (Sl.of_own Ho5.out).rd (by have := hem.out; have := hm512.out; have := hk30.out; omega) (by omega) ?_
               intro A6 c6 w6 hown6 hg6 hat6
               have Hb6 : Hid (Below w.heap.size w w6) := (hbr.out.trans (Hb5.out.mono hzr)).grown hg6 (by omega) (fun j hj => (hO.out.lt j hj).1)
               have hz6 := hg6.size
               have Ho6 : Hid (w6.ownsRow w.heap.size 5 1 (.slice A6 (endF l k + (m + 9)) c6) (endF l k + (m + 9)) (bs (catF ((putF l).take k) ++ frameB (UInt8.ofNat (kOf fk)) fb))) := hown6
               have Hoe6 : Hid (w6.ownsRow w.heap.size 3 1 (.slice Ae (k + 1) ce) (k + 1) ((List.range (k + 1)).map fun i => intv (endF l i))) := own_fr hOe.out (Fr.of_grown hg6) (fun j hj e => own_types hO.out hOe.out (by decide) j e.symm hj)
               clear hown6 hg6 hat6)
            | (at_builtin
               refine wpList_append_own _ rfl (.tmp 59) (.tmp 62) 48 rfl w.heap.size 3 ii (.int .i64 0) 1 8 Tryd.underlying48 Hii.out Hz0.out Hz1.out Hz2.out rfl (by decide) _ _ _ rfl (Hoe6.out.alloc _) ⟨w6.heap.size, 0, none⟩ 1 1 [intv (endF l k + (m + 9))] rfl rfl (new_one _ _ _) (one_oneCell _ _) (by have := hk30.out; simp only [maxLen]; omega) (by have := hk30.out; omega) (by have := Hb6.out.size; simp; omega) ?_
               intro v' w7 hown7 hg7 _
               obtain ⟨A7, c7, rfl⟩ := own_slice hown7))
          have Hg7 : Hid ((w6.alloc (.cells #[intv (endF l k + (m + 9))] 3)).grownBy w7 (Value.slice Ae (k + 1) ce).ownBlock) := hg7
          have Ho7 := Lib.hid hown7
          clear hg7 hown7
          go_roundw
          case rel =>
            have hF67 : Fr (fun j => some j = (Value.slice Ae (k + 1) ce).ownBlock) w6 w7 := ((Fr.refl _ _).alloc _).trans (Fr.of_grown Hg7.out) (fun _ _ h => h)
            refine ⟨k + 1, A6, c6, A7, c7, by omega, by go_num, by rw [hcat.out.2], rfl, ?_, ?_, ?_, ?_⟩
            · show World.ownsRow _ _ _ _ _ _ _
              rw [hcat.out.2, hcat.out.1]
              exact own_fr Ho6.out hF67 (fun j hj e => own_types Ho6.out Hoe6.out (by decide) j hj e.symm)
            · show World.ownsRow _ _ _ _ _ _ _
              have e : (List.range (k + 1 + 1)).map (fun i => intv (endF l i)) = (List.range (k + 1)).map (fun i => intv (endF l i)) ++ [intv (endF l k + (m + 9))] := by
                rw [List.range_succ, List.map_append]; simp [hcat.out.2]
              rw [e]
              exact Ho7.out
            · intro i hi hik
              rcases Nat.lt_or_ge i k with h | h
              · exact Hbd.out i hi h
              · obtain rfl : i = k := by omega
                rw [Hl.out]
                show fb.length ≤ 512
                rw [hml.out]; exact hm512.out
            · exact Hb6.out.trans (Fr.to_below' hF67 (fun j hj e => by have := (Hoe6.out.lt j e.symm).1; omega) Hb6.out.size)
          case measure => simp [intOf]; omega
      · obtain rfl : k = n0 := by omega
        have hbl : Hid (∀ f ∈ l, f.2.length ≤ 512) := fun f hf => by
          obtain ⟨i, hi, rfl⟩ := List.getElem_of_mem hf
          exact Hbd.out i hi (by have := L0.out; omega)
        have hgood := Lib.hid (putF_good hbl.out)
        have hpl : Hid ((putF l).take k = putF l) := by show _ = _; rw [List.take_of_length_le (by simp [putF]; have := L0.out; omega)]
        have hplen : Hid ((putF l).length = k) := by show _ = _; simp [putF]; exact L0.out
        have hT : Hid (endF l k = (catF (putF l)).length ∧ endF l k ≤ 16000) := ⟨by unfold endF; rw [hpl.out], by have := endF_mono l k (by rw [L0.out]; exact Nat.le_refl _) hbl.out; have := Q1.out; omega⟩
        rw [hpl.out] at Ho
        have hsc := Lib.hid (scan_cat_len (putF l) more hgood.out)
        have hends : Hid (∀ i, i ≤ k → endF l i ≤ endF l k) := fun i hi => by
          unfold endF
          rw [hpl.out]
          have e : catF (putF l) = catF ((putF l).take i) ++ catF ((putF l).drop i) := by rw [← catF_append, List.take_append_drop]
          rw [e, List.length_append]; omega
        generalize hTT : endF l k = T at *
        have HTT := Lib.hid hTT
        clear hTT hlt hk
        have hT2 : T ≤ 16000 := hT.out.2
        have Sb := Lib.hid (Sl.of_own Ho.out)
        go_wp2_with (first
          | (go_at_call 21
             refine (CopyBytes_sl Sb.out (fun k hk => hk.2.1) (by omega)).mono ?_
             rintro e w2 ⟨A2, c2, rfl, hown2, hb2⟩
             have Hb2 := Lib.hid hb2
             have hz2 := hb2.size
             have H12 := Lib.hid (H1.out.fr (Fr.of_below (M := NoB) (hbr.out.trans (hb2.mono hzr))) (fun k hk => ⟨hk, id⟩))
             clear hb2)
          | (at_builtin
             refine append_bytes rfl (.tmp 66) (.tmp 67) rfl wr.heap.size A2 T c2 _ rfl hown2 A1 n1 c1 more rfl L1.out H12.out.rd (by omega) hz2 ?_
             intro A3 c3 w3 hown3 hg3 hat3
             have Hb3 : Hid (Below wr.heap.size wr w3) := Hb2.out.grown hg3 hz2 (fun j hj => (hown2.lt j hj).1)
             have Ho3 := Lib.hid hown3
             have hz3 := Hb3.out.size
             have HS3 := Lib.hid (HSr.out.below Hb3.out HSr.out.pos)
             clear hown3 hown2 hg3 hat3))
        refine (Scan_any HS3.out (Sl.of_own Ho3.out) (fun k hk => hk.2.1) (by omega)).mono ?_
        rintro e w4 ⟨A4, c4, cs4, D4, rfl, hown4, hfr4, hD4, hb4⟩
        have Ho4 := Lib.hid hown4; have Hf4 := Lib.hid hfr4; have Hb4 := Lib.hid hb4
        have hz4 := hb4.size
        obtain ⟨hm1, hm2, hm3, hm4⟩ := hsc.out
        have Hm4 := Lib.hid hm4
        have hm5 : Hid ((gotF (catF (putF l) ++ more)).length = (scanP (catF (putF l) ++ more)).length) := by show _ = _; simp [gotF]
        rw [hplen.out] at hm1
        rw [← hT.out.1] at hm2 hm3
        rw [L1.out] at hm3
        generalize (scanP (catF (putF l) ++ more)).length = N at *
        generalize atF (catF (putF l) ++ more) N = E at *
        have u1 : decide (N < k) = false := decide_eq_false (by omega)
        have u2 : decide (E < T) = false := decide_eq_false (by omega)
        have u3 : decide ((T : Int) + (n1 : Int) < (E : Int)) = false := decide_eq_false (by omega)
        have Hm1 := Lib.hid hm1
        clear hown4 hfr4 hD4 hb4 hm1 hm2 hm3 hm4
        go_wp2_with fail
        clear u1 u2 u3
        have Hbw4 : Hid (Below w.heap.size w w4) := (hbr.out.trans (Hb3.out.mono hzr)).trans (Hb4.out.mono (Nat.le_trans hzr hz3))
        have H04 := Lib.hid (H0.out.fr (Fr.of_below (M := NoB) Hbw4.out) (fun k hk => ⟨hk, id⟩))
        go_loopw [14] (fun i w' => ∃ j m : Nat, j ≤ k ∧ i = .int .i64 (j : Nat) ∧ w' = w4.drewN m) (fun i _ => k - (intOf i).toNat)
        case atStart => exact ⟨0, 0, Nat.zero_le _, rfl, rfl⟩
        case round =>
          obtain ⟨j, m, hj, rfl, rfl⟩ := hrel
          by_cases hlt : j < k
          · have hjl : j < l.length := by have := L0.out; omega
            have hjI : (j : Int) < (k : Int) := by omega
            have hj0 : (0 : Int) ≤ (j : Int) := by omega
            have hjN : (j : Int) < (N : Int) := by have := Hm1.out; omega
            obtain ⟨g, o, B, mm, d, rfl, hg, hca, hcb, hsb⟩ := H04.out.at_ j hjl
            have hgo := Hm4.out j (by rw [hplen.out]; exact hlt)
            have hpf : (putF l)[j]'(by rw [hplen.out]; exact hlt) = (UInt8.ofNat (kOf l[j].1), l[j].2) := by simp [putF]
            rw [hpf] at hgo
            have hjg : j < (gotF (catF (putF l) ++ more)).length := by rw [hm5.out]; have := Hm1.out; omega
            obtain ⟨B2, m2, d2, k1, k2, k3, _⟩ := Hf4.out.get j hjg
            rw [List.getElem?_eq_getElem hjg] at hgo
            injection hgo with hgo
            rw [hgo] at k1 k3
            have hkk := kOf_lt l[j].1
            have hpick := kOf_eq l[j].1
            have hb512 := hbl.out l[j] (List.getElem_mem hjl)
            generalize l[j] = f at *
            obtain ⟨fk, fb⟩ := f
            simp only at hkk k1 k3 hca hsb hpick hb512
            obtain ⟨x4, cap4, hv4, _, _⟩ := Ho4.out.form (by omega)
            injection hv4 with e1 _ e2
            subst e1 e2
            obtain ⟨P, hP⟩ : ∃ P, kOf fk = 1 + P := ⟨kOf fk - 1, by omega⟩
            have hpk : Hid ((if (255 : Int) < 1 then 0 else fk % 255) = (P : Int)) := by show _ = _; omega
            have hun : (UInt8.ofNat (kOf fk)).toNat = 1 + P := by rw [UInt8.toNat_ofNat', Nat.mod_eq_of_lt (by simp; omega), hP]
            have hP254 : P ≤ 254 := by omega
            have hwP : IntKind.i64.wrap (1 + (P : Int)) = 1 + (P : Int) := by rw [IntKind.wrap_i64]; omega
            have hkq : (((1 + (P : Int))) != (1 + (P : Int))) = false := by simp
            have q1 : w4.cell? ⟨x4, j * 2, none⟩ = some (.int .i64 (1 + (P : Int))) := by
              rw [Ho4.out.cellAt (j * 2) (by have := Hm1.out; omega), Nat.mul_comm, k1, hun]
              rw [show ((1 + P : Nat) : Int) = 1 + (P : Int) by omega]
            have q2 : w4.cell? ⟨x4, j * 2 + 1, none⟩ = some (.slice B2 m2 d2) := by rw [Ho4.out.cellAt (j * 2 + 1) (by have := Hm1.out; omega), Nat.mul_comm]; exact k2
            have s1 := Lib.hid (Sl.of_own k3)
            have s2 := Lib.hid hsb
            have hm1 : Hid (m2 ≤ 9223372036854775807 ∧ mm ≤ 9223372036854775807) := by have := s1.out.len; have := s2.out.len; exact ⟨by omega, by omega⟩
            clear k1 k2 k3 hgo hpf hkk hpick hP hun hsb hb512
            go_wp2_with fail
            go_quiet (first
              | (go_at_call 22; exact Pick_q2 fk 255 w4 (by omega) _ hpk.out _ _)
              | (go_at_call 15; exact Same_q2 s1.out s2.out hm1.out.1 hm1.out.2 true (by simp) _ _))
            go_wp2_with fail
            go_roundw
            case rel => exact ⟨j + 1, m + nq, by omega, by go_num, rfl⟩
            case measure => simp [intOf]; omega
          · obtain rfl : j = k := by omega
            have Hbr5 : Hid (Below wr.heap.size wr (w4.drewN m)) := below_drewN (Hb3.out.trans (Hb4.out.mono hz3)) m
            have hjT : Hid (endF l j = T) := HTT
            generalize w4.drewN m = w5 at *
            have hz5 := Hbr5.out.size
            have Ho5 := Lib.hid (own_fr Ho.out (Fr.of_below (M := NoB) Hbr5.out) (fun _ _ h => h))
            have Hoe5 := Lib.hid (own_fr Hoe.out (Fr.of_below (M := NoB) Hbr5.out) (fun _ _ h => h))
            have Hb05 : Hid (Below w.heap.size w w5) := hbr.out.trans (Hbr5.out.mono hzr)
            have HS5 := Lib.hid (HS.out.below Hb05.out hpos)
            obtain ⟨C, hC, hCT⟩ : ∃ C : Nat, (if (T : Int) + 1 < 1 then 0 else cut % ((T : Int) + 1)) = (C : Int) ∧ C ≤ T := ⟨(cut % ((T : Int) + 1)).toNat, by
              rw [if_neg (by omega)]
              have g1 := Int.emod_nonneg cut (show ((T : Int) + 1) ≠ 0 by omega)
              have g2 := Int.emod_lt_of_pos cut (show (0 : Int) < (T : Int) + 1 by omega)
              omega⟩
            have HC := Lib.hid hC
            have HCT := Lib.hid hCT
            obtain ⟨ge, cape, hve, _, _⟩ := Hoe5.out.form (by omega)
            injection hve with e1 _ e2
            subst e1 e2
            have hce : Hid (∀ q, q ≤ j → w5.cell? ⟨ge, q, none⟩ = some (.int .i64 (endF l q : Nat))) := fun q hq => by
              rw [Hoe5.out.cellAt q (by omega), List.getElem?_map, List.getElem?_range (by omega)]; rfl
            have hcapT : Hid (T ≤ c) := Sb.out.cap
            clear hlt hC
            go_wp2_with fail
            refine (Pick_any cut ((T : Int) + 1) w5 (by omega)).mono ?_
            rintro e w' ⟨rfl, rfl⟩
            rw [HC.out]
            go_wp2_with fail
            go_loopw [15] (fun i w' => ∃ q : Nat, q ≤ j ∧ i = .int .i64 (q : Nat) ∧ Hid (endF l q ≤ C) ∧ w5 = w') (fun i _ => j - (intOf i).toNat)
            case atStart => exact ⟨0, Nat.zero_le _, rfl, by show _ ≤ _; simp [endF, catF], rfl⟩
            case round =>
              obtain ⟨q, hq, rfl, hqC, rfl⟩ := hrel
              have hq0 : (0 : Int) ≤ (q : Int) := by omega
              have hj30 : j ≤ 30 := by have := Q1.out; omega
              by_cases hgo : q < j ∧ endF l (q + 1) ≤ C
              · obtain ⟨hqj, hqe⟩ := hgo
                have t1 : decide ((q : Int) + 1 < (j : Int) + 1) = true := decide_eq_true (by omega)
                have t2 : (q : Int) + 1 < (j : Int) + 1 := by omega
                have hcq := hce.out (q + 1) (by omega)
                have Hqe := Lib.hid hqe
                obtain ⟨en, hen⟩ : ∃ en, endF l (q + 1) = en := ⟨_, rfl⟩
                rw [hen] at hcq hqe
                clear hen
                have t3 : (en : Int) ≤ (C : Int) := by omega
                go_wp2_with fail
                go_roundw
                case rel => exact ⟨q + 1, by omega, by go_num, Hqe.out, trivial⟩
                case measure => simp [intOf]; omega
              · have hqC2 := hqC.out
                have hcut := scan_cut (putF l) hgood.out C q (by rw [hplen.out]; exact hq) hqC2 (by rw [← hT.out.1]; exact HCT.out) (by
                  rw [hplen.out]
                  by_cases hqj : q < j
                  · right
                    have : ¬ endF l (q + 1) ≤ C := fun h => hgo ⟨hqj, h⟩
                    unfold endF at this; omega
                  · left; omega)
                have Hcut : Hid ((scanP ((catF (putF l)).take C)).length = q ∧ atF ((catF (putF l)).take C) (scanP ((catF (putF l)).take C)).length = endF l q) := hcut
                have hex : (q = j) ∨ (q < j ∧ ¬ endF l (q + 1) ≤ C) := by
                  by_cases hqj : q < j
                  · right; exact ⟨hqj, fun h => hgo ⟨hqj, h⟩⟩
                  · left; omega
                have SC : Hid (Sl w5 (fun k => w.heap.size ≤ k ∧ k < wr.heap.size ∧ (Value.slice A T c).ownBlock = some k) A C c ((catF (putF l)).take C)) :=
                  Sl.take_ (l' := (catF (putF l)).drop C) (by rw [List.take_append_drop]; exact Sb.out.fr (Fr.of_below (M := NoB) Hbr5.out) (fun k hk => ⟨hk.2.1, id⟩)) (by rw [List.length_take, ← hT.out.1]; have := HCT.out; omega)
                have hCc : (C : Int) ≤ (c : Int) := by have := hcapT.out; have := HCT.out; omega
                have hC16 : C ≤ 16000 := by omega
                have hcqq := Lib.hid (hce.out q hq)
                clear hgo hcut hqC2
                rcases hex with rfl | ⟨hqj, hqe⟩
                · go_wp2_with fail
                  refine (Scan_any HS5.out SC.out (fun k hk => Nat.lt_of_lt_of_le hk.2.1 hz5) (by omega)).mono ?_
                  rintro e w6 ⟨A6, c6, cs6, D6, rfl, hown6, hfr6, hD6, hb6⟩
                  rw [Hcut.out.2, Hcut.out.1]
                  have hq6 : w6.cell? ⟨ge, q, none⟩ = some (.int .i64 (endF l q : Nat)) := (hb6.cell (World.block_lt_of_cell? _ _ hcqq.out)).trans hcqq.out
                  have Hb6 := Lib.hid hb6
                  have hqI : (q : Int) < (q : Int) + 1 := by omega
                  clear hown6 hfr6 hD6 hb6
                  generalize endF l q = en2 at *
                  go_wp2_with fail
                  refine (works_any w6 (HS5.out.below Hb6.out HS5.out.pos)).mono ?_
                  rintro e w7 ⟨rfl, hb7⟩
                  go_wp2_with fail
                  go_ret
                  exact ⟨rfl, (Hb05.out.trans (Hb6.out.mono Hb05.out.size)).trans (hb7.mono (Nat.le_trans Hb05.out.size Hb6.out.size))⟩
                · have t1 : decide ((q : Int) + 1 < (j : Int) + 1) = true := decide_eq_true (by omega)
                  have t2 : (q : Int) + 1 < (j : Int) + 1 := by omega
                  have hcq := hce.out (q + 1) (by omega)
                  obtain ⟨en, hen⟩ : ∃ en, endF l (q + 1) = en := ⟨_, rfl⟩
                  rw [hen] at hcq hqe
                  clear hen
                  have t3 : ¬ (en : Int) ≤ (C : Int) := by omega
                  go_wp2_with fail
                  refine (Scan_any HS5.out SC.out (fun k hk => Nat.lt_of_lt_of_le hk.2.1 hz5) (by omega)).mono ?_
                  rintro e w6 ⟨A6, c6, cs6, D6, rfl, hown6, hfr6, hD6, hb6⟩
                  rw [Hcut.out.2, Hcut.out.1]
                  have hq6 : w6.cell? ⟨ge, q, none⟩ = some (.int .i64 (endF l q : Nat)) := (hb6.cell (World.block_lt_of_cell? _ _ hcqq.out)).trans hcqq.out
                  have Hb6 := Lib.hid hb6
                  have hqI : (q : Int) < (j : Int) + 1 := by omega
                  clear hown6 hfr6 hD6 hb6 t1 t3 hqe hcq
                  generalize endF l q = en2 at *
                  go_wp2_with fail
                  refine (works_any w6 (HS5.out.below Hb6.out HS5.out.pos)).mono ?_
                  rintro e w7 ⟨rfl, hb7⟩
                  go_wp2_with fail
                  go_ret
                  exact ⟨rfl, (Hb05.out.trans (Hb6.out.mono Hb05.out.size)).trans (hb7.mono (Nat.le_trans Hb05.out.size Hb6.out.size))⟩
end Go.Proofs.YtmdnlgfngpgfnaaDoor
