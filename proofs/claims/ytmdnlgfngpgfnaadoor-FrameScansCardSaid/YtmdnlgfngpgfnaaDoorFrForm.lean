/- FrameForm's walk. -/
import Derived.Test.YtmdnlgfngpgfnaaDoorFrSc3
import Derived.Test.YtmdnlgfngpgfnaaDoorFrSc4
import Derived.Test.YtmdnlgfngpgfnaaDoorFr6
namespace Go.Proofs.YtmdnlgfngpgfnaaDoor
open Go.RowKit

theorem FrsAt.len {w : World} {D : Nat → Prop} : ∀ {fs cs}, FrsAt w D fs cs → cs.length = 2 * fs.length
  | [], cs, h => by have h : cs = [] := h; subst h; rfl
  | _ :: _, _, ⟨A, n, c, rest, h1, _, _, h4⟩ => by rw [h1, List.length_cons, List.length_cons, List.length_cons, h4.len]; omega
theorem FrsAt.get {w : World} {D : Nat → Prop} : ∀ {fs cs}, FrsAt w D fs cs → ∀ (k : Nat) (h : k < fs.length), ∃ A n c, cs[2 * k]? = some (.int .i64 fs[k].1) ∧ cs[2 * k + 1]? = some (.slice A n c) ∧ w.ownsRow 0 5 1 (.slice A n c) n (bs fs[k].2) ∧ ∀ j, (Value.slice A n c).ownBlock = some j → D j
  | [], _, _, _, h => by simp at h
  | _ :: _, _, ⟨A, n, c, rest, h1, h2, h3, _⟩, 0, _ => ⟨A, n, c, by rw [h1]; rfl, by rw [h1]; rfl, h2, h3⟩
  | _ :: fs, _, ⟨A, n, c, rest, h1, _, _, h4⟩, k + 1, h => by
    obtain ⟨A', n', c', g1, g2, g3, g4⟩ := h4.get k (by simpa using h)
    refine ⟨A', n', c', ?_, ?_, g3, g4⟩
    · rw [h1, show 2 * (k + 1) = 2 * k + 2 by omega]; simpa using g1
    · rw [h1, show 2 * (k + 1) + 1 = (2 * k + 1) + 2 by omega]; simpa using g2

attribute [local go_sem] yld yldUpon_value
set_option maxRecDepth 100000 in
set_option maxHeartbeats 2000000 in
theorem FrameForm_any (w : World) (hS : Steps w) (A1 : Option Addr) (n c1 : Nat) (l : List UInt8) (h1 : Sl w (Old w) A1 n c1 l) (b1 : n ≤ 140737488355000) :
    Calls Tryd.prog 9 #[.slice A1 n c1] w fun e w' => e = .returned (.bool true) ∧ Below w.heap.size w w' := by
  have HS := Lib.hid hS; have H1 := Lib.hid h1; have L1 := Lib.hid h1.len
  clear hS h1
  by_cases hlong : 8192 < n
  · have hI : (8192 : Int) < (n : Int) := by omega
    go_enter Tryd.func9, Tryd.ntmps9
    go_wp2_with fail
    refine (works_any w HS.out).mono ?_
    rintro e w3 ⟨rfl, hb3⟩
    go_wp2_with fail
    go_ret
    exact ⟨rfl, hb3⟩
  · have hI : ¬ (8192 : Int) < (n : Int) := by omega
    have hN1 := scan_len l
    have hN2 : (scanP l).length ≤ 1000 := by have := L1.out; omega
    have hat : Hid (atF l (scanP l).length ≤ n) := by have := (restF_drop l _ (Nat.le_refl _)).2; have := L1.out; show _ ≤ _; omega
    go_enter Tryd.func9, Tryd.ntmps9
    clear hN1 b1
    have HN2 := Lib.hid hN2
    go_wp2_with fail
    refine (Scan_any HS.out H1.out (fun k hk => hk) (by omega)).mono ?_
    rintro e w1 ⟨A3, c3, cells, D, rfl, hown3, hfr3, hD3, hb3⟩
    have Ho3 := Lib.hid hown3; have Hf3 := Lib.hid hfr3; have HD3 := Lib.hid hD3; have Hb3 := Lib.hid hb3
    have hz1 := hb3.size
    have HS1 := Lib.hid (HS.out.below hb3 HS.out.pos)
    clear hown3 hfr3 hD3 hb3
    have Hgl : Hid ((gotF l).length = (scanP l).length) := by show _ = _; simp [gotF]
    generalize hNN : (scanP l).length = N at *
    have HNN := Lib.hid hNN
    clear hNN
    go_wp2_with fail
    go_loopw [5, 6] (fun v i w' => ∃ (k : Nat) (A : Option Addr) (c : Nat), k ≤ N ∧ i = .int .i64 (k : Nat) ∧ v = .slice A (putsF l k).length c ∧ w'.ownsRow w1.heap.size 5 1 (.slice A (putsF l k).length c) (putsF l k).length (bs (putsF l k)) ∧ Hid (Below w1.heap.size w1 w')) (fun _ i _ => N - (intOf i).toNat)
    case atStart => exact ⟨0, none, 0, Nat.zero_le _, rfl, rfl, World.ownsRow_nil _ _ _ _, Below.refl _ _⟩
    case round =>
      obtain ⟨k, A, c, hk, rfl, rfl, hown, hbw⟩ := hrel
      have Hown := Lib.hid hown; clear hown
      by_cases hlt : k < N
      · have hkI : (k : Int) < (N : Int) := by omega
        have hk0 : (0 : Int) ≤ (k : Int) := by omega
        obtain ⟨A4, n4, c4, g1, g2, g3, g4⟩ := Hf3.out.get k (by rw [Hgl.out]; exact hlt)
        obtain ⟨g, cap, hv, hgb, hgg⟩ := Ho3.out.form (by omega)
        injection hv with hA1 _ hc1
        subst hA1 hc1
        have hkN : k < (scanP l).length := by rw [HNN.out]; exact hlt
        have hgf : (gotF l)[k]'(by rw [Hgl.out]; exact hlt) = ((scanP l)[k].k, (scanP l)[k].body) := by simp [gotF]
        rw [hgf] at g1 g3
        have hfit := getP_fit (restF l k) (by rw [(scan_at l hkN).1]; exact (scan_at l hkN).2)
        rw [(scan_at l hkN).1] at hfit
        have hps := putsF_succ l hkN
        generalize (scanP l)[k] = G at *
        obtain ⟨Ge, Gk, Gb, Gn⟩ := G
        simp only at hfit g1 g3 hps
        have hc1 : wr.cell? ⟨g, k * 2, none⟩ = some (.int .i64 Gk) := by
          rw [World.cell?_of_block (w := w1) (hbw.out.block g hgg), Ho3.out.cellAt (k * 2) (by omega), Nat.mul_comm]; exact g1
        have hc2 : wr.cell? ⟨g, k * 2 + 1, none⟩ = some (.slice A4 n4 c4) := by
          rw [World.cell?_of_block (w := w1) (hbw.out.block g hgg), Ho3.out.cellAt (k * 2 + 1) (by omega), Nat.mul_comm]; exact g2
        have hE : putE Gk n4 = 0 := by
          have := g3.1; rw [bs_length] at this
          unfold putE; rw [if_neg (by omega), if_neg (by omega)]
        have hB : putB Gk Gb = frameB (UInt8.ofNat Gk.toNat) Gb := by
          have := g3.1; rw [bs_length] at this
          unfold putB; rw [show Gb.length = n4 by omega, hE, if_pos rfl]
        have s4d : Hid (Sl wr.drew (fun j => j < w1.heap.size) A4 n4 c4 Gb) := ((Sl.of_own g3).mono (G := fun j => j < w1.heap.size) (fun k hk => hk.2.1)).fr ((Fr.of_below (M := NoB) hbw.out).drew) (fun k hk => ⟨hk, id⟩)
        have HN9 : Hid (n4 ≤ 2039) := by have := g3.1; rw [bs_length] at this; show _ ≤ _; omega
        have Hfit := Lib.hid hfit; have Hps := Lib.hid hps; have HE := Lib.hid hE; have HB := Lib.hid hB; have G3 := Lib.hid g3
        have Hc := Lib.hid (show wr.drew.cell? ⟨g, k * 2, none⟩ = some (.int .i64 Gk) ∧ wr.drew.cell? ⟨g, k * 2 + 1, none⟩ = some (.slice A4 n4 c4) from ⟨hc1, hc2⟩)
        have HSr : Hid (Steps wr.drew) := HS1.out.below (B := w1.heap.size) (w' := wr.drew) ⟨hbw.out.os, hbw.out.tape, hbw.out.output, hbw.out.size, hbw.out.block⟩ HS1.out.pos
        have hzr := hbw.out.size
        clear g1 g2 g3 g4 hgf hfit hps hE hB hc1 hc2
        go_wp2_with fail
        refine wp_region_os (fun i w' => match i with | 4 => w'.cell? ⟨g, k * 2, none⟩ = some (.int .i64 Gk) | 9 => w'.cell? ⟨g, k * 2 + 1, none⟩ = some (.slice A4 n4 c4) | _ => True)
          [4, 9] (.move 0 (.move 1 (.move 2 (.move 3 (.take 4 (.move 5 (.move 6 (.move 7 (.move 8 (.take 9 (.run 10 [] (.move 11 (.move 12 (.move 13 (.move 14 (.move 15 .done)))))))))))))))) (by kernel_rfl) (by kernel_rfl) (fun _ _ _ _ _ h => h) ?_
        iterate 4 (
          refine os_move rfl rfl rfl (Nat.le_of_ble_eq_true rfl) ?_
          apply Exists.intro
          refine ⟨fun w' K hK => ?_, ?_⟩
          (focus
            go_simp
            exact hK))
        refine os_yld Hc.out.1 rfl rfl rfl (Nat.le_of_ble_eq_true rfl) ?_
        apply Exists.intro
        refine ⟨fun w' hS' K hK => ?_, ?_⟩
        (focus
          replace hS' : w'.cell? ⟨g, k * 2, none⟩ = some (.int .i64 Gk) := hS'
          go_simp
          exact hK)
        iterate 4 (
          refine os_move rfl rfl rfl (Nat.le_of_ble_eq_true rfl) ?_
          apply Exists.intro
          refine ⟨fun w' K hK => ?_, ?_⟩
          (focus
            go_simp
            exact hK))
        refine os_yld Hc.out.2 rfl rfl rfl (Nat.le_of_ble_eq_true rfl) ?_
        apply Exists.intro
        refine ⟨fun w' hS' K hK => ?_, ?_⟩
        (focus
          replace hS' : w'.cell? ⟨g, k * 2 + 1, none⟩ = some (.slice A4 n4 c4) := hS'
          go_simp
          exact hK)
        refine os_run rfl rfl (fun K hK => ?_)
        go_wp2_with fail
        refine (Put_any HSr.out Gk s4d.out (fun k hk => Nat.lt_of_lt_of_le hk hzr) (by have := HN9.out; omega)).mono ?_
        rintro e w5 ⟨A5, n5, c5, rfl, hown5, hb5⟩
        rw [HE.out]
        rw [HB.out] at hown5
        have hn5 : (frameB (UInt8.ofNat Gk.toNat) Gb).length = n5 := by have := hown5.1; rw [bs_length] at this; omega
        have hb5' : Below wr.heap.size wr w5 := ⟨hb5.os, hb5.tape, hb5.output, hb5.size, hb5.block⟩
        have Ho5 := Lib.hid hown5; have Hb5 := Lib.hid hb5'; have HN5 := Lib.hid hn5
        have hz5 := hb5'.size
        clear hown5 hb5 hb5' hn5
        refine hK _ _ ⟨fun i hi => (by cases hi), ?_⟩
        clear hK
        iterate 5 (
          refine os_move rfl rfl rfl (Nat.le_of_ble_eq_true rfl) ?_
          apply Exists.intro
          refine ⟨fun w' K hK => ?_, ?_⟩
          (focus
            go_simp
            exact hK))
        refine os_done ?_
        have hown' : Hid (w5.ownsRow w1.heap.size 5 1 (.slice A (putsF l k).length c) (putsF l k).length (bs (putsF l k))) := own_fr Hown.out (Fr.of_below (M := NoB) Hb5.out) (fun _ _ h => h)
        have hpl : Hid ((putsF l k).length ≤ 10000) := by
          have h1 := putsF_eq l k (by omega)
          have h2 := List.length_take_le' (atF l k) l
          have := L1.out
          show _ ≤ _
          rw [h1]; omega
        have Hb05 : Hid (Below w1.heap.size w1 w5) := hbw.out.trans (Hb5.out.mono hzr)
        have hnew : Hid (putsF l (k + 1) = putsF l k ++ frameB (UInt8.ofNat Gk.toNat) Gb ∧ (putsF l (k + 1)).length = (putsF l k).length + n5) := ⟨Hps.out, by rw [Hps.out, List.length_append, HN5.out]⟩
        have hN5' : Hid (n5 ≤ 3000) := by have := HN5.out; rw [frameB_len] at this; have := Hfit.out; show _ ≤ _; omega
        go_wp2_with (at_builtin; refine append_bytes rfl (.tmp 43) (.tmp 44) rfl w1.heap.size A (putsF l k).length c _ rfl hown'.out A5 n5 c5 _ rfl HN5.out (Sl.of_own Ho5.out).rd (by have := hpl.out; have := hN5'.out; omega) (by omega) ?_; intro A6 c6 w6 hown6 hg6 hat6)
        go_roundw
        case rel =>
          exact ⟨k + 1, A6, c6, by omega, by go_num, by rw [hnew.out.2], by rw [hnew.out.2, hnew.out.1]; exact hown6, Hb05.out.grown hg6 Hb05.out.size (fun j hj => (hown'.out.lt j hj).1)⟩
        case measure => simp [intOf]; omega
      · obtain rfl : k = N := by omega
        have hp : putsF l k = l.take (atF l k) := putsF_eq l k (by rw [HNN.out]; exact Nat.le_refl _)
        have hpl : (putsF l k).length = atF l k := by rw [hp, List.length_take]; have := hat.out; have := L1.out; omega
        have Hp := Lib.hid hp
        rw [hpl] at Hown
        rw [hpl]
        clear hp hpl
        have hrest : restF l k = l.drop (atF l k) := (restF_drop l k (by rw [HNN.out]; exact Nat.le_refl _)).1
        have hne := scan_end l
        rw [HNN.out, hrest] at hne
        have hat2 : atF l k ≤ n := hat.out
        generalize atF l k = T at *
        have hatI : (T : Int) ≤ (n : Int) := by omega
        generalize hG : getP (l.drop T) = G at hne
        obtain ⟨Ge, Gk, Gb, Gn⟩ := G
        have hneB : (Ge != 0) = true := by simpa using hne
        have HG := Lib.hid hG
        have Hcap := Lib.hid H1.out.cap
        have hz2 := hbw.out.size
        have HSr := Lib.hid (HS1.out.below hbw.out HS1.out.pos)
        have H1r := Lib.hid ((H1.out.fr (Fr.of_below (M := NoB) Hb3.out) (fun k hk => ⟨hk, id⟩)).fr (Fr.of_below (M := NoB) hbw.out) (fun k hk => ⟨Nat.lt_of_lt_of_le hk hz1, id⟩))
        have Hs2 : Hid (Sl wr (Old w) A1 T c1 (l.take T)) := Sl.take_ (l' := l.drop T) (by rw [List.take_append_drop]; exact H1r.out) (by rw [List.length_take]; have := L1.out; omega)
        have hTc : T ≤ c1 := by have := Hcap.out; omega
        have hTcI : (T : Int) ≤ (c1 : Int) := by omega
        clear hrest hne hG hat hlt
        by_cases hcc : c1 = T
        · have Hcc := Lib.hid hcc
          have Hs3 : Hid (Sl wr (Old w) A1 0 0 (l.drop T)) := by
            have := H1r.out.drop_ (m := T) (A' := A1) hat2 (.inl ⟨rfl, hcc⟩)
            rw [show n - T = 0 by have := Hcap.out; omega, show c1 - T = 0 by omega] at this
            exact this
          have hnT : n = T := by have := Hcap.out; omega
          subst hnT
          subst hcc
          go_wp2_with fail
          refine (Same_at (Sl.of_own Hown.out) Hs2.out (by omega) (by omega) true (by rw [Hp.out]; simp)).mono ?_
          rintro e w5 ⟨rfl, m5, hw5⟩
          have hbw5 : Hid (Below wr.heap.size wr w5) := by rw [hw5]; exact below_drewN (Below.refl _ _) m5
          have hs5 := Lib.hid (Hs3.out.fr (Fr.of_below (M := NoB) hbw5.out) (fun k hk => ⟨Nat.lt_of_lt_of_le hk (Nat.le_trans hz1 hz2), id⟩))
          have HS5 := Lib.hid (HSr.out.below hbw5.out HSr.out.pos)
          have hz5 := hbw5.out.size
          clear hw5
          go_wp2_with fail
          refine (Get_any HS5.out hs5.out (fun k hk => Nat.lt_of_lt_of_le hk (Nat.le_trans (Nat.le_trans hz1 hz2) hz5)) (by omega) _ HG.out).mono ?_
          rintro e w6 ⟨A6, n6, c6, rfl, hown6, hb6⟩
          have Hb6 := Lib.hid hb6
          clear hown6 hb6
          unfold gotV
          go_wp2_with fail
          have hb7 : Below w5.heap.size w5 (w6.alloc (.cells #[.int .i64 Gk, .slice A6 n6 c6] 34)) := Hb6.out.alloc Hb6.out.size _
          refine (works_any _ (HS5.out.below hb7 HS5.out.pos)).mono ?_
          rintro e w9 ⟨rfl, hb9⟩
          go_wp2_with fail
          go_ret
          exact ⟨rfl, (((Hb3.out.trans (hbw.out.mono hz1)).trans (hbw5.out.mono (Nat.le_trans hz1 hz2))).trans (hb7.mono (Nat.le_trans (Nat.le_trans hz1 hz2) hz5))).trans (hb9.mono (Nat.le_trans (Nat.le_trans (Nat.le_trans hz1 hz2) hz5) hb7.size))⟩
        · obtain ⟨ad, rfl⟩ : ∃ ad, A1 = some ad := by
            cases A1 with
            | some ad => exact ⟨ad, rfl⟩
            | none => have := H1.out.zero rfl; omega
          have Hs3 : Hid (Sl wr (Old w) (some (ad.add T)) (n - T) (c1 - T) (l.drop T)) := H1r.out.drop_ (m := T) (A' := some (ad.add T)) hat2 (.inr rfl)
          go_wp2_with fail
          refine (Same_at (Sl.of_own Hown.out) Hs2.out (by omega) (by omega) true (by rw [Hp.out]; simp)).mono ?_
          rintro e w5 ⟨rfl, m5, hw5⟩
          have hbw5 : Hid (Below wr.heap.size wr w5) := by rw [hw5]; exact below_drewN (Below.refl _ _) m5
          have hs5 := Lib.hid (Hs3.out.fr (Fr.of_below (M := NoB) hbw5.out) (fun k hk => ⟨Nat.lt_of_lt_of_le hk (Nat.le_trans hz1 hz2), id⟩))
          have HS5 := Lib.hid (HSr.out.below hbw5.out HSr.out.pos)
          have hz5 := hbw5.out.size
          clear hw5
          go_wp2_with fail
          refine (Get_any HS5.out hs5.out (fun k hk => Nat.lt_of_lt_of_le hk (Nat.le_trans (Nat.le_trans hz1 hz2) hz5)) (by omega) _ HG.out).mono ?_
          rintro e w6 ⟨A6, n6, c6, rfl, hown6, hb6⟩
          have Hb6 := Lib.hid hb6
          clear hown6 hb6
          unfold gotV
          go_wp2_with fail
          have hb7 : Below w5.heap.size w5 (w6.alloc (.cells #[.int .i64 Gk, .slice A6 n6 c6] 34)) := Hb6.out.alloc Hb6.out.size _
          refine (works_any _ (HS5.out.below hb7 HS5.out.pos)).mono ?_
          rintro e w9 ⟨rfl, hb9⟩
          go_wp2_with fail
          go_ret
          exact ⟨rfl, (((Hb3.out.trans (hbw.out.mono hz1)).trans (hbw5.out.mono (Nat.le_trans hz1 hz2))).trans (hb7.mono (Nat.le_trans (Nat.le_trans hz1 hz2) hz5))).trans (hb9.mono (Nat.le_trans (Nat.le_trans (Nat.le_trans hz1 hz2) hz5) hb7.size))⟩
end Go.Proofs.YtmdnlgfngpgfnaaDoor
