/- The reference's Get. -/
import Derived.Test.YtmdnlgfngpgfnaaDoorFrSc5
import Derived.Test.YtmdnlgfngpgfnaaDoorFr9
import Derived.Test.YtmdnlgfngpgfnaaDoorOrd3
import Derived.RangeFuncBox
namespace Go.Proofs.YtmdnlgfngpgfnaaDoor
open Go.RowKit
attribute [local go_sem] yld yldUpon_value

set_option maxRecDepth 100000 in
set_option maxHeartbeats 2000000 in
theorem RefGet_any {w : World} {F : Nat → Prop} {A : Option Addr} {n c : Nat} {l : List UInt8} (h : Sl w F A n c l) (hF : ∀ k, F k → k < w.heap.size) (hl : n ≤ 9223372036854775000) :
    Calls Tryd.prog 23 #[.slice A n c] w fun e w' => ∃ A' n' c', e = .returned (gotV (getP l) A' n' c') ∧ w'.ownsRow w.heap.size 5 1 (.slice A' n' c') n' (bs (getP l).body) ∧ Below w.heap.size w w' := by
  have hlen := h.len
  have hcap := h.cap
  have H := Lib.hid h; have HF := Lib.hid hF
  have hb1 : Hid (Below w.heap.size w (w.alloc (.cells #[.int .i64 0, .slice none 0 0] 34))) := (Below.refl _ _).alloc (Nat.le_refl _) _
  clear h hF
  by_cases h5 : n < 5
  · have hw : (wholeP l).1 = 4 := by unfold wholeP; rw [if_pos (by omega)]
    have hg := getP_e hw (by decide)
    have Hg := Lib.hid hg
    have h5I : (n : Int) < 5 := by omega
    clear hw hg
    go_enter Tryd.func23, Tryd.ntmps23
    go_wp2_with fail
    (try simp only [Exit.inBlock, Exit.then])
    refine bodyPost_ret (v := gotV ⟨4, 0, [], 0⟩ none 0 0) (by simp [results, Tryd.results23, go_sem]; rfl) rfl ?_
    refine ⟨none, 0, 0, by rw [Hg.out], by rw [Hg.out]; exact World.ownsRow_nil _ _ _ _, ?_⟩
    exact hb1.out
  · have h5I : ¬ (n : Int) < 5 := by omega
    match l, H with
    | [], H => simp at hlen; omega
    | k :: r, H =>
      obtain ⟨ad, rfl, hc0⟩ := H.out.rd 0 _ rfl
      have hc0 : w.cell? ad = some (.int .u8 (k.toNat : Int)) := hc0
      have hblk : ad.block < w.heap.size := World.block_lt_of_cell? _ _ hc0
      have Hc0 := Lib.hid hc0
      have hc0' : (w.alloc (.cells #[.int .i64 0, .slice none 0 0] 34)).cell? ad = some (.int .u8 (k.toNat : Int)) := (hb1.out.cell hblk).trans hc0
      have h0n : 0 < n := by omega
      have hks : ((k.toNat : Int) == 0) = decide (k = 0) := by
        rw [Bool.eq_iff_iff]; simp only [beq_iff_eq, decide_eq_true_eq]
        constructor
        · intro h; exact UInt8.toNat_inj.1 (by simpa using h)
        · rintro rfl; rfl
      clear hc0
      by_cases hk : k = 0
      · have hkb : ((k.toNat : Int) == 0) = true := by rw [hks]; simpa using hk
        have hw : (wholeP (k :: r)).1 = 2 := by unfold wholeP; rw [if_neg (by omega), if_pos (by simp [hk])]
        have Hg := Lib.hid (getP_e hw (by decide))
        clear hks hk hw
        go_enter Tryd.func23, Tryd.ntmps23
        go_wp2_with fail
        (try simp only [Exit.inBlock, Exit.then])
        refine bodyPost_ret (v := gotV ⟨2, 0, [], 0⟩ none 0 0) (by simp [results, Tryd.results23, go_sem]; rfl) rfl ?_
        refine ⟨none, 0, 0, by rw [Hg.out], by rw [Hg.out]; exact World.ownsRow_nil _ _ _ _, ?_⟩
        exact hb1.out
      · have hkb : ((k.toNat : Int) == 0) = false := by rw [hks]; simpa using hk
        have Hk := Lib.hid hk
        have hr4 : Hid (4 ≤ r.length) := by simp only [List.length_cons] at hlen; show 4 ≤ _; omega
        have Hlen := Lib.hid hlen
        have hs1 : Hid (Sl (w.alloc (.cells #[.int .i64 0, .slice none 0 0] 34)) F (some ad) n c (k :: r)) := H.out.fr (Fr.of_below (M := NoB) hb1.out) (fun k hk => ⟨HF.out k hk, id⟩)
        clear hks hk hlen
        go_enter Tryd.func23, Tryd.ntmps23
        go_wp2_with fail
        go_loopw [5, 6] (fun v i w' => ∃ j : Nat, j ≤ 4 ∧ i = .int .i64 ((1 + j : Nat) : Int) ∧ v = .int .i64 (numP r j : Nat) ∧ w.alloc (.cells #[.int .i64 0, .slice none 0 0] 34) = w') (fun _ i _ => 5 - (intOf i).toNat)
        case atStart => exact ⟨0, by omega, rfl, rfl, rfl⟩
        case round =>
          obtain ⟨j, hj, rfl, rfl, rfl⟩ := hrel
          have hnl := numP_lt r j (by have := hr4.out; omega)
          by_cases hj4 : j < 4
          · have hp : 256 ^ j ≤ 16777216 := by
              match j, hj4 with
              | 0, _ => decide
              | 1, _ => decide
              | 2, _ => decide
              | 3, _ => decide
            have hjr : j < r.length := by have := hr4.out; omega
            have hsu := Lib.hid (numP_succ r hjr)
            obtain ⟨_, e1, hcj⟩ := hs1.out.rd (j + 1) _ (by rw [bs_get _ _ (by simp; omega)])
            injection e1 with e1
            subst e1
            have hcj : (w.alloc (.cells #[.int .i64 0, .slice none 0 0] 34)).cell? (ad.add (1 + j)) = some (.int .u8 (r[j].toNat : Int)) := by rw [Nat.add_comm]; exact hcj
            have hj4I : (((1 + j : Nat) : Int)) < 5 := by omega
            have hj0I : (0 : Int) ≤ ((1 + j : Nat) : Int) := by omega
            have hjnI : (((1 + j : Nat) : Int)) < (n : Int) := by omega
            have hrj := r[j].toNat_lt
            simp only [Nat.reducePow] at hrj
            generalize hP : numP r j = P at *
            have hP2 : P ≤ 16777216 := by omega
            clear hnl hp
            generalize r[j].toNat = u at *
            have huw : IntKind.i64.wrap (u : Int) = (u : Int) := by rw [IntKind.wrap_i64]; omega
            go_wp2_with fail
            go_roundw
            case rel => exact ⟨j + 1, by omega, by go_num, by rw [hsu.out]; go_num, trivial⟩
            case measure => simp [intOf]; omega
          · obtain rfl : j = 4 := by omega
            rw [numP_four hr4.out]
            have hnl := num4_lt r
            have hw : wholeP (k :: r) = if 2039 < num4 r then (5, 0) else if n < num4 r + 9 then (4, 0) else (0, num4 r) := by
              unfold wholeP
              rw [Hlen.out, if_neg h5, if_neg (by simpa using Hk.out)]
              rfl
            have Hw := Lib.hid hw
            generalize num4 r = N at *
            clear hw hj hj4
            have hnI : (N : Int) < 4294967296 := by omega
            by_cases hlg : 2039 < N
            · have hlgI : (2039 : Int) < (N : Int) := by omega
              have Hg := Lib.hid (getP_e (l := k :: r) (x := 5) (by rw [Hw.out, if_pos hlg]) (by decide))
              clear hlg hnl hnI
              go_wp2_with fail
              (try simp only [Exit.inBlock, Exit.then])
              refine bodyPost_ret (v := gotV ⟨5, 0, [], 0⟩ none 0 0) (by simp [results, Tryd.results23, go_sem]; rfl) rfl ?_
              refine ⟨none, 0, 0, by rw [Hg.out], by rw [Hg.out]; exact World.ownsRow_nil _ _ _ _, ?_⟩
              exact hb1.out
            · have hlgI : ¬ (2039 : Int) < (N : Int) := by omega
              by_cases hsh : n < N + 9
              · have hshI : (n : Int) < (N : Int) + 9 := by omega
                have Hg := Lib.hid (getP_e (l := k :: r) (x := 4) (by rw [Hw.out, if_neg hlg, if_pos hsh]) (by decide))
                clear hlg hnl hnI hsh
                go_wp2_with fail
                (try simp only [Exit.inBlock, Exit.then])
                refine bodyPost_ret (v := gotV ⟨4, 0, [], 0⟩ none 0 0) (by simp [results, Tryd.results23, go_sem]; rfl) rfl ?_
                refine ⟨none, 0, 0, by rw [Hg.out], by rw [Hg.out]; exact World.ownsRow_nil _ _ _ _, ?_⟩
                exact hb1.out
              · have hshI : ¬ (n : Int) < (N : Int) + 9 := by omega
                have Hg := Lib.hid (getP_ok (k := k) (r := r) (N := N) (by rw [Hw.out, if_neg hlg, if_neg hsh]) (by omega) (by rw [Hlen.out]; omega))
                have hNI : (N : Int) ≤ 2039 := by omega
                have hcN : 5 + (N : Int) ≤ (c : Int) := by omega
                have hcN9 : (N : Int) + 9 ≤ (c : Int) := by omega
                clear hlgI hnl hnI Hw
                have hwk : IntKind.i64.wrap (k.toNat : Int) = (k.toNat : Int) := by have := k.toNat_lt; rw [IntKind.wrap_i64]; simp only [Nat.reducePow] at this; omega
                have hwN : IntKind.i64.wrap (5 + (N : Int)) = 5 + (N : Int) := by rw [IntKind.wrap_i64]; omega
                have hc5 : ¬ c = 5 := by omega
                have hc5' : 5 ≤ c := by omega
                have hs0 : Hid (Sl (w.alloc (.cells #[.int .i64 0, .slice none 0 0] 34)) F (some ad) (5 + N) c ((k :: r).take (5 + N))) := Sl.take_ (l' := (k :: r).drop (5 + N)) (by rw [List.take_append_drop]; exact hs1.out) (by rw [List.length_take]; have := Hlen.out; omega)
                have hs5 : Hid (Sl (w.alloc (.cells #[.int .i64 0, .slice none 0 0] 34)) F (some (ad.add 5)) N (c - 5) ((r.drop 4).take N)) := by
                  have s4 := hs0.out.drop_ (m := 5) (A' := some (ad.add 5)) (by omega) (.inr rfl)
                  rw [show 5 + N - 5 = N by omega, List.drop_take, show 5 + N - 5 = N by omega] at s4
                  exact s4
                have hs9 : Hid (Sl (w.alloc (.cells #[.int .i64 0, .slice none 0 0] 34)) F (some ad) (N + 9) c ((k :: r).take (N + 9))) := Sl.take_ (l' := (k :: r).drop (N + 9)) (by rw [List.take_append_drop]; exact hs1.out) (by rw [List.length_take]; have := Hlen.out; omega)
                have HF2 : Hid (∀ k, F k → k < (w.alloc (.cells #[.int .i64 0, .slice none 0 0] 34)).heap.size) := fun k hk => Nat.lt_of_lt_of_le (HF.out k hk) hb1.out.size
                have hkn := k.toNat_lt
                have hk1 : k.toNat ≠ 0 := fun e => Hk.out (UInt8.toNat_inj.1 (by simpa using e))
                have hE : Hid (putE (k.toNat : Nat) N = 0) := by show _ = _; simp only [Nat.reducePow] at hkn; unfold putE; rw [if_neg (by omega), if_neg (by omega)]
                have hB : Hid (putB (k.toNat : Nat) ((r.drop 4).take N) = frameB k ((r.drop 4).take N)) := by
                  show _ = _
                  unfold putB
                  rw [hs5.out.len, hE.out, if_pos rfl]
                  simp
                have hcw : Hid ((w.alloc (.cells #[.int .i64 0, .slice none 0 0] 34)).drew.cell? ad = some (.int .u8 (k.toNat : Int))) := hc0'
                have hbx : Hid ((w.alloc (.cells #[.int .i64 0, .slice none 0 0] 34)).heap[w.heap.size]? = some (.cells #[.int .i64 0, .slice none 0 0] 34 (0, 0))) := heap_alloc_new w _
                have hsz1 : (w.alloc (.cells #[.int .i64 0, .slice none 0 0] 34)).heap.size = w.heap.size + 1 := by simp
                clear hkn hk1 hlg hsh
                go_wp2_with fail
                generalize w.alloc (.cells #[.int .i64 0, .slice none 0 0] 34) = w1 at *
                refine wp_region_os (fun i w' => match i with | 2 => w'.cell? ad = some (.int .u8 (k.toNat : Int)) | _ => True)
                  [2] (.move 0 (.move 1 (.take 2 (.move 3 (.move 4 (.move 5 (.move 6 (.move 7 (.run 8 [2] (.move 9 (.move 10 (.move 11 (.move 12 (.move 13 .done)))))))))))))) (by kernel_rfl) (by kernel_rfl) (fun _ _ _ _ _ h => h) ?_
                iterate 2 (
                  refine os_move rfl rfl rfl (Nat.le_of_ble_eq_true rfl) ?_
                  apply Exists.intro
                  refine ⟨fun w' K hK => ?_, ?_⟩
                  (focus
                    go_simp
                    exact hK))
                refine os_yld hcw.out rfl rfl rfl (Nat.le_of_ble_eq_true rfl) ?_
                apply Exists.intro
                refine ⟨fun w' hS' K hK => ?_, ?_⟩
                (focus
                  replace hS' : w'.cell? ad = some (.int .u8 (k.toNat : Int)) := hS'
                  go_simp
                  exact hK)
                iterate 4 (
                  refine os_move rfl rfl rfl (Nat.le_of_ble_eq_true rfl) ?_
                  apply Exists.intro
                  refine ⟨fun w' K hK => ?_, ?_⟩
                  (focus
                    go_simp
                    exact hK))
                iterate 1 (
                  refine os_move rfl rfl rfl (Nat.le_of_ble_eq_true rfl) ?_
                  apply Exists.intro
                  refine ⟨fun w' K hK => ?_, ?_⟩
                  (focus
                    go_simp
                    rw [if_pos (by omega), if_pos (by omega)]
                    simp only [yldUpon_value]
                    rw [show (5 + (N : Int)).toNat - 5 = N by omega]
                    exact hK))
                refine os_run rfl rfl (fun K hK => ?_)
                go_wp2_with fail
                refine (RefPut_any (w := w1.drew) (k.toNat : Nat) ⟨hs5.out.len, hs5.out.cap, hs5.out.nil, hs5.out.foot, hs5.out.rd⟩ HF2.out (by omega)).mono ?_
                rintro e w2 ⟨A2, n2, c2, rfl, hown2, hb2⟩
                rw [hE.out]
                rw [hB.out] at hown2
                refine hK _ _ ⟨?_, ?_⟩
                · intro i hi h
                  simp only [List.mem_cons, List.not_mem_nil, or_false] at hi
                  subst hi
                  exact (hb2.cell (World.block_lt_of_cell? _ _ hcw.out)).trans h
                clear hK
                iterate 5 (
                  refine os_move rfl rfl rfl (Nat.le_of_ble_eq_true rfl) ?_
                  apply Exists.intro
                  refine ⟨fun w' K hK => ?_, ?_⟩
                  (focus
                    go_simp
                    exact hK))
                refine os_done ?_
                have Ho2 := Lib.hid hown2
                have hb2' : Below w1.heap.size w1 w2 := ⟨hb2.os, hb2.tape, hb2.output, hb2.size, hb2.block⟩
                have Hb2 := Lib.hid hb2'
                have Hs9 := Lib.hid (hs9.out.fr (Fr.of_below (M := NoB) hb2') (fun k hk => ⟨HF2.out k hk, id⟩))
                have hz2 := hb2'.size
                have hn2 : n2 = N + 9 := by
                  have h1 := hown2.1; rw [bs_length, frameB_len, hs5.out.len] at h1; omega
                subst hn2
                clear hown2 hb2 hb2'
                by_cases heq : (k :: r).take (N + 9) = frameB k ((r.drop 4).take N)
                · have Hg2 : Hid (getP (k :: r) = ⟨0, (k.toNat : Nat), (r.drop 4).take N, N + 9⟩) := by show _ = _; rw [Hg.out, if_pos heq]
                  have hbeq : ((k :: r).take (N + 9) == frameB k ((r.drop 4).take N)) = true := by simpa using heq
                  have Hbeq := Lib.hid hbeq
                  clear heq hbeq Hg
                  go_wp2_with fail
                  refine (Same_at Hs9.out (Sl.of_own Ho2.out) (by omega) (by omega) true Hbeq.out).mono ?_
                  rintro e w3 ⟨rfl, m3, hw3⟩
                  have hwN9 : IntKind.i64.wrap ((N : Int) + 9) = (N : Int) + 9 := by rw [IntKind.wrap_i64]; omega
                  have hb3 : Hid (Below w.heap.size w w3) := by rw [hw3]; exact below_drewN (hb1.out.trans (Hb2.out.mono (by omega))) m3
                  have hb13 : Hid (Below w1.heap.size w1 w3) := by rw [hw3]; exact below_drewN Hb2.out m3
                  have hbx3 : Hid (w3.heap[w.heap.size]? = some (.cells #[.int .i64 0, .slice none 0 0] 34 (0, 0))) := (hb13.out.block _ (by omega)).trans hbx.out
                  have hs53 : Hid (Sl w3.drew F (some (ad.add 5)) N (c - 5) ((r.drop 4).take N)) := hs5.out.fr (Fr.of_below (M := NoB) hb13.out).drew (fun k hk => ⟨HF2.out k hk, id⟩)
                  have hcw3 : Hid (w3.drew.cell? ad = some (.int .u8 (k.toNat : Int))) := (hb13.out.cell (World.block_lt_of_cell? _ _ hcw.out)).trans hcw.out
                  have hz3 := hb13.out.size
                  clear hw3
                  go_wp2_with fail
                  refine wp_region_os (fun i w' => match i with | 2 => w'.cell? ad = some (.int .u8 (k.toNat : Int)) | _ => True)
                    [2] (.move 0 (.move 1 (.take 2 (.move 3 (.move 4 (.move 5 (.move 6 (.move 7 (.move 10 (.move 11 (.run 8 [2] (.move 9 (.run 12 [] (.move 13 (.move 14 .done))))))))))))))) (by kernel_rfl) (by kernel_rfl) (fun _ _ _ _ _ h => h) ?_
                  iterate 2 (
                    refine os_move rfl rfl rfl (Nat.le_of_ble_eq_true rfl) ?_
                    apply Exists.intro
                    refine ⟨fun w' K hK => ?_, ?_⟩
                    (focus
                      go_simp
                      exact hK))
                  refine os_yld hcw3.out rfl rfl rfl (Nat.le_of_ble_eq_true rfl) ?_
                  apply Exists.intro
                  refine ⟨fun w' hS' K hK => ?_, ?_⟩
                  (focus
                    replace hS' : w'.cell? ad = some (.int .u8 (k.toNat : Int)) := hS'
                    go_simp
                    exact hK)
                  iterate 4 (
                    refine os_move rfl rfl rfl (Nat.le_of_ble_eq_true rfl) ?_
                    apply Exists.intro
                    refine ⟨fun w' K hK => ?_, ?_⟩
                    (focus
                      go_simp
                      exact hK))
                  iterate 1 (
                    refine os_move rfl rfl rfl (Nat.le_of_ble_eq_true rfl) ?_
                    apply Exists.intro
                    refine ⟨fun w' K hK => ?_, ?_⟩
                    (focus
                      go_simp
                      rw [if_pos (by omega), if_pos (by omega)]
                      simp only [yldUpon_value]
                      rw [show (5 + (N : Int)).toNat - 5 = N by omega]
                      exact hK))
                  iterate 2 (
                    refine os_move rfl rfl rfl (Nat.le_of_ble_eq_true rfl) ?_
                    apply Exists.intro
                    refine ⟨fun w' K hK => ?_, ?_⟩
                    (focus
                      go_simp
                      exact hK))
                  refine os_run rfl rfl (fun K hK => ?_)
                  go_wp2_with fail
                  refine (CopyBytes_sl hs53.out (fun k hk => Nat.lt_of_lt_of_le (HF2.out k hk) hz3) (by omega)).mono ?_
                  rintro e w4 ⟨A4, c4, rfl, hown4, hb4⟩
                  refine hK _ _ ⟨?_, ?_⟩
                  · intro i hi h
                    simp only [List.mem_cons, List.not_mem_nil, or_false] at hi
                    subst hi
                    exact (hb4.cell (World.block_lt_of_cell? _ _ hcw3.out)).trans h
                  clear hK
                  iterate 1 (
                    refine os_move rfl rfl rfl (Nat.le_of_ble_eq_true rfl) ?_
                    apply Exists.intro
                    refine ⟨fun w' K hK => ?_, ?_⟩
                    (focus
                      go_simp
                      exact hK))
                  have Ho4 := Lib.hid hown4
                  have hb34 : Hid (Below w3.heap.size w3 w4) := ⟨hb4.os, hb4.tape, hb4.output, hb4.size, hb4.block⟩
                  have hbx4 : Hid (w4.heap[w.heap.size]? = some (.cells #[.int .i64 0, .slice none 0 0] 34 (0, 0))) := (hb34.out.block _ (by omega)).trans hbx3.out
                  have q0 : w4.cell? ⟨w.heap.size, 0, none⟩ = some (.int .i64 0) := by rw [cell_of_row w4 _ 0 _ _ _ hbx4.out]; rfl
                  have q1 : w4.cell? ⟨w.heap.size, 1, none⟩ = some (.slice none 0 0) := by rw [cell_of_row w4 _ 1 _ _ _ hbx4.out]; rfl
                  have f0 : w4.frozen? ⟨w.heap.size, 0, none⟩ = false := frozen_of_row w4 _ 0 _ _ hbx4.out
                  have f1 : w4.frozen? ⟨w.heap.size, 1, none⟩ = false := frozen_of_row w4 _ 1 _ _ hbx4.out
                  clear hown4 hb4
                  refine os_run rfl rfl (fun K hK => ?_)
                  go_wp2_with fail
                  refine ⟨fun i hi => (by cases hi), ?_⟩
                  iterate 2 (
                    refine os_move rfl rfl rfl (Nat.le_of_ble_eq_true rfl) ?_
                    apply Exists.intro
                    refine ⟨fun w' K hK => ?_, ?_⟩
                    (focus
                      go_simp
                      exact hK))
                  refine os_done ?_
                  have hset : Hid (Fr (fun j => j = w.heap.size) w4 ((w4.setCell ⟨w.heap.size, 0, none⟩ (.int .i64 (k.toNat : Int))).setCell ⟨w.heap.size, 1, none⟩ (.slice A4 N c4))) :=
                    ((Fr.refl (fun j => j = w.heap.size) w4).setCell (p := ⟨w.heap.size, 0, none⟩) (.inl rfl) _).setCell (p := ⟨w.heap.size, 1, none⟩) (.inl rfl) _
                  have hfin := Lib.hid (own_mono (base' := w.heap.size) (own_fr Ho4.out hset.out (fun j hj => by
                    have := (Ho4.out.lt j hj).1
                    have e : w3.drew.heap.size = w3.heap.size := rfl
                    omega)) (by show _ ≤ w3.heap.size; omega))
                  go_wp2_with fail
                  (try simp only [Exit.inBlock, Exit.then])
                  refine bodyPost_ret (v := gotV ⟨0, (k.toNat : Nat), [], N + 9⟩ A4 N c4) (by simp [results, Tryd.results23, go_sem, q0, q1]; rfl) rfl ?_
                  refine ⟨A4, N, c4, by rw [Hg2.out]; rfl, by rw [Hg2.out]; exact hfin.out, ?_⟩
                  · exact (hb3.out.trans (hb34.out.mono (by omega))).trans ⟨hset.out.os, hset.out.tape, hset.out.output, hset.out.size, fun i hi => hset.out.block i (by have := hb34.out.size; omega) (by omega)⟩
                · have Hg2 : Hid (getP (k :: r) = ⟨6, 0, [], 0⟩) := by show _ = _; rw [Hg.out, if_neg heq]
                  have hbeq : ((k :: r).take (N + 9) == frameB k ((r.drop 4).take N)) = false := by simpa using heq
                  have Hbeq := Lib.hid hbeq
                  clear heq hbeq Hg
                  go_wp2_with fail
                  refine (Same_at Hs9.out (Sl.of_own Ho2.out) (by omega) (by omega) false Hbeq.out).mono ?_
                  rintro e w3 ⟨rfl, m3, hw3⟩
                  have hb3 : Hid (Below w.heap.size w w3) := by rw [hw3]; exact below_drewN (hb1.out.trans (Hb2.out.mono (by omega))) m3
                  have hbx3 : Hid (w3.heap[w.heap.size]? = some (.cells #[.int .i64 0, .slice none 0 0] 34 (0, 0))) := by rw [hw3]; exact (Hb2.out.block _ (by omega)).trans hbx.out
                  have q0 : w3.cell? ⟨w.heap.size, 0, none⟩ = some (.int .i64 0) := by rw [cell_of_row w3 _ 0 _ _ _ hbx3.out]; rfl
                  have q1 : w3.cell? ⟨w.heap.size, 1, none⟩ = some (.slice none 0 0) := by rw [cell_of_row w3 _ 1 _ _ _ hbx3.out]; rfl
                  have f0 : w3.frozen? ⟨w.heap.size, 0, none⟩ = false := frozen_of_row w3 _ 0 _ _ hbx3.out
                  have f1 : w3.frozen? ⟨w.heap.size, 1, none⟩ = false := frozen_of_row w3 _ 1 _ _ hbx3.out
                  clear hw3
                  go_wp2_with fail
                  (try simp only [Exit.inBlock, Exit.then])
                  refine bodyPost_ret (v := gotV ⟨6, 0, [], 0⟩ none 0 0) (by simp [results, Tryd.results23, go_sem, q0, q1]; rfl) rfl ?_
                  refine ⟨none, 0, 0, by rw [Hg2.out], by rw [Hg2.out]; exact World.ownsRow_nil _ _ _ _, ?_⟩
                  exact (hb3.out.setCell (p := ⟨w.heap.size, 0, none⟩) (Nat.le_refl _) _).setCell (p := ⟨w.heap.size, 1, none⟩) (Nat.le_refl _) _
end Go.Proofs.YtmdnlgfngpgfnaaDoor
