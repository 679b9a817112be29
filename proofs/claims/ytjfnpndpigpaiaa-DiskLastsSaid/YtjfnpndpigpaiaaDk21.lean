/- DiskStrikes' walk. -/
import Derived.Test.YtjfnpndpigpaiaaDk20
import Derived.Test.YtjfnpndpigpaiaaOpnN
namespace Go.Proofs.Ytjfnpndpigpaiaa
open Go.RowKit
attribute [local go_sem] yld yldUpon_value

theorem aS_zero (ls : List (List UInt8)) (n : Nat) : aS ls n 0 = thD [] 0 false (n : Nat) 0 := by
  unfold aS
  rw [if_pos (Nat.zero_le _)]
  have : (n : Int) - ((0 : Nat) : Int) = n := by omega
  rw [this]; rfl
theorem bS_zero (ls : List (List UInt8)) (n : Nat) : bS ls n 0 = thD [] 0 false (-1) 0 := by
  unfold bS; rw [Nat.zero_min]; rfl
theorem aS_done (ls : List (List UInt8)) (n k : Nat) (hn : n ≤ 40) (hk : k ≤ 40) : (aS ls n k).done ≤ 1000000000 := by
  unfold aS
  split
  · show k ≤ _; omega
  · show n + 1 ≤ _; omega
theorem bS_done (ls : List (List UInt8)) (n k : Nat) (hn : n ≤ 40) : (bS ls n k).done ≤ 1000000000 := by show min k (n + 1) ≤ _; omega
theorem th_sync (c : List UInt8) (k done : Nat) : syncD (thD c k false (-1) done) 3 = (0, thD c c.length false (-1) (done + 1)) := by
  unfold syncD
  rw [opD_calm ⟨rfl, rfl⟩, if_neg (by decide)]; rfl
theorem row_take {w : World} {F : Nat → Prop} {A : Option Addr} {n c : Nat} {l : List UInt8} (h : Sl w F A n c l) (t : Nat) (ht : t = min n 200) : Sl w F A t c (l.take 200) := by
  have hl := h.len
  have e : l.take 200 = l.take t := by
    rcases Nat.le_total n 200 with h1 | h1
    · rw [List.take_of_length_le (by omega), List.take_of_length_le (by omega)]
    · rw [show t = 200 by omega]
  have h2 : Sl w F A n c (l.take t ++ l.drop t) := by rw [List.take_append_drop]; exact h
  rw [e]
  exact Sl.take_ h2 (by rw [List.length_take]; omega)
set_option maxRecDepth 100000 in
set_option maxHeartbeats 8000000 in
theorem DiskStrikes_any (w : World) {A : Option Addr} {n c : Nat} {ls : List (List UInt8)} {m : Int} (h : NsSl w (Old w) A n c ls) (hnb : n ≤ 140737488351232) (hm : (Lit.int .i64 m).wf = true) :
    Calls Try.prog 5 #[.slice A n c, .int .i64 m] w fun e w' => e = .returned (.bool true) ∧ Below w.heap.size w w' := by
  have H := Lib.hid h; have hmb := bounds_i64 hm
  clear h hm
  go_enter Try.func5, Try.ntmps5
  go_wp2_with fail
  refine (New_any w 16384).mono ?_
  rintro e w1 ⟨ga, va, rfl, d1, d2, d3, d4⟩
  have Sa : Hid (DS w w1 ga (newD 16384) va) := ⟨d1, DOK.new _, d4, d2⟩
  clear d1 d2 d3 d4
  go_wp2_with fail
  refine (New_any w1 16384).mono ?_
  rintro e w2 ⟨gb, vb, rfl, d1, d2, d3, d4⟩
  have D0 : Hid (DS2 w w2 ga (newD 16384) va gb (newD 16384) vb) := ⟨Sa.out.old d2, ⟨d1, DOK.new _, (fun k hk => Nat.le_trans Sa.out.bel.size (d4 k hk)), Below.tr Sa.out.bel d2⟩, fun k hk hk2 => by have := Sa.out.disk.foot_lt hk; have := d4 k hk2; omega⟩
  clear d1 d2 d3 d4 Sa
  by_cases hn : (n : Int) ≤ 40
  · have hn40 : Hid (n ≤ 40) := by show n ≤ 40; omega
    have hpos : (1 : Int) ≤ (n : Int) + 1 := by omega
    have hNe : Hid (∃ N : Nat, (if (n : Int) + 1 < 1 then 0 else m % ((n : Int) + 1)) = (N : Int) ∧ N ≤ n) := by
      refine ⟨(m % ((n : Int) + 1)).toNat, ?_, ?_⟩
      · rw [if_neg (by omega)]; have := Int.emod_nonneg m (b := (n : Int) + 1) (by omega); omega
      · have := Int.emod_lt_of_pos m (b := (n : Int) + 1) (by omega); omega
    obtain ⟨N, hN, hNn⟩ := hNe.out
    have HN := Lib.hid hN; have HNn := Lib.hid hNn
    clear hN hNn hNe
    go_wp2_with fail
    refine (Pick_any _ _ w2 (by omega)).mono ?_
    rintro e w3 ⟨rfl, rfl⟩
    rw [HN.out]
    go_wp2_with fail
    refine (Arm_any D0.out.a.disk (N : Int)).mono ?_
    rintro e w4 ⟨rfl, hst⟩
    rw [th_new, th_arm] at hst
    have D0' := D0.out
    rw [th_new] at D0'
    obtain ⟨va1, s1⟩ := D0'.stepA hst (th_ok (by decide) (Nat.zero_le _) _ (by omega) (by have := HNn.out; have := hn40.out; omega) _)
    rw [← aS_zero ls N, ← bS_zero ls N] at s1
    have D1 := Lib.hid s1
    clear hst s1 D0' D0
    go_wp2_with fail
    go_loopw [7] (fun i wr => ∃ (k : Nat) (va vb : Vs), k ≤ n ∧ i = .int .i64 (k : Nat) ∧ Hid (DS2 w wr ga (aS ls N k) va gb (bS ls N k) vb)) (fun i _ => n - (intOf i).toNat)
    case atStart => exact ⟨0, va1, vb, Nat.zero_le _, rfl, D1.out⟩
    case round =>
      clear D1
      obtain ⟨k, va2, vb2, hk, rfl, HD⟩ := hrel
      by_cases hlt : k < n
      · have hlI : (k : Int) < (n : Int) := by omega
        have hk0 : (0 : Int) ≤ (k : Int) := by omega
        have hkl : Hid (k < ls.length) := by show _ < _; rw [H.out.len]; exact hlt
        have hk40 : Hid (k < n ∧ n ≤ 40 ∧ N ≤ n) := ⟨hlt, hn40.out, HNn.out⟩
        have hl40 : Hid (ls.length ≤ 40) := by show _ ≤ _; rw [H.out.len]; exact hn40.out
        obtain ⟨b, o, A1, n1, c1, hA, hb, hc, hs⟩ := H.out.at_ k hkl.out
        subst hA
        have hcr := cell_bel hc HD.out.a.bel
        have lb := block_lt_of hcr
        have Hs := Lib.hid hs
        have hcap := hs.cap
        have Dd := Lib.hid (HD.out.old (Below.dr1 wr))
        clear hc hb hs HD
        have hcc : Hid (n1 ≤ 200 ∨ 200 < n1) := by show _ ∨ _; omega
        have hkk : Hid (k < N ∨ k = N ∨ N < k) := by show _ ∨ _ ∨ _; omega
        rcases hcc.out with h200 | h200
        · have q1 : (n1 : Int) ≤ 200 := by omega
          have q2 : (n1 : Int) ≤ (c1 : Int) := by omega
          have q0 : (0 : Int) ≤ (n1 : Int) := by omega
          have hmin : (if (200 : Int) < (n1 : Int) then (200 : Int) else (n1 : Int)) = (n1 : Int) := if_neg (by omega)
          have St := Lib.hid (row_take (Hs.out.belF Dd.out.a.bel (fun _ h => h)) n1 (by omega))
          rcases hkk.out with hkN | hkN | hkN
          · have r1 : (k : Int) < (N : Int) := by omega
            have r2 : (k : Int) ≤ (N : Int) := by omega
            have e5 := Lib.hid (aS_step ls N k hkl.out hl40.out)
            rw [if_pos hkN] at e5
            have e6 := Lib.hid (bS_step ls N k hkl.out hl40.out (by omega))
            clear hkN hkk h200 hcc hlt hcap
            go_wp2_with fail
            refine wp_calm ?_
            refine wp_region_os (fun _ w' => Below (wr).drew.heap.size (wr).drew w') [3, 7] (.move 0 (.move 1 (.move 2 (.take 3 (.move 4 (.move 5 (.move 6 (.take 7 (.move 8 (.move 9 (.move 10 (.move 11 .done)))))))))))) (by kernel_rfl) (by kernel_rfl) (fun _ _ _ _ _ h => nomatch h.1) ?_
            have hS0 : Below (wr).drew.heap.size (wr).drew (wr).drew := Below.refl _ _
            refine os_move rfl rfl rfl (Nat.le_of_ble_eq_true rfl) ?_
            apply Exists.intro
            refine ⟨fun w' K hK => ?_, ?_⟩
            (focus
              go_simp
              exact hK)
            refine os_move rfl rfl rfl (Nat.le_of_ble_eq_true rfl) ?_
            apply Exists.intro
            refine ⟨fun w' K hK => ?_, ?_⟩
            (focus
              go_simp
              exact hK)
            refine os_move rfl rfl rfl (Nat.le_of_ble_eq_true rfl) ?_
            apply Exists.intro
            refine ⟨fun w' K hK => ?_, ?_⟩
            (focus
              go_simp
              exact hK)
            refine os_yld hS0 rfl rfl rfl (Nat.le_of_ble_eq_true rfl) ?_
            apply Exists.intro
            refine ⟨fun w' hS' K hK => ?_, ?_⟩
            (focus
              obtain ⟨hcc, hff⟩ := bcellB (Below.undr hS')
              clear hS'
              go_simp
              exact hK)
            refine os_move rfl rfl rfl (Nat.le_of_ble_eq_true rfl) ?_
            apply Exists.intro
            refine ⟨fun w' K hK => ?_, ?_⟩
            (focus
              go_simp
              exact hK)
            refine os_move rfl rfl rfl (Nat.le_of_ble_eq_true rfl) ?_
            apply Exists.intro
            refine ⟨fun w' K hK => ?_, ?_⟩
            (focus
              go_simp
              exact hK)
            refine os_move rfl rfl rfl (Nat.le_of_ble_eq_true rfl) ?_
            apply Exists.intro
            refine ⟨fun w' K hK => ?_, ?_⟩
            (focus
              go_simp
              exact hK)
            refine os_yld hS0 rfl rfl rfl (Nat.le_of_ble_eq_true rfl) ?_
            apply Exists.intro
            refine ⟨fun w' hS' K hK => ?_, ?_⟩
            (focus
              obtain ⟨hcc, hff⟩ := bcellB (Below.undr hS')
              clear hS'
              go_simp
              exact hK)
            refine os_move rfl rfl rfl (Nat.le_of_ble_eq_true rfl) ?_
            apply Exists.intro
            refine ⟨fun w' K hK => ?_, ?_⟩
            (focus
              go_simp
              exact hK)
            refine os_move rfl rfl rfl (Nat.le_of_ble_eq_true rfl) ?_
            apply Exists.intro
            refine ⟨fun w' K hK => ?_, ?_⟩
            (focus
              go_simp
              exact hK)
            refine os_move rfl rfl rfl (Nat.le_of_ble_eq_true rfl) ?_
            apply Exists.intro
            refine ⟨fun w' K hK => ?_, ?_⟩
            (focus
              go_simp
              exact hK)
            refine os_move rfl rfl rfl (Nat.le_of_ble_eq_true rfl) ?_
            apply Exists.intro
            refine ⟨fun w' K hK => ?_, ?_⟩
            (focus
              go_simp
              exact hK)
            refine os_done ⟨rfl, ?_⟩
            clear hcr lb
            go_wp2_with fail
            refine (Write_any Dd.out.a.disk Dd.out.a.ok (aS_done _ _ _ (by have := hk40.out; omega) (by have := hk40.out; omega)) 3 St.out (fun j hj => ⟨Nat.lt_of_lt_of_le hj Dd.out.a.bel.size, not_foot_of Dd.out.a hj⟩) (by omega)).mono ?_
            rintro e w5 ⟨rfl, hst⟩
            rw [e5.out]
            rw [e5.out] at hst
            obtain ⟨va3, s3⟩ := Dd.out.stepA hst (aS_ok ls N (k + 1) (by have := hk40.out; omega) (by have := hk40.out; omega))
            have D5 : Hid (DS2 w w5 ga (aS ls N (k + 1)) va3 gb (bS ls N k) vb2) := s3
            have St5 := Lib.hid (row_take (Hs.out.belF D5.out.a.bel (fun _ h => h)) n1 (by omega))
            clear hst s3 Dd St
            go_wp2_with fail
            refine (Write_any D5.out.b.disk D5.out.b.ok (bS_done _ _ _ (by have := hk40.out; omega)) 3 St5.out (fun j hj => ⟨Nat.lt_of_lt_of_le hj D5.out.b.bel.size, not_foot_of D5.out.b hj⟩) (by omega)).mono ?_
            rintro e w6 ⟨rfl, hst⟩
            rw [e6.out]
            rw [e6.out] at hst
            obtain ⟨vb3, s3⟩ := D5.out.stepB hst (bS_ok ls N (k + 1) (by have := hk40.out; omega) (by have := hk40.out; omega))
            have D6 : Hid (DS2 w w6 ga (aS ls N (k + 1)) va3 gb (bS ls N (k + 1)) vb3) := s3
            clear hst s3 D5 St5
            go_wp2_with fail
            go_roundw
            case rel => exact ⟨k + 1, va3, vb3, by omega, by go_num, D6.out⟩
            case measure => simp [intOf]; omega
          · have r1 : (k : Int) ≤ (N : Int) := by omega
            have r2 : (N : Int) ≤ (k : Int) := by omega
            have e5 := Lib.hid (aS_step ls N k hkl.out hl40.out)
            rw [if_neg (by omega)] at e5
            have e6 := Lib.hid (bS_step ls N k hkl.out hl40.out (by omega))
            clear hkN hkk h200 hcc hlt hcap
            go_wp2_with fail
            refine wp_calm ?_
            refine wp_region_os (fun _ w' => Below (wr).drew.heap.size (wr).drew w') [3, 7] (.move 0 (.move 1 (.move 2 (.take 3 (.move 4 (.move 5 (.move 6 (.take 7 (.move 8 (.move 9 (.move 10 (.move 11 .done)))))))))))) (by kernel_rfl) (by kernel_rfl) (fun _ _ _ _ _ h => nomatch h.1) ?_
            have hS0 : Below (wr).drew.heap.size (wr).drew (wr).drew := Below.refl _ _
            refine os_move rfl rfl rfl (Nat.le_of_ble_eq_true rfl) ?_
            apply Exists.intro
            refine ⟨fun w' K hK => ?_, ?_⟩
            (focus
              go_simp
              exact hK)
            refine os_move rfl rfl rfl (Nat.le_of_ble_eq_true rfl) ?_
            apply Exists.intro
            refine ⟨fun w' K hK => ?_, ?_⟩
            (focus
              go_simp
              exact hK)
            refine os_move rfl rfl rfl (Nat.le_of_ble_eq_true rfl) ?_
            apply Exists.intro
            refine ⟨fun w' K hK => ?_, ?_⟩
            (focus
              go_simp
              exact hK)
            refine os_yld hS0 rfl rfl rfl (Nat.le_of_ble_eq_true rfl) ?_
            apply Exists.intro
            refine ⟨fun w' hS' K hK => ?_, ?_⟩
            (focus
              obtain ⟨hcc, hff⟩ := bcellB (Below.undr hS')
              clear hS'
              go_simp
              exact hK)
            refine os_move rfl rfl rfl (Nat.le_of_ble_eq_true rfl) ?_
            apply Exists.intro
            refine ⟨fun w' K hK => ?_, ?_⟩
            (focus
              go_simp
              exact hK)
            refine os_move rfl rfl rfl (Nat.le_of_ble_eq_true rfl) ?_
            apply Exists.intro
            refine ⟨fun w' K hK => ?_, ?_⟩
            (focus
              go_simp
              exact hK)
            refine os_move rfl rfl rfl (Nat.le_of_ble_eq_true rfl) ?_
            apply Exists.intro
            refine ⟨fun w' K hK => ?_, ?_⟩
            (focus
              go_simp
              exact hK)
            refine os_yld hS0 rfl rfl rfl (Nat.le_of_ble_eq_true rfl) ?_
            apply Exists.intro
            refine ⟨fun w' hS' K hK => ?_, ?_⟩
            (focus
              obtain ⟨hcc, hff⟩ := bcellB (Below.undr hS')
              clear hS'
              go_simp
              exact hK)
            refine os_move rfl rfl rfl (Nat.le_of_ble_eq_true rfl) ?_
            apply Exists.intro
            refine ⟨fun w' K hK => ?_, ?_⟩
            (focus
              go_simp
              exact hK)
            refine os_move rfl rfl rfl (Nat.le_of_ble_eq_true rfl) ?_
            apply Exists.intro
            refine ⟨fun w' K hK => ?_, ?_⟩
            (focus
              go_simp
              exact hK)
            refine os_move rfl rfl rfl (Nat.le_of_ble_eq_true rfl) ?_
            apply Exists.intro
            refine ⟨fun w' K hK => ?_, ?_⟩
            (focus
              go_simp
              exact hK)
            refine os_move rfl rfl rfl (Nat.le_of_ble_eq_true rfl) ?_
            apply Exists.intro
            refine ⟨fun w' K hK => ?_, ?_⟩
            (focus
              go_simp
              exact hK)
            refine os_done ⟨rfl, ?_⟩
            clear hcr lb
            go_wp2_with fail
            refine (Write_any Dd.out.a.disk Dd.out.a.ok (aS_done _ _ _ (by have := hk40.out; omega) (by have := hk40.out; omega)) 3 St.out (fun j hj => ⟨Nat.lt_of_lt_of_le hj Dd.out.a.bel.size, not_foot_of Dd.out.a hj⟩) (by omega)).mono ?_
            rintro e w5 ⟨rfl, hst⟩
            rw [e5.out]
            rw [e5.out] at hst
            obtain ⟨va3, s3⟩ := Dd.out.stepA hst (aS_ok ls N (k + 1) (by have := hk40.out; omega) (by have := hk40.out; omega))
            have D5 : Hid (DS2 w w5 ga (aS ls N (k + 1)) va3 gb (bS ls N k) vb2) := s3
            have St5 := Lib.hid (row_take (Hs.out.belF D5.out.a.bel (fun _ h => h)) n1 (by omega))
            clear hst s3 Dd St
            go_wp2_with fail
            refine (Write_any D5.out.b.disk D5.out.b.ok (bS_done _ _ _ (by have := hk40.out; omega)) 3 St5.out (fun j hj => ⟨Nat.lt_of_lt_of_le hj D5.out.b.bel.size, not_foot_of D5.out.b hj⟩) (by omega)).mono ?_
            rintro e w6 ⟨rfl, hst⟩
            rw [e6.out]
            rw [e6.out] at hst
            obtain ⟨vb3, s3⟩ := D5.out.stepB hst (bS_ok ls N (k + 1) (by have := hk40.out; omega) (by have := hk40.out; omega))
            have D6 : Hid (DS2 w w6 ga (aS ls N (k + 1)) va3 gb (bS ls N (k + 1)) vb3) := s3
            clear hst s3 D5 St5
            go_wp2_with fail
            go_roundw
            case rel => exact ⟨k + 1, va3, vb3, by omega, by go_num, D6.out⟩
            case measure => simp [intOf]; omega
          · have r1 : (N : Int) < (k : Int) := by omega
            have e5 := Lib.hid (aS_step ls N k hkl.out hl40.out)
            rw [if_neg (by omega)] at e5
            have e6 := Lib.hid (bS_stay ls N k hkN)
            clear hkN hkk h200 hcc hlt hcap
            go_wp2_with fail
            refine wp_calm ?_
            refine wp_region_os (fun _ w' => Below (wr).drew.heap.size (wr).drew w') [3, 7] (.move 0 (.move 1 (.move 2 (.take 3 (.move 4 (.move 5 (.move 6 (.take 7 (.move 8 (.move 9 (.move 10 (.move 11 .done)))))))))))) (by kernel_rfl) (by kernel_rfl) (fun _ _ _ _ _ h => nomatch h.1) ?_
            have hS0 : Below (wr).drew.heap.size (wr).drew (wr).drew := Below.refl _ _
            refine os_move rfl rfl rfl (Nat.le_of_ble_eq_true rfl) ?_
            apply Exists.intro
            refine ⟨fun w' K hK => ?_, ?_⟩
            (focus
              go_simp
              exact hK)
            refine os_move rfl rfl rfl (Nat.le_of_ble_eq_true rfl) ?_
            apply Exists.intro
            refine ⟨fun w' K hK => ?_, ?_⟩
            (focus
              go_simp
              exact hK)
            refine os_move rfl rfl rfl (Nat.le_of_ble_eq_true rfl) ?_
            apply Exists.intro
            refine ⟨fun w' K hK => ?_, ?_⟩
            (focus
              go_simp
              exact hK)
            refine os_yld hS0 rfl rfl rfl (Nat.le_of_ble_eq_true rfl) ?_
            apply Exists.intro
            refine ⟨fun w' hS' K hK => ?_, ?_⟩
            (focus
              obtain ⟨hcc, hff⟩ := bcellB (Below.undr hS')
              clear hS'
              go_simp
              exact hK)
            refine os_move rfl rfl rfl (Nat.le_of_ble_eq_true rfl) ?_
            apply Exists.intro
            refine ⟨fun w' K hK => ?_, ?_⟩
            (focus
              go_simp
              exact hK)
            refine os_move rfl rfl rfl (Nat.le_of_ble_eq_true rfl) ?_
            apply Exists.intro
            refine ⟨fun w' K hK => ?_, ?_⟩
            (focus
              go_simp
              exact hK)
            refine os_move rfl rfl rfl (Nat.le_of_ble_eq_true rfl) ?_
            apply Exists.intro
            refine ⟨fun w' K hK => ?_, ?_⟩
            (focus
              go_simp
              exact hK)
            refine os_yld hS0 rfl rfl rfl (Nat.le_of_ble_eq_true rfl) ?_
            apply Exists.intro
            refine ⟨fun w' hS' K hK => ?_, ?_⟩
            (focus
              obtain ⟨hcc, hff⟩ := bcellB (Below.undr hS')
              clear hS'
              go_simp
              exact hK)
            refine os_move rfl rfl rfl (Nat.le_of_ble_eq_true rfl) ?_
            apply Exists.intro
            refine ⟨fun w' K hK => ?_, ?_⟩
            (focus
              go_simp
              exact hK)
            refine os_move rfl rfl rfl (Nat.le_of_ble_eq_true rfl) ?_
            apply Exists.intro
            refine ⟨fun w' K hK => ?_, ?_⟩
            (focus
              go_simp
              exact hK)
            refine os_move rfl rfl rfl (Nat.le_of_ble_eq_true rfl) ?_
            apply Exists.intro
            refine ⟨fun w' K hK => ?_, ?_⟩
            (focus
              go_simp
              exact hK)
            refine os_move rfl rfl rfl (Nat.le_of_ble_eq_true rfl) ?_
            apply Exists.intro
            refine ⟨fun w' K hK => ?_, ?_⟩
            (focus
              go_simp
              exact hK)
            refine os_done ⟨rfl, ?_⟩
            clear hcr lb
            go_wp2_with fail
            refine (Write_any Dd.out.a.disk Dd.out.a.ok (aS_done _ _ _ (by have := hk40.out; omega) (by have := hk40.out; omega)) 3 St.out (fun j hj => ⟨Nat.lt_of_lt_of_le hj Dd.out.a.bel.size, not_foot_of Dd.out.a hj⟩) (by omega)).mono ?_
            rintro e w5 ⟨rfl, hst⟩
            rw [e5.out]
            rw [e5.out] at hst
            obtain ⟨va3, s3⟩ := Dd.out.stepA hst (aS_ok ls N (k + 1) (by have := hk40.out; omega) (by have := hk40.out; omega))
            have D5 : Hid (DS2 w w5 ga (aS ls N (k + 1)) va3 gb (bS ls N k) vb2) := s3
            have St5 := Lib.hid (row_take (Hs.out.belF D5.out.a.bel (fun _ h => h)) n1 (by omega))
            clear hst s3 Dd St
            go_wp2_with fail
            have D6 : Hid (DS2 w w5 ga (aS ls N (k + 1)) va3 gb (bS ls N (k + 1)) vb2) := by show DS2 _ _ _ _ _ _ _ _; rw [e6.out]; exact D5.out
            clear D5 St5
            go_roundw
            case rel => exact ⟨k + 1, va3, vb2, by omega, by go_num, D6.out⟩
            case measure => simp [intOf]; omega
        · have q1 : (200 : Int) < (n1 : Int) := by omega
          have q2 : (200 : Int) ≤ (c1 : Int) := by omega
          have q3 : (200 : Int) ≤ (n1 : Int) := by omega
          have St := Lib.hid (row_take (Hs.out.belF Dd.out.a.bel (fun _ h => h)) 200 (by omega))
          rcases hkk.out with hkN | hkN | hkN
          · have r1 : (k : Int) < (N : Int) := by omega
            have r2 : (k : Int) ≤ (N : Int) := by omega
            have e5 := Lib.hid (aS_step ls N k hkl.out hl40.out)
            rw [if_pos hkN] at e5
            have e6 := Lib.hid (bS_step ls N k hkl.out hl40.out (by omega))
            clear hkN hkk h200 hcc hlt hcap
            go_wp2_with fail
            refine wp_calm ?_
            refine wp_region_os (fun _ w' => Below (wr).drew.heap.size (wr).drew w') [3, 7] (.move 0 (.move 1 (.move 2 (.take 3 (.move 4 (.move 5 (.move 6 (.take 7 (.move 8 (.move 9 (.move 10 (.move 11 .done)))))))))))) (by kernel_rfl) (by kernel_rfl) (fun _ _ _ _ _ h => nomatch h.1) ?_
            have hS0 : Below (wr).drew.heap.size (wr).drew (wr).drew := Below.refl _ _
            refine os_move rfl rfl rfl (Nat.le_of_ble_eq_true rfl) ?_
            apply Exists.intro
            refine ⟨fun w' K hK => ?_, ?_⟩
            (focus
              go_simp
              exact hK)
            refine os_move rfl rfl rfl (Nat.le_of_ble_eq_true rfl) ?_
            apply Exists.intro
            refine ⟨fun w' K hK => ?_, ?_⟩
            (focus
              go_simp
              exact hK)
            refine os_move rfl rfl rfl (Nat.le_of_ble_eq_true rfl) ?_
            apply Exists.intro
            refine ⟨fun w' K hK => ?_, ?_⟩
            (focus
              go_simp
              exact hK)
            refine os_yld hS0 rfl rfl rfl (Nat.le_of_ble_eq_true rfl) ?_
            apply Exists.intro
            refine ⟨fun w' hS' K hK => ?_, ?_⟩
            (focus
              obtain ⟨hcc, hff⟩ := bcellB (Below.undr hS')
              clear hS'
              go_simp
              exact hK)
            refine os_move rfl rfl rfl (Nat.le_of_ble_eq_true rfl) ?_
            apply Exists.intro
            refine ⟨fun w' K hK => ?_, ?_⟩
            (focus
              go_simp
              exact hK)
            refine os_move rfl rfl rfl (Nat.le_of_ble_eq_true rfl) ?_
            apply Exists.intro
            refine ⟨fun w' K hK => ?_, ?_⟩
            (focus
              go_simp
              exact hK)
            refine os_move rfl rfl rfl (Nat.le_of_ble_eq_true rfl) ?_
            apply Exists.intro
            refine ⟨fun w' K hK => ?_, ?_⟩
            (focus
              go_simp
              exact hK)
            refine os_yld hS0 rfl rfl rfl (Nat.le_of_ble_eq_true rfl) ?_
            apply Exists.intro
            refine ⟨fun w' hS' K hK => ?_, ?_⟩
            (focus
              obtain ⟨hcc, hff⟩ := bcellB (Below.undr hS')
              clear hS'
              go_simp
              exact hK)
            refine os_move rfl rfl rfl (Nat.le_of_ble_eq_true rfl) ?_
            apply Exists.intro
            refine ⟨fun w' K hK => ?_, ?_⟩
            (focus
              go_simp
              exact hK)
            refine os_move rfl rfl rfl (Nat.le_of_ble_eq_true rfl) ?_
            apply Exists.intro
            refine ⟨fun w' K hK => ?_, ?_⟩
            (focus
              go_simp
              exact hK)
            refine os_move rfl rfl rfl (Nat.le_of_ble_eq_true rfl) ?_
            apply Exists.intro
            refine ⟨fun w' K hK => ?_, ?_⟩
            (focus
              go_simp
              exact hK)
            refine os_move rfl rfl rfl (Nat.le_of_ble_eq_true rfl) ?_
            apply Exists.intro
            refine ⟨fun w' K hK => ?_, ?_⟩
            (focus
              go_simp
              exact hK)
            refine os_done ⟨rfl, ?_⟩
            clear hcr lb
            go_wp2_with fail
            refine (Write_any Dd.out.a.disk Dd.out.a.ok (aS_done _ _ _ (by have := hk40.out; omega) (by have := hk40.out; omega)) 3 St.out (fun j hj => ⟨Nat.lt_of_lt_of_le hj Dd.out.a.bel.size, not_foot_of Dd.out.a hj⟩) (by omega)).mono ?_
            rintro e w5 ⟨rfl, hst⟩
            rw [e5.out]
            rw [e5.out] at hst
            obtain ⟨va3, s3⟩ := Dd.out.stepA hst (aS_ok ls N (k + 1) (by have := hk40.out; omega) (by have := hk40.out; omega))
            have D5 : Hid (DS2 w w5 ga (aS ls N (k + 1)) va3 gb (bS ls N k) vb2) := s3
            have St5 := Lib.hid (row_take (Hs.out.belF D5.out.a.bel (fun _ h => h)) 200 (by omega))
            clear hst s3 Dd St
            go_wp2_with fail
            refine (Write_any D5.out.b.disk D5.out.b.ok (bS_done _ _ _ (by have := hk40.out; omega)) 3 St5.out (fun j hj => ⟨Nat.lt_of_lt_of_le hj D5.out.b.bel.size, not_foot_of D5.out.b hj⟩) (by omega)).mono ?_
            rintro e w6 ⟨rfl, hst⟩
            rw [e6.out]
            rw [e6.out] at hst
            obtain ⟨vb3, s3⟩ := D5.out.stepB hst (bS_ok ls N (k + 1) (by have := hk40.out; omega) (by have := hk40.out; omega))
            have D6 : Hid (DS2 w w6 ga (aS ls N (k + 1)) va3 gb (bS ls N (k + 1)) vb3) := s3
            clear hst s3 D5 St5
            go_wp2_with fail
            go_roundw
            case rel => exact ⟨k + 1, va3, vb3, by omega, by go_num, D6.out⟩
            case measure => simp [intOf]; omega
          · have r1 : (k : Int) ≤ (N : Int) := by omega
            have r2 : (N : Int) ≤ (k : Int) := by omega
            have e5 := Lib.hid (aS_step ls N k hkl.out hl40.out)
            rw [if_neg (by omega)] at e5
            have e6 := Lib.hid (bS_step ls N k hkl.out hl40.out (by omega))
            clear hkN hkk h200 hcc hlt hcap
            go_wp2_with fail
            refine wp_calm ?_
            refine wp_region_os (fun _ w' => Below (wr).drew.heap.size (wr).drew w') [3, 7] (.move 0 (.move 1 (.move 2 (.take 3 (.move 4 (.move 5 (.move 6 (.take 7 (.move 8 (.move 9 (.move 10 (.move 11 .done)))))))))))) (by kernel_rfl) (by kernel_rfl) (fun _ _ _ _ _ h => nomatch h.1) ?_
            have hS0 : Below (wr).drew.heap.size (wr).drew (wr).drew := Below.refl _ _
            refine os_move rfl rfl rfl (Nat.le_of_ble_eq_true rfl) ?_
            apply Exists.intro
            refine ⟨fun w' K hK => ?_, ?_⟩
            (focus
              go_simp
              exact hK)
            refine os_move rfl rfl rfl (Nat.le_of_ble_eq_true rfl) ?_
            apply Exists.intro
            refine ⟨fun w' K hK => ?_, ?_⟩
            (focus
              go_simp
              exact hK)
            refine os_move rfl rfl rfl (Nat.le_of_ble_eq_true rfl) ?_
            apply Exists.intro
            refine ⟨fun w' K hK => ?_, ?_⟩
            (focus
              go_simp
              exact hK)
            refine os_yld hS0 rfl rfl rfl (Nat.le_of_ble_eq_true rfl) ?_
            apply Exists.intro
            refine ⟨fun w' hS' K hK => ?_, ?_⟩
            (focus
              obtain ⟨hcc, hff⟩ := bcellB (Below.undr hS')
              clear hS'
              go_simp
              exact hK)
            refine os_move rfl rfl rfl (Nat.le_of_ble_eq_true rfl) ?_
            apply Exists.intro
            refine ⟨fun w' K hK => ?_, ?_⟩
            (focus
              go_simp
              exact hK)
            refine os_move rfl rfl rfl (Nat.le_of_ble_eq_true rfl) ?_
            apply Exists.intro
            refine ⟨fun w' K hK => ?_, ?_⟩
            (focus
              go_simp
              exact hK)
            refine os_move rfl rfl rfl (Nat.le_of_ble_eq_true rfl) ?_
            apply Exists.intro
            refine ⟨fun w' K hK => ?_, ?_⟩
            (focus
              go_simp
              exact hK)
            refine os_yld hS0 rfl rfl rfl (Nat.le_of_ble_eq_true rfl) ?_
            apply Exists.intro
            refine ⟨fun w' hS' K hK => ?_, ?_⟩
            (focus
              obtain ⟨hcc, hff⟩ := bcellB (Below.undr hS')
              clear hS'
              go_simp
              exact hK)
            refine os_move rfl rfl rfl (Nat.le_of_ble_eq_true rfl) ?_
            apply Exists.intro
            refine ⟨fun w' K hK => ?_, ?_⟩
            (focus
              go_simp
              exact hK)
            refine os_move rfl rfl rfl (Nat.le_of_ble_eq_true rfl) ?_
            apply Exists.intro
            refine ⟨fun w' K hK => ?_, ?_⟩
            (focus
              go_simp
              exact hK)
            refine os_move rfl rfl rfl (Nat.le_of_ble_eq_true rfl) ?_
            apply Exists.intro
            refine ⟨fun w' K hK => ?_, ?_⟩
            (focus
              go_simp
              exact hK)
            refine os_move rfl rfl rfl (Nat.le_of_ble_eq_true rfl) ?_
            apply Exists.intro
            refine ⟨fun w' K hK => ?_, ?_⟩
            (focus
              go_simp
              exact hK)
            refine os_done ⟨rfl, ?_⟩
            clear hcr lb
            go_wp2_with fail
            refine (Write_any Dd.out.a.disk Dd.out.a.ok (aS_done _ _ _ (by have := hk40.out; omega) (by have := hk40.out; omega)) 3 St.out (fun j hj => ⟨Nat.lt_of_lt_of_le hj Dd.out.a.bel.size, not_foot_of Dd.out.a hj⟩) (by omega)).mono ?_
            rintro e w5 ⟨rfl, hst⟩
            rw [e5.out]
            rw [e5.out] at hst
            obtain ⟨va3, s3⟩ := Dd.out.stepA hst (aS_ok ls N (k + 1) (by have := hk40.out; omega) (by have := hk40.out; omega))
            have D5 : Hid (DS2 w w5 ga (aS ls N (k + 1)) va3 gb (bS ls N k) vb2) := s3
            have St5 := Lib.hid (row_take (Hs.out.belF D5.out.a.bel (fun _ h => h)) 200 (by omega))
            clear hst s3 Dd St
            go_wp2_with fail
            refine (Write_any D5.out.b.disk D5.out.b.ok (bS_done _ _ _ (by have := hk40.out; omega)) 3 St5.out (fun j hj => ⟨Nat.lt_of_lt_of_le hj D5.out.b.bel.size, not_foot_of D5.out.b hj⟩) (by omega)).mono ?_
            rintro e w6 ⟨rfl, hst⟩
            rw [e6.out]
            rw [e6.out] at hst
            obtain ⟨vb3, s3⟩ := D5.out.stepB hst (bS_ok ls N (k + 1) (by have := hk40.out; omega) (by have := hk40.out; omega))
            have D6 : Hid (DS2 w w6 ga (aS ls N (k + 1)) va3 gb (bS ls N (k + 1)) vb3) := s3
            clear hst s3 D5 St5
            go_wp2_with fail
            go_roundw
            case rel => exact ⟨k + 1, va3, vb3, by omega, by go_num, D6.out⟩
            case measure => simp [intOf]; omega
          · have r1 : (N : Int) < (k : Int) := by omega
            have e5 := Lib.hid (aS_step ls N k hkl.out hl40.out)
            rw [if_neg (by omega)] at e5
            have e6 := Lib.hid (bS_stay ls N k hkN)
            clear hkN hkk h200 hcc hlt hcap
            go_wp2_with fail
            refine wp_calm ?_
            refine wp_region_os (fun _ w' => Below (wr).drew.heap.size (wr).drew w') [3, 7] (.move 0 (.move 1 (.move 2 (.take 3 (.move 4 (.move 5 (.move 6 (.take 7 (.move 8 (.move 9 (.move 10 (.move 11 .done)))))))))))) (by kernel_rfl) (by kernel_rfl) (fun _ _ _ _ _ h => nomatch h.1) ?_
            have hS0 : Below (wr).drew.heap.size (wr).drew (wr).drew := Below.refl _ _
            refine os_move rfl rfl rfl (Nat.le_of_ble_eq_true rfl) ?_
            apply Exists.intro
            refine ⟨fun w' K hK => ?_, ?_⟩
            (focus
              go_simp
              exact hK)
            refine os_move rfl rfl rfl (Nat.le_of_ble_eq_true rfl) ?_
            apply Exists.intro
            refine ⟨fun w' K hK => ?_, ?_⟩
            (focus
              go_simp
              exact hK)
            refine os_move rfl rfl rfl (Nat.le_of_ble_eq_true rfl) ?_
            apply Exists.intro
            refine ⟨fun w' K hK => ?_, ?_⟩
            (focus
              go_simp
              exact hK)
            refine os_yld hS0 rfl rfl rfl (Nat.le_of_ble_eq_true rfl) ?_
            apply Exists.intro
            refine ⟨fun w' hS' K hK => ?_, ?_⟩
            (focus
              obtain ⟨hcc, hff⟩ := bcellB (Below.undr hS')
              clear hS'
              go_simp
              exact hK)
            refine os_move rfl rfl rfl (Nat.le_of_ble_eq_true rfl) ?_
            apply Exists.intro
            refine ⟨fun w' K hK => ?_, ?_⟩
            (focus
              go_simp
              exact hK)
            refine os_move rfl rfl rfl (Nat.le_of_ble_eq_true rfl) ?_
            apply Exists.intro
            refine ⟨fun w' K hK => ?_, ?_⟩
            (focus
              go_simp
              exact hK)
            refine os_move rfl rfl rfl (Nat.le_of_ble_eq_true rfl) ?_
            apply Exists.intro
            refine ⟨fun w' K hK => ?_, ?_⟩
            (focus
              go_simp
              exact hK)
            refine os_yld hS0 rfl rfl rfl (Nat.le_of_ble_eq_true rfl) ?_
            apply Exists.intro
            refine ⟨fun w' hS' K hK => ?_, ?_⟩
            (focus
              obtain ⟨hcc, hff⟩ := bcellB (Below.undr hS')
              clear hS'
              go_simp
              exact hK)
            refine os_move rfl rfl rfl (Nat.le_of_ble_eq_true rfl) ?_
            apply Exists.intro
            refine ⟨fun w' K hK => ?_, ?_⟩
            (focus
              go_simp
              exact hK)
            refine os_move rfl rfl rfl (Nat.le_of_ble_eq_true rfl) ?_
            apply Exists.intro
            refine ⟨fun w' K hK => ?_, ?_⟩
            (focus
              go_simp
              exact hK)
            refine os_move rfl rfl rfl (Nat.le_of_ble_eq_true rfl) ?_
            apply Exists.intro
            refine ⟨fun w' K hK => ?_, ?_⟩
            (focus
              go_simp
              exact hK)
            refine os_move rfl rfl rfl (Nat.le_of_ble_eq_true rfl) ?_
            apply Exists.intro
            refine ⟨fun w' K hK => ?_, ?_⟩
            (focus
              go_simp
              exact hK)
            refine os_done ⟨rfl, ?_⟩
            clear hcr lb
            go_wp2_with fail
            refine (Write_any Dd.out.a.disk Dd.out.a.ok (aS_done _ _ _ (by have := hk40.out; omega) (by have := hk40.out; omega)) 3 St.out (fun j hj => ⟨Nat.lt_of_lt_of_le hj Dd.out.a.bel.size, not_foot_of Dd.out.a hj⟩) (by omega)).mono ?_
            rintro e w5 ⟨rfl, hst⟩
            rw [e5.out]
            rw [e5.out] at hst
            obtain ⟨va3, s3⟩ := Dd.out.stepA hst (aS_ok ls N (k + 1) (by have := hk40.out; omega) (by have := hk40.out; omega))
            have D5 : Hid (DS2 w w5 ga (aS ls N (k + 1)) va3 gb (bS ls N k) vb2) := s3
            have St5 := Lib.hid (row_take (Hs.out.belF D5.out.a.bel (fun _ h => h)) 200 (by omega))
            clear hst s3 Dd St
            go_wp2_with fail
            have D6 : Hid (DS2 w w5 ga (aS ls N (k + 1)) va3 gb (bS ls N (k + 1)) vb2) := by show DS2 _ _ _ _ _ _ _ _; rw [e6.out]; exact D5.out
            clear D5 St5
            go_roundw
            case rel => exact ⟨k + 1, va3, vb2, by omega, by go_num, D6.out⟩
            case measure => simp [intOf]; omega
      · have hkn : k = n := by omega
        subst hkn
        have hc41 : Hid (k ≤ 40 ∧ N ≤ k) := ⟨hn40.out, HNn.out⟩
        have hdn : Hid (N < k ∨ N = k) := by have := HNn.out; show _ ∨ _; omega
        clear hlt hk
        rcases hdn.out with hd | hd
        · have hdI : (N : Int) < (k : Int) := by omega
          obtain ⟨C, hCe⟩ : ∃ C, C = catR ls (N + 1) := ⟨_, rfl⟩
          have hC : Hid (C.length ≤ 8200) := by have := catR_len ls (N + 1); have := hc41.out; rw [hCe]; show _ ≤ _; omega
          have DE : Hid (DS2 w wr ga (thD C 0 true (-1) (N + 1)) va2 gb (thD C 0 false (-1) (N + 1)) vb2) := by
            have h := HD.out
            unfold aS bS at h
            rw [if_neg (by omega), show min k (N + 1) = N + 1 by omega, ← hCe] at h
            exact h
          have hcn : Hid ((N + 1) ≤ 41) := by have := hc41.out; show _ ≤ _; omega
          clear hCe HD hdn hc41 HNn hn40
          go_wp2_with fail
          refine (Down_any DE.out.a.disk).mono ?_
          rintro e w' ⟨rfl, rfl⟩
          rw [show (thD C 0 true (-1) (N + 1)).off = true from rfl]
          go_wp2_with fail
          refine (Read_any DE.out.a.disk DE.out.a.ok 3).mono ?_
          rintro e wa ⟨Awa, mwa, cwa, rfl, hown, hb⟩
          rw [th_read] at hown
          have hmwa : mwa = C.length := by have := hown.1; rw [bs_length] at this; omega
          subst hmwa
          have Ra := Lib.hid (Sl.of_own hown)
          have DEwa := Lib.hid (DE.out.old hb)
          have hbwa := Lib.hid hb
          clear hown hb DE
          go_wp2_with fail
          refine (Read_any DEwa.out.b.disk DEwa.out.b.ok 3).mono ?_
          rintro e wb ⟨Awb, mwb, cwb, rfl, hown, hb⟩
          rw [th_read] at hown
          have hmwb : mwb = C.length := by have := hown.1; rw [bs_length] at this; omega
          subst hmwb
          have Rb := Lib.hid (Sl.of_own hown)
          have DEwawb := Lib.hid (DEwa.out.old hb)
          have hbwb := Lib.hid hb
          clear hown hb DEwa
          go_wp2_with fail
          refine (Same_at (Ra.out.belF hbwb.out (fun k hk => hk.2.1)) Rb.out (by have := hC.out; omega) (by have := hC.out; omega) true (by simp)).mono ?_
          rintro e w' ⟨rfl, kk, rfl⟩
          have DF := Lib.hid (DEwawb.out.old (Below.drN _ kk))
          generalize wb.drewN kk = DFw at DF ⊢
          clear Ra Rb DEwawb hbwa hbwb
          go_wp2_with fail
          refine (Count_any DF.out.a.disk).mono ?_
          rintro e w' ⟨rfl, rfl⟩
          rw [show (thD C 0 true (-1) (N + 1)).done = (N + 1) from rfl]
          go_wp2_with fail
          refine (Count_any DF.out.b.disk).mono ?_
          rintro e w' ⟨rfl, rfl⟩
          rw [show (thD C 0 false (-1) (N + 1)).done = (N + 1) from rfl]
          go_wp2_with fail
          have ez : Hid (syncD (thD C 0 true (-1) (N + 1)) 3 = (9, thD C 0 true (-1) (N + 1))) := by show _ = _; unfold syncD; rw [th_down]
          refine (Sync_any DF.out.a.disk DF.out.a.ok (by show N + 1 ≤ _; have := hcn.out; omega) 3).mono ?_
          rintro e wq0 ⟨rfl, hst⟩
          rw [ez.out]
          rw [ez.out] at hst
          obtain ⟨vq0, s3⟩ := DF.out.stepA hst DF.out.a.ok
          have DQ0 : Hid (DS2 w wq0 ga (thD C 0 true (-1) (N + 1)) vq0 gb (thD C 0 false (-1) (N + 1)) vb2) := s3
          clear hst s3 ez DF
          go_wp2_with fail
          have ez : Hid (cutD (thD C 0 true (-1) (N + 1)) 3 0 = (9, thD C 0 true (-1) (N + 1))) := by show _ = _; unfold cutD; rw [th_down]
          refine (Cut_any DQ0.out.a.disk DQ0.out.a.ok (by show N + 1 ≤ _; have := hcn.out; omega) 3 0).mono ?_
          rintro e wq1 ⟨rfl, hst⟩
          rw [ez.out]
          rw [ez.out] at hst
          obtain ⟨vq1, s3⟩ := DQ0.out.stepA hst DQ0.out.a.ok
          have DQ1 : Hid (DS2 w wq1 ga (thD C 0 true (-1) (N + 1)) vq1 gb (thD C 0 false (-1) (N + 1)) vb2) := s3
          clear hst s3 ez DQ0
          go_wp2_with fail
          have ez : Hid (overD (thD C 0 true (-1) (N + 1)) 3 0 [] = (9, thD C 0 true (-1) (N + 1))) := by show _ = _; unfold overD; rw [th_down]
          refine (Over_any DQ1.out.a.disk DQ1.out.a.ok (by show N + 1 ≤ _; have := hcn.out; omega) 3 0 (Sl.nil_ _ (fun _ => False)) (fun k hk => hk.elim) (by decide)).mono ?_
          rintro e wq2 ⟨rfl, hst⟩
          rw [ez.out]
          rw [ez.out] at hst
          obtain ⟨vq2, s3⟩ := DQ1.out.stepA hst DQ1.out.a.ok
          have DQ2 : Hid (DS2 w wq2 ga (thD C 0 true (-1) (N + 1)) vq2 gb (thD C 0 false (-1) (N + 1)) vb2) := s3
          clear hst s3 ez DQ1
          go_wp2_with fail
          have ez : Hid (writeD (thD C 0 true (-1) (N + 1)) 99 [] = (9, thD C 0 true (-1) (N + 1))) := by show _ = _; unfold writeD; rw [th_down]
          refine (Write_any DQ2.out.a.disk DQ2.out.a.ok (by show N + 1 ≤ _; have := hcn.out; omega) 99 (Sl.nil_ _ (fun _ => False)) (fun k hk => hk.elim) (by decide)).mono ?_
          rintro e wq3 ⟨rfl, hst⟩
          rw [ez.out]
          rw [ez.out] at hst
          obtain ⟨vq3, s3⟩ := DQ2.out.stepA hst DQ2.out.a.ok
          have DQ3 : Hid (DS2 w wq3 ga (thD C 0 true (-1) (N + 1)) vq3 gb (thD C 0 false (-1) (N + 1)) vb2) := s3
          clear hst s3 ez DQ2
          go_wp2_with fail
          have KI : Hid (IntSl (wq3.alloc (.cells #[.int .i64 1048576] 3)) (fun k => k = wq3.heap.size) (some ⟨wq3.heap.size, 0, none⟩) 1 1 [1048576]) := int_block wq3 (l := [1048576]) (by decide)
          have DG := Lib.hid (DQ3.out.old (Below.al wq3 (.cells #[.int .i64 1048576] 3)))
          have NFa := Lib.hid (not_foot DQ3.out.a.disk (Nat.le_refl wq3.heap.size))
          clear DQ3
          refine (Crash_any DG.out.a.disk DG.out.a.ok KI.out (fun k hk => ⟨by rw [hk]; simp, by rw [hk]; exact NFa.out⟩) (by decide)).mono ?_
          rintro e wc ⟨rfl, hst⟩
          rw [th_crash C (by have := hC.out; omega)] at hst
          obtain ⟨vc, s3⟩ := DG.out.stepA hst (th_ok (by have := hC.out; omega) (Nat.le_refl _) _ (by decide) (by decide) _)
          have DH := Lib.hid s3
          clear hst s3 DG KI NFa
          go_wp2_with fail
          refine (Read_any DH.out.a.disk DH.out.a.ok 3).mono ?_
          rintro e wd ⟨Awd, mwd, cwd, rfl, hown, hb⟩
          rw [th_read] at hown
          have hmwd : mwd = C.length := by have := hown.1; rw [bs_length] at this; omega
          subst hmwd
          have Rc := Lib.hid (Sl.of_own hown)
          have DHwd := Lib.hid (DH.out.old hb)
          have hbwd := Lib.hid hb
          clear hown hb DH
          go_wp2_with fail
          refine (Read_any DHwd.out.b.disk DHwd.out.b.ok 3).mono ?_
          rintro e we ⟨Awe, mwe, cwe, rfl, hown, hb⟩
          rw [th_read] at hown
          have hmwe : mwe = C.length := by have := hown.1; rw [bs_length] at this; omega
          subst hmwe
          have Rd_ := Lib.hid (Sl.of_own hown)
          have DHwdwe := Lib.hid (DHwd.out.old hb)
          have hbwe := Lib.hid hb
          clear hown hb DHwd
          go_wp2_with fail
          refine (Same_at (Rc.out.belF hbwe.out (fun k hk => hk.2.1)) Rd_.out (by have := hC.out; omega) (by have := hC.out; omega) true (by simp)).mono ?_
          rintro e w' ⟨rfl, kk, rfl⟩
          have DI := Lib.hid (DHwdwe.out.old (Below.drN _ kk))
          generalize we.drewN kk = DIw at DI ⊢
          clear Rc Rd_ DHwdwe hbwd hbwe
          go_wp2_with fail
          refine (Down_any DI.out.a.disk).mono ?_
          rintro e w' ⟨rfl, rfl⟩
          rw [show (thD C C.length false (-1) (N + 1)).off = false from rfl]
          go_wp2_with fail
          refine (Sync_any DI.out.a.disk DI.out.a.ok (by show (N + 1) ≤ _; have := hcn.out; omega) 3).mono ?_
          rintro e wf ⟨rfl, hst⟩
          rw [th_sync]
          rw [th_sync] at hst
          obtain ⟨vf, s3⟩ := DI.out.stepA hst (th_ok (by have := hC.out; omega) (Nat.le_refl _) _ (by decide) (by decide) _)
          have BF := Lib.hid s3.a.bel
          clear hst s3 DI
          go_wp2_with fail
          refine (known_any _).mono ?_
          rintro e wz ⟨rfl, hbz⟩
          have BZ := Lib.hid (Below.tr BF.out hbz)
          clear hbz BF
          go_wp2_with fail
          go_ret
          exact ⟨rfl, BZ.out⟩
        · subst hd
          obtain ⟨C, hCe⟩ : ∃ C, C = catR ls N := ⟨_, rfl⟩
          have hC : Hid (C.length ≤ 8200) := by have := catR_len ls N; have := hc41.out; rw [hCe]; show _ ≤ _; omega
          have DE : Hid (DS2 w wr ga (thD C 0 false 0 N) va2 gb (thD C 0 false (-1) N) vb2) := by
            have h := HD.out
            unfold aS bS at h
            rw [if_pos (Nat.le_refl _), show min N (N + 1) = N by omega, ← hCe, show (N : Int) - (N : Nat) = 0 by omega] at h
            exact h
          have hcn : Hid (N ≤ 41) := by have := hc41.out; show _ ≤ _; omega
          clear hCe HD hdn hc41 HNn hn40
          go_wp2_with fail
          refine (Down_any DE.out.a.disk).mono ?_
          rintro e w' ⟨rfl, rfl⟩
          rw [show (thD C 0 false 0 N).off = false from rfl]
          go_wp2_with fail
          refine (Read_any DE.out.a.disk DE.out.a.ok 3).mono ?_
          rintro e wa ⟨Awa, mwa, cwa, rfl, hown, hb⟩
          rw [th_read] at hown
          have hmwa : mwa = C.length := by have := hown.1; rw [bs_length] at this; omega
          subst hmwa
          have Ra := Lib.hid (Sl.of_own hown)
          have DEwa := Lib.hid (DE.out.old hb)
          have hbwa := Lib.hid hb
          clear hown hb DE
          go_wp2_with fail
          refine (Read_any DEwa.out.b.disk DEwa.out.b.ok 3).mono ?_
          rintro e wb ⟨Awb, mwb, cwb, rfl, hown, hb⟩
          rw [th_read] at hown
          have hmwb : mwb = C.length := by have := hown.1; rw [bs_length] at this; omega
          subst hmwb
          have Rb := Lib.hid (Sl.of_own hown)
          have DEwawb := Lib.hid (DEwa.out.old hb)
          have hbwb := Lib.hid hb
          clear hown hb DEwa
          go_wp2_with fail
          refine (Same_at (Ra.out.belF hbwb.out (fun k hk => hk.2.1)) Rb.out (by have := hC.out; omega) (by have := hC.out; omega) true (by simp)).mono ?_
          rintro e w' ⟨rfl, kk, rfl⟩
          have DF := Lib.hid (DEwawb.out.old (Below.drN _ kk))
          generalize wb.drewN kk = DFw at DF ⊢
          clear Ra Rb DEwawb hbwa hbwb
          go_wp2_with fail
          refine (Count_any DF.out.a.disk).mono ?_
          rintro e w' ⟨rfl, rfl⟩
          rw [show (thD C 0 false 0 N).done = N from rfl]
          go_wp2_with fail
          refine (Count_any DF.out.b.disk).mono ?_
          rintro e w' ⟨rfl, rfl⟩
          rw [show (thD C 0 false (-1) N).done = N from rfl]
          go_wp2_with fail
          have KI : Hid (IntSl (DFw.alloc (.cells #[.int .i64 1048576] 3)) (fun k => k = DFw.heap.size) (some ⟨DFw.heap.size, 0, none⟩) 1 1 [1048576]) := int_block DFw (l := [1048576]) (by decide)
          have DG := Lib.hid (DF.out.old (Below.al DFw (.cells #[.int .i64 1048576] 3)))
          have NFa := Lib.hid (not_foot DF.out.a.disk (Nat.le_refl DFw.heap.size))
          clear DF
          refine (Crash_any DG.out.a.disk DG.out.a.ok KI.out (fun k hk => ⟨by rw [hk]; simp, by rw [hk]; exact NFa.out⟩) (by decide)).mono ?_
          rintro e wc ⟨rfl, hst⟩
          rw [th_crash C (by have := hC.out; omega)] at hst
          obtain ⟨vc, s3⟩ := DG.out.stepA hst (th_ok (by have := hC.out; omega) (Nat.le_refl _) _ (by decide) (by decide) _)
          have DH := Lib.hid s3
          clear hst s3 DG KI NFa
          go_wp2_with fail
          refine (Read_any DH.out.a.disk DH.out.a.ok 3).mono ?_
          rintro e wd ⟨Awd, mwd, cwd, rfl, hown, hb⟩
          rw [th_read] at hown
          have hmwd : mwd = C.length := by have := hown.1; rw [bs_length] at this; omega
          subst hmwd
          have Rc := Lib.hid (Sl.of_own hown)
          have DHwd := Lib.hid (DH.out.old hb)
          have hbwd := Lib.hid hb
          clear hown hb DH
          go_wp2_with fail
          refine (Read_any DHwd.out.b.disk DHwd.out.b.ok 3).mono ?_
          rintro e we ⟨Awe, mwe, cwe, rfl, hown, hb⟩
          rw [th_read] at hown
          have hmwe : mwe = C.length := by have := hown.1; rw [bs_length] at this; omega
          subst hmwe
          have Rd_ := Lib.hid (Sl.of_own hown)
          have DHwdwe := Lib.hid (DHwd.out.old hb)
          have hbwe := Lib.hid hb
          clear hown hb DHwd
          go_wp2_with fail
          refine (Same_at (Rc.out.belF hbwe.out (fun k hk => hk.2.1)) Rd_.out (by have := hC.out; omega) (by have := hC.out; omega) true (by simp)).mono ?_
          rintro e w' ⟨rfl, kk, rfl⟩
          have DI := Lib.hid (DHwdwe.out.old (Below.drN _ kk))
          generalize we.drewN kk = DIw at DI ⊢
          clear Rc Rd_ DHwdwe hbwd hbwe
          go_wp2_with fail
          refine (Down_any DI.out.a.disk).mono ?_
          rintro e w' ⟨rfl, rfl⟩
          rw [show (thD C C.length false (-1) N).off = false from rfl]
          go_wp2_with fail
          refine (Sync_any DI.out.a.disk DI.out.a.ok (by show N ≤ _; have := hcn.out; omega) 3).mono ?_
          rintro e wf ⟨rfl, hst⟩
          rw [th_sync]
          rw [th_sync] at hst
          obtain ⟨vf, s3⟩ := DI.out.stepA hst (th_ok (by have := hC.out; omega) (Nat.le_refl _) _ (by decide) (by decide) _)
          have BF := Lib.hid s3.a.bel
          clear hst s3 DI
          go_wp2_with fail
          refine (known_any _).mono ?_
          rintro e wz ⟨rfl, hbz⟩
          have BZ := Lib.hid (Below.tr BF.out hbz)
          clear hbz BF
          go_wp2_with fail
          go_ret
          exact ⟨rfl, BZ.out⟩
  · have hn2 : (40 : Int) < (n : Int) := by omega
    clear hn
    go_wp2_with fail
    refine (known_any _).mono ?_
    rintro e wz ⟨rfl, hbz⟩
    have BZ := Lib.hid (Below.tr D0.out.a.bel hbz)
    clear hbz
    go_wp2_with fail
    go_ret
    exact ⟨rfl, BZ.out⟩
theorem DiskStrikes_row (w : World) {A : Option Addr} {n c : Nat} {ls : List (List UInt8)} (h : NsSl w (Old w) A n c ls) (hnb : n ≤ 140737488351232) (m : Int) (hm : (Lit.int .i64 m).wf = true) :
    Calls Try.prog 5 #[.slice A n c, .int .i64 m] w fun e w' => e = .returned (.bool true) ∧ Below w.heap.size w w' := DiskStrikes_any w h hnb hm
end Go.Proofs.Ytjfnpndpigpaiaa
