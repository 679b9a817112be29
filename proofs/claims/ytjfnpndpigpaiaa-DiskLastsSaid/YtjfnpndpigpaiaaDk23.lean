/- The disk: writes, begins. -/
import Derived.Test.YtjfnpndpigpaiaaDk22
import Derived.Test.YtjfnpndpigpaiaaDk21
import Derived.Test.YtjfnpndpigpaiaaOpnD
namespace Go.Proofs.Ytjfnpndpigpaiaa
open Go.RowKit
attribute [local go_sem] yld yldUpon_value

theorem begins_yes {w : World} {F G : Nat → Prop} {A B : Option Addr} {n c m d : Nat} {l a : List UInt8} (h : Sl w F A n c l) (h' : Sl w G B m d a) (hb : beginB l a = true) (hn : n ≤ 1000000000) :
    Calls Try.prog 15 #[.slice A n c, .slice B m d] w fun e w' => e = .returned (.bool true) ∧ ∃ k, w' = w.drewN k := by
  have H := Lib.hid h; have H' := Lib.hid h'
  have hl := h.len; have hl' := h'.len; have hcap := h.cap
  unfold beginB at hb
  simp only [Bool.and_eq_true, decide_eq_true_eq, beq_iff_eq] at hb
  have Ht : Hid (Sl w F A m c a) := by
    have h2 : Sl w F A n c (l.take a.length ++ l.drop a.length) := by rw [List.take_append_drop]; exact h
    rw [hb.2] at h2
    exact Sl.take_ h2 hl'
  have hmn : m ≤ n := by omega
  have hmI : (m : Int) ≤ (n : Int) := by omega
  have hmc : (m : Int) ≤ (c : Int) := by omega
  have hm0 : (0 : Int) ≤ (m : Int) := by omega
  have hd : decide (n < m) = false := decide_eq_false (by omega)
  clear h h' hb hl hl'
  go_enter Try.func15, Try.ntmps15
  go_wp2_with fail
  refine (Same_at Ht.out H'.out (by omega) (by omega) true (by simp)).mono ?_
  rintro e w' ⟨rfl, kk, rfl⟩
  go_wp2_with fail
  go_ret
  exact ⟨rfl, kk, rfl⟩
/-- what writes leave -/
structure WrI (w0 w wr : World) (g : Nat) (D : DD) (vs : Vs) (k : Nat) (D1 : DD) (vs1 : Vs) : Prop where
  ds : DS w0 wr g D1 vs1
  ext : Ext D D1
  fr : Fr (dfoot g vs) w wr
  foot : ∀ j, dfoot g vs1 j → dfoot g vs j ∨ w.heap.size ≤ j
  done : D1.done ≤ D.done + k
theorem WrI.old {w0 w wr wx : World} {g : Nat} {D : DD} {vs : Vs} {k : Nat} {D1 : DD} {vs1 : Vs} (h : WrI w0 w wr g D vs k D1 vs1) (hb : Below wr.heap.size wr wx) : WrI w0 w wx g D vs k D1 vs1 :=
  ⟨h.ds.old hb, h.ext, h.fr.tr (Fr.of_below hb), h.foot, h.done⟩
theorem WrI.step {w0 w wr wx : World} {g : Nat} {D : DD} {vs : Vs} {k : Nat} {D1 : DD} {vs1 : Vs} (h : WrI w0 w wr g D vs k D1 vs1) {f : Nat} (hf : f < 5) (b : List UInt8) (hs : Dstep g vs1 wr wx (writeD D1 (f : Nat) b).2) : ∃ vs2, WrI w0 w wx g D vs (k + 1) (writeD D1 (f : Nat) b).2 vs2 := by
  obtain ⟨vs2, s, fr, ft⟩ := h.ds.step hs (h.ds.ok.write _ _)
  refine ⟨vs2, s, h.ext.write h.ds.ok.len hf b, h.fr.trans fr (fun i hi hj => (h.foot i hj).resolve_right (by omega)), fun j hj => ?_, ?_⟩
  · rcases ft j hj with hj | hj
    · exact h.foot j hj
    · exact .inr (Nat.le_trans h.fr.size hj)
  · have h1 : (writeD D1 (f : Nat) b).2.done ≤ D1.done + 1 := opD_done _ _
    have := h.done; omega
set_option maxRecDepth 100000 in
set_option maxHeartbeats 8000000 in
theorem writes_any {w0 w : World} {g : Nat} {D : DD} {vs : Vs} (h : DS w0 w g D vs) (hc : Calm D) (hdn : D.done ≤ 1000) {A : Option Addr} {n c : Nat} {ps : List PutR} (hp : PsSl w0 (Old w0) A n c ps) :
    Calls Try.prog 11 #[.pointer (some ⟨g, 0, none⟩), .slice A n c] w fun e w' => ∃ D1 vs1, e = .returned (.bool true) ∧ WrI w0 w w' g D vs 40 D1 vs1 := by
  have HP := Lib.hid hp; have HD := Lib.hid hdn
  have S0 : Hid (WrI w0 w w g D vs 0 D vs) := ⟨h, Ext.refl hc, Fr.refl _ _, fun _ hj => .inl hj, Nat.le_refl _⟩
  clear h hc hdn hp
  go_enter Try.func11, Try.ntmps11
  go_wp2_with fail
  go_loopw [5] (fun i wr => ∃ (k : Nat) (D1 : DD) (vs1 : Vs), k ≤ 40 ∧ i = .int .i64 (k : Nat) ∧ Hid (WrI w0 w wr g D vs k D1 vs1)) (fun i _ => 40 - (intOf i).toNat)
  case atStart => exact ⟨0, D, vs, Nat.zero_le _, rfl, S0.out⟩
  case round =>
    clear S0
    obtain ⟨k, D1, vs1, hk, rfl, HI⟩ := hrel
    by_cases hlt : k < n ∧ k < 40
    · have hlI : (k : Int) < (n : Int) := by omega
      have hl4 : (k : Int) < 40 := by omega
      have hk0 : (0 : Int) ≤ (k : Int) := by omega
      have hkl : Hid (k < ps.length) := by show _ < _; rw [HP.out.len]; exact hlt.1
      have hk40 : Hid (k < 40) := hlt.2
      obtain ⟨b, o, A1, n1, c1, hA, hb, hwf, hc0, hc, hs⟩ := HP.out.at_ k hkl.out
      subst hA
      generalize ps[k]'hkl.out = pk at hwf hc0 hs
      have hcf := cell_bel hc0 HI.out.ds.bel
      have hcr := cell_bel hc HI.out.ds.bel
      have lb := block_lt_of hcr
      have Hs := Lib.hid hs
      have hcap := hs.cap
      obtain ⟨fi, hfi⟩ : ∃ fi, fi = pk.f := ⟨_, rfl⟩
      rw [← hfi] at hcf
      have hp5 : Hid (∃ p : Nat, (if (5 : Int) < 1 then 0 else fi % 5) = (p : Int) ∧ p < 5) := by
        refine ⟨(fi % 5).toNat, ?_, ?_⟩
        · rw [if_neg (by decide)]; have := Int.emod_nonneg fi (b := 5) (by decide); omega
        · have := Int.emod_lt_of_pos fi (b := 5) (by decide); omega
      obtain ⟨p, hpe, hp5'⟩ := hp5.out
      have Hpe := Lib.hid hpe; have Hp5 := Lib.hid hp5'
      obtain ⟨U, hU⟩ : ∃ U, U = usedL D1.fs := ⟨_, rfl⟩
      obtain ⟨R, hR⟩ : ∃ R, R = D1.room := ⟨_, rfl⟩
      have hUR := HI.out.ds.ok.used; have hRb := HI.out.ds.ok.room
      rw [← hU, ← hR] at hUR
      rw [← hR] at hRb
      have HU := Lib.hid hU; have HR := Lib.hid hR
      have HI1 := Lib.hid (HI.out.old (Below.dr1 wr))
      clear hc0 hc hs hwf hb hfi hpe hp5' hp5 hU hR HI
      rcases Nat.lt_or_ge 200 n1 with h200 | h200
      · skip
        have q1 : (200 : Int) < (n1 : Int) := by omega
        have q2 : (200 : Int) ≤ (c1 : Int) := by omega
        have q3 : (200 : Int) ≤ (n1 : Int) := by omega
        have St := Lib.hid (row_take (Hs.out.belF HI1.out.ds.bel (fun _ h => h)) 200 (by omega))
        have hlen := St.out.len
        have hwc := write_calm HI1.out.ext.calm (show p < 33 by have := Hp5.out; omega) (pk.l.take 200)
        have hst5 := fun wx (hs : Dstep g vs1 wr.drew wx (writeD D1 (p : Nat) (pk.l.take 200)).2) => HI1.out.step Hp5.out _ hs
        have Hst5 := Lib.hid hst5
        have hub := (HI1.out.ds.ok.write (p : Nat) (pk.l.take 200)).used
        have hrb : (writeD D1 (p : Nat) (pk.l.take 200)).2.room = R := by
          rw [hwc, HR.out]; split <;> rfl
        rw [hrb] at hub
        obtain ⟨U2, hU2⟩ : ∃ U2, U2 = usedL (writeD D1 (p : Nat) (pk.l.take 200)).2.fs := ⟨_, rfl⟩
        rw [← hU2] at hub
        have HU2 := Lib.hid hU2; have Hrb := Lib.hid hrb
        have hub2 : (U2 : Int) ≤ (R : Int) := by omega
        rw [hlen, ← HU.out, ← HR.out] at hwc
        have Hwc := Lib.hid hwc
        clear hst5 hrb hU2 hwc hlen hcap
        by_cases hfit : U + 200 ≤ R
        · skip
          have hfI : (U : Int) + (200 : Int) ≤ (R : Int) := by omega
          have He := Lib.hid (show (writeD D1 (p : Nat) (pk.l.take 200)).1 = 0 by rw [Hwc.out, if_pos hfit])
          clear hfit Hwc hlt h200
          go_wp2_with fail
          refine wp_calm ?_
          refine wp_region_os (fun _ w' => Below (wr).drew.heap.size (wr).drew w') [4, 9] (.move 0 (.move 1 (.move 2 (.move 3 (.take 4 (.move 5 (.move 6 (.move 7 (.move 8 (.take 9 (.move 10 (.move 11 (.move 12 (.move 13 .done)))))))))))))) (by kernel_rfl) (by kernel_rfl) (fun _ _ _ _ _ h => nomatch h.1) ?_
          have hS0 : Below (wr).drew.heap.size (wr).drew (wr).drew := Below.refl _ _
          refine os_move rfl rfl rfl (Nat.le_of_ble_eq_true rfl) ?_
          apply Exists.intro
          refine ⟨fun w' K hK => ?_, ?_⟩
          (focus
            go_simp
            exact hK)
          refine os_move rfl rfl rfl (Nat.le_of_ble_eq_true rfl) ?_
          apply Exists.intro
          refine ⟨fun w' K hK => ?_, ?_⟩
          (focus
            go_simp
            exact hK)
          refine os_move rfl rfl rfl (Nat.le_of_ble_eq_true rfl) ?_
          apply Exists.intro
          refine ⟨fun w' K hK => ?_, ?_⟩
          (focus
            go_simp
            exact hK)
          refine os_move rfl rfl rfl (Nat.le_of_ble_eq_true rfl) ?_
          apply Exists.intro
          refine ⟨fun w' K hK => ?_, ?_⟩
          (focus
            go_simp
            exact hK)
          refine os_yld hS0 rfl rfl rfl (Nat.le_of_ble_eq_true rfl) ?_
          apply Exists.intro
          refine ⟨fun w' hS' K hK => ?_, ?_⟩
          (focus
            obtain ⟨hcc, hff⟩ := bcellB (Below.undr hS')
            clear hS'
            go_simp
            exact hK)
          refine os_move rfl rfl rfl (Nat.le_of_ble_eq_true rfl) ?_
          apply Exists.intro
          refine ⟨fun w' K hK => ?_, ?_⟩
          (focus
            go_simp
            exact hK)
          refine os_move rfl rfl rfl (Nat.le_of_ble_eq_true rfl) ?_
          apply Exists.intro
          refine ⟨fun w' K hK => ?_, ?_⟩
          (focus
            go_simp
            exact hK)
          refine os_move rfl rfl rfl (Nat.le_of_ble_eq_true rfl) ?_
          apply Exists.intro
          refine ⟨fun w' K hK => ?_, ?_⟩
          (focus
            go_simp
            exact hK)
          refine os_move rfl rfl rfl (Nat.le_of_ble_eq_true rfl) ?_
          apply Exists.intro
          refine ⟨fun w' K hK => ?_, ?_⟩
          (focus
            go_simp
            exact hK)
          refine os_yld hS0 rfl rfl rfl (Nat.le_of_ble_eq_true rfl) ?_
          apply Exists.intro
          refine ⟨fun w' hS' K hK => ?_, ?_⟩
          (focus
            obtain ⟨hcc, hff⟩ := bcellB (Below.undr hS')
            clear hS'
            go_simp
            exact hK)
          refine os_move rfl rfl rfl (Nat.le_of_ble_eq_true rfl) ?_
          apply Exists.intro
          refine ⟨fun w' K hK => ?_, ?_⟩
          (focus
            go_simp
            exact hK)
          refine os_move rfl rfl rfl (Nat.le_of_ble_eq_true rfl) ?_
          apply Exists.intro
          refine ⟨fun w' K hK => ?_, ?_⟩
          (focus
            go_simp
            exact hK)
          refine os_move rfl rfl rfl (Nat.le_of_ble_eq_true rfl) ?_
          apply Exists.intro
          refine ⟨fun w' K hK => ?_, ?_⟩
          (focus
            go_simp
            exact hK)
          refine os_move rfl rfl rfl (Nat.le_of_ble_eq_true rfl) ?_
          apply Exists.intro
          refine ⟨fun w' K hK => ?_, ?_⟩
          (focus
            go_simp
            exact hK)
          refine os_done ⟨rfl, ?_⟩
          clear hcr
          go_wp2_with fail
          refine (Used_any HI1.out.ds.disk (by have := HI1.out.ds.ok.used; have := HI1.out.ds.ok.room; omega)).mono ?_
          rintro e w' ⟨rfl, rfl⟩
          rw [← HU.out]
          go_wp2_with fail
          refine (Room_any HI1.out.ds.disk).mono ?_
          rintro e w' ⟨rfl, rfl⟩
          rw [← HR.out]
          go_wp2_with fail
          refine (Pick_any fi 5 wr.drew (by decide)).mono ?_
          rintro e w' ⟨rfl, rfl⟩
          rw [Hpe.out]
          clear hcf lb
          go_wp2_with fail
          refine (Write_any HI1.out.ds.disk HI1.out.ds.ok (by have := HI1.out.done; have := HD.out; have := hk40.out; omega) (p : Nat) St.out (fun j hj => ⟨Nat.lt_of_lt_of_le hj HI1.out.ds.bel.size, not_foot_of HI1.out.ds hj⟩) (by omega)).mono ?_
          rintro e w5 ⟨rfl, hst⟩
          obtain ⟨vs2, s2⟩ := Hst5.out w5 hst
          have HI2 := Lib.hid s2
          rw [He.out]
          clear hst s2 HI1 St Hst5 He
          go_wp2_with fail
          refine (Used_any HI2.out.ds.disk (by have := HI2.out.ds.ok.used; have := HI2.out.ds.ok.room; omega)).mono ?_
          rintro e w' ⟨rfl, rfl⟩
          rw [← HU2.out]
          go_wp2_with fail
          refine (Room_any HI2.out.ds.disk).mono ?_
          rintro e w' ⟨rfl, rfl⟩
          rw [Hrb.out]
          go_wp2_with fail
          go_roundw
          case rel => exact ⟨k + 1, _, vs2, by have := hk40.out; omega, by go_num, HI2.out⟩
          case measure => simp [intOf]; have := hk40.out; omega
        · skip
          have hfI : (R : Int) < (U : Int) + (200 : Int) := by omega
          have He := Lib.hid (show (writeD D1 (p : Nat) (pk.l.take 200)).1 = 8 by rw [Hwc.out, if_neg hfit])
          clear hfit Hwc hlt h200
          go_wp2_with fail
          refine wp_calm ?_
          refine wp_region_os (fun _ w' => Below (wr).drew.heap.size (wr).drew w') [4, 9] (.move 0 (.move 1 (.move 2 (.move 3 (.take 4 (.move 5 (.move 6 (.move 7 (.move 8 (.take 9 (.move 10 (.move 11 (.move 12 (.move 13 .done)))))))))))))) (by kernel_rfl) (by kernel_rfl) (fun _ _ _ _ _ h => nomatch h.1) ?_
          have hS0 : Below (wr).drew.heap.size (wr).drew (wr).drew := Below.refl _ _
          refine os_move rfl rfl rfl (Nat.le_of_ble_eq_true rfl) ?_
          apply Exists.intro
          refine ⟨fun w' K hK => ?_, ?_⟩
          (focus
            go_simp
            exact hK)
          refine os_move rfl rfl rfl (Nat.le_of_ble_eq_true rfl) ?_
          apply Exists.intro
          refine ⟨fun w' K hK => ?_, ?_⟩
          (focus
            go_simp
            exact hK)
          refine os_move rfl rfl rfl (Nat.le_of_ble_eq_true rfl) ?_
          apply Exists.intro
          refine ⟨fun w' K hK => ?_, ?_⟩
          (focus
            go_simp
            exact hK)
          refine os_move rfl rfl rfl (Nat.le_of_ble_eq_true rfl) ?_
          apply Exists.intro
          refine ⟨fun w' K hK => ?_, ?_⟩
          (focus
            go_simp
            exact hK)
          refine os_yld hS0 rfl rfl rfl (Nat.le_of_ble_eq_true rfl) ?_
          apply Exists.intro
          refine ⟨fun w' hS' K hK => ?_, ?_⟩
          (focus
            obtain ⟨hcc, hff⟩ := bcellB (Below.undr hS')
            clear hS'
            go_simp
            exact hK)
          refine os_move rfl rfl rfl (Nat.le_of_ble_eq_true rfl) ?_
          apply Exists.intro
          refine ⟨fun w' K hK => ?_, ?_⟩
          (focus
            go_simp
            exact hK)
          refine os_move rfl rfl rfl (Nat.le_of_ble_eq_true rfl) ?_
          apply Exists.intro
          refine ⟨fun w' K hK => ?_, ?_⟩
          (focus
            go_simp
            exact hK)
          refine os_move rfl rfl rfl (Nat.le_of_ble_eq_true rfl) ?_
          apply Exists.intro
          refine ⟨fun w' K hK => ?_, ?_⟩
          (focus
            go_simp
            exact hK)
          refine os_move rfl rfl rfl (Nat.le_of_ble_eq_true rfl) ?_
          apply Exists.intro
          refine ⟨fun w' K hK => ?_, ?_⟩
          (focus
            go_simp
            exact hK)
          refine os_yld hS0 rfl rfl rfl (Nat.le_of_ble_eq_true rfl) ?_
          apply Exists.intro
          refine ⟨fun w' hS' K hK => ?_, ?_⟩
          (focus
            obtain ⟨hcc, hff⟩ := bcellB (Below.undr hS')
            clear hS'
            go_simp
            exact hK)
          refine os_move rfl rfl rfl (Nat.le_of_ble_eq_true rfl) ?_
          apply Exists.intro
          refine ⟨fun w' K hK => ?_, ?_⟩
          (focus
            go_simp
            exact hK)
          refine os_move rfl rfl rfl (Nat.le_of_ble_eq_true rfl) ?_
          apply Exists.intro
          refine ⟨fun w' K hK => ?_, ?_⟩
          (focus
            go_simp
            exact hK)
          refine os_move rfl rfl rfl (Nat.le_of_ble_eq_true rfl) ?_
          apply Exists.intro
          refine ⟨fun w' K hK => ?_, ?_⟩
          (focus
            go_simp
            exact hK)
          refine os_move rfl rfl rfl (Nat.le_of_ble_eq_true rfl) ?_
          apply Exists.intro
          refine ⟨fun w' K hK => ?_, ?_⟩
          (focus
            go_simp
            exact hK)
          refine os_done ⟨rfl, ?_⟩
          clear hcr
          go_wp2_with fail
          refine (Used_any HI1.out.ds.disk (by have := HI1.out.ds.ok.used; have := HI1.out.ds.ok.room; omega)).mono ?_
          rintro e w' ⟨rfl, rfl⟩
          rw [← HU.out]
          go_wp2_with fail
          refine (Room_any HI1.out.ds.disk).mono ?_
          rintro e w' ⟨rfl, rfl⟩
          rw [← HR.out]
          go_wp2_with fail
          refine (Pick_any fi 5 wr.drew (by decide)).mono ?_
          rintro e w' ⟨rfl, rfl⟩
          rw [Hpe.out]
          clear hcf lb
          go_wp2_with fail
          refine (Write_any HI1.out.ds.disk HI1.out.ds.ok (by have := HI1.out.done; have := HD.out; have := hk40.out; omega) (p : Nat) St.out (fun j hj => ⟨Nat.lt_of_lt_of_le hj HI1.out.ds.bel.size, not_foot_of HI1.out.ds hj⟩) (by omega)).mono ?_
          rintro e w5 ⟨rfl, hst⟩
          obtain ⟨vs2, s2⟩ := Hst5.out w5 hst
          have HI2 := Lib.hid s2
          rw [He.out]
          clear hst s2 HI1 St Hst5 He
          go_wp2_with fail
          refine (Used_any HI2.out.ds.disk (by have := HI2.out.ds.ok.used; have := HI2.out.ds.ok.room; omega)).mono ?_
          rintro e w' ⟨rfl, rfl⟩
          rw [← HU2.out]
          go_wp2_with fail
          refine (Room_any HI2.out.ds.disk).mono ?_
          rintro e w' ⟨rfl, rfl⟩
          rw [Hrb.out]
          go_wp2_with fail
          go_roundw
          case rel => exact ⟨k + 1, _, vs2, by have := hk40.out; omega, by go_num, HI2.out⟩
          case measure => simp [intOf]; have := hk40.out; omega
      · skip
        have q1 : (n1 : Int) ≤ 200 := by omega
        have q2 : (n1 : Int) ≤ (c1 : Int) := by omega
        have q0 : (0 : Int) ≤ (n1 : Int) := by omega
        have hmin : (if (200 : Int) < (n1 : Int) then (200 : Int) else (n1 : Int)) = (n1 : Int) := if_neg (by omega)
        have St := Lib.hid (row_take (Hs.out.belF HI1.out.ds.bel (fun _ h => h)) n1 (by omega))
        have hlen := St.out.len
        have hwc := write_calm HI1.out.ext.calm (show p < 33 by have := Hp5.out; omega) (pk.l.take 200)
        have hst5 := fun wx (hs : Dstep g vs1 wr.drew wx (writeD D1 (p : Nat) (pk.l.take 200)).2) => HI1.out.step Hp5.out _ hs
        have Hst5 := Lib.hid hst5
        have hub := (HI1.out.ds.ok.write (p : Nat) (pk.l.take 200)).used
        have hrb : (writeD D1 (p : Nat) (pk.l.take 200)).2.room = R := by
          rw [hwc, HR.out]; split <;> rfl
        rw [hrb] at hub
        obtain ⟨U2, hU2⟩ : ∃ U2, U2 = usedL (writeD D1 (p : Nat) (pk.l.take 200)).2.fs := ⟨_, rfl⟩
        rw [← hU2] at hub
        have HU2 := Lib.hid hU2; have Hrb := Lib.hid hrb
        have hub2 : (U2 : Int) ≤ (R : Int) := by omega
        rw [hlen, ← HU.out, ← HR.out] at hwc
        have Hwc := Lib.hid hwc
        clear hst5 hrb hU2 hwc hlen hcap
        by_cases hfit : U + n1 ≤ R
        · skip
          have hfI : (U : Int) + (n1 : Int) ≤ (R : Int) := by omega
          have He := Lib.hid (show (writeD D1 (p : Nat) (pk.l.take 200)).1 = 0 by rw [Hwc.out, if_pos hfit])
          clear hfit Hwc hlt h200
          go_wp2_with fail
          refine wp_calm ?_
          refine wp_region_os (fun _ w' => Below (wr).drew.heap.size (wr).drew w') [4, 9] (.move 0 (.move 1 (.move 2 (.move 3 (.take 4 (.move 5 (.move 6 (.move 7 (.move 8 (.take 9 (.move 10 (.move 11 (.move 12 (.move 13 .done)))))))))))))) (by kernel_rfl) (by kernel_rfl) (fun _ _ _ _ _ h => nomatch h.1) ?_
          have hS0 : Below (wr).drew.heap.size (wr).drew (wr).drew := Below.refl _ _
          refine os_move rfl rfl rfl (Nat.le_of_ble_eq_true rfl) ?_
          apply Exists.intro
          refine ⟨fun w' K hK => ?_, ?_⟩
          (focus
            go_simp
            exact hK)
          refine os_move rfl rfl rfl (Nat.le_of_ble_eq_true rfl) ?_
          apply Exists.intro
          refine ⟨fun w' K hK => ?_, ?_⟩
          (focus
            go_simp
            exact hK)
          refine os_move rfl rfl rfl (Nat.le_of_ble_eq_true rfl) ?_
          apply Exists.intro
          refine ⟨fun w' K hK => ?_, ?_⟩
          (focus
            go_simp
            exact hK)
          refine os_move rfl rfl rfl (Nat.le_of_ble_eq_true rfl) ?_
          apply Exists.intro
          refine ⟨fun w' K hK => ?_, ?_⟩
          (focus
            go_simp
            exact hK)
          refine os_yld hS0 rfl rfl rfl (Nat.le_of_ble_eq_true rfl) ?_
          apply Exists.intro
          refine ⟨fun w' hS' K hK => ?_, ?_⟩
          (focus
            obtain ⟨hcc, hff⟩ := bcellB (Below.undr hS')
            clear hS'
            go_simp
            exact hK)
          refine os_move rfl rfl rfl (Nat.le_of_ble_eq_true rfl) ?_
          apply Exists.intro
          refine ⟨fun w' K hK => ?_, ?_⟩
          (focus
            go_simp
            exact hK)
          refine os_move rfl rfl rfl (Nat.le_of_ble_eq_true rfl) ?_
          apply Exists.intro
          refine ⟨fun w' K hK => ?_, ?_⟩
          (focus
            go_simp
            exact hK)
          refine os_move rfl rfl rfl (Nat.le_of_ble_eq_true rfl) ?_
          apply Exists.intro
          refine ⟨fun w' K hK => ?_, ?_⟩
          (focus
            go_simp
            exact hK)
          refine os_move rfl rfl rfl (Nat.le_of_ble_eq_true rfl) ?_
          apply Exists.intro
          refine ⟨fun w' K hK => ?_, ?_⟩
          (focus
            go_simp
            exact hK)
          refine os_yld hS0 rfl rfl rfl (Nat.le_of_ble_eq_true rfl) ?_
          apply Exists.intro
          refine ⟨fun w' hS' K hK => ?_, ?_⟩
          (focus
            obtain ⟨hcc, hff⟩ := bcellB (Below.undr hS')
            clear hS'
            go_simp
            exact hK)
          refine os_move rfl rfl rfl (Nat.le_of_ble_eq_true rfl) ?_
          apply Exists.intro
          refine ⟨fun w' K hK => ?_, ?_⟩
          (focus
            go_simp
            exact hK)
          refine os_move rfl rfl rfl (Nat.le_of_ble_eq_true rfl) ?_
          apply Exists.intro
          refine ⟨fun w' K hK => ?_, ?_⟩
          (focus
            go_simp
            exact hK)
          refine os_move rfl rfl rfl (Nat.le_of_ble_eq_true rfl) ?_
          apply Exists.intro
          refine ⟨fun w' K hK => ?_, ?_⟩
          (focus
            go_simp
            exact hK)
          refine os_move rfl rfl rfl (Nat.le_of_ble_eq_true rfl) ?_
          apply Exists.intro
          refine ⟨fun w' K hK => ?_, ?_⟩
          (focus
            go_simp
            exact hK)
          refine os_done ⟨rfl, ?_⟩
          clear hcr
          go_wp2_with fail
          refine (Used_any HI1.out.ds.disk (by have := HI1.out.ds.ok.used; have := HI1.out.ds.ok.room; omega)).mono ?_
          rintro e w' ⟨rfl, rfl⟩
          rw [← HU.out]
          go_wp2_with fail
          refine (Room_any HI1.out.ds.disk).mono ?_
          rintro e w' ⟨rfl, rfl⟩
          rw [← HR.out]
          go_wp2_with fail
          refine (Pick_any fi 5 wr.drew (by decide)).mono ?_
          rintro e w' ⟨rfl, rfl⟩
          rw [Hpe.out]
          clear hcf lb
          go_wp2_with fail
          refine (Write_any HI1.out.ds.disk HI1.out.ds.ok (by have := HI1.out.done; have := HD.out; have := hk40.out; omega) (p : Nat) St.out (fun j hj => ⟨Nat.lt_of_lt_of_le hj HI1.out.ds.bel.size, not_foot_of HI1.out.ds hj⟩) (by omega)).mono ?_
          rintro e w5 ⟨rfl, hst⟩
          obtain ⟨vs2, s2⟩ := Hst5.out w5 hst
          have HI2 := Lib.hid s2
          rw [He.out]
          clear hst s2 HI1 St Hst5 He
          go_wp2_with fail
          refine (Used_any HI2.out.ds.disk (by have := HI2.out.ds.ok.used; have := HI2.out.ds.ok.room; omega)).mono ?_
          rintro e w' ⟨rfl, rfl⟩
          rw [← HU2.out]
          go_wp2_with fail
          refine (Room_any HI2.out.ds.disk).mono ?_
          rintro e w' ⟨rfl, rfl⟩
          rw [Hrb.out]
          go_wp2_with fail
          go_roundw
          case rel => exact ⟨k + 1, _, vs2, by have := hk40.out; omega, by go_num, HI2.out⟩
          case measure => simp [intOf]; have := hk40.out; omega
        · skip
          have hfI : (R : Int) < (U : Int) + (n1 : Int) := by omega
          have He := Lib.hid (show (writeD D1 (p : Nat) (pk.l.take 200)).1 = 8 by rw [Hwc.out, if_neg hfit])
          clear hfit Hwc hlt h200
          go_wp2_with fail
          refine wp_calm ?_
          refine wp_region_os (fun _ w' => Below (wr).drew.heap.size (wr).drew w') [4, 9] (.move 0 (.move 1 (.move 2 (.move 3 (.take 4 (.move 5 (.move 6 (.move 7 (.move 8 (.take 9 (.move 10 (.move 11 (.move 12 (.move 13 .done)))))))))))))) (by kernel_rfl) (by kernel_rfl) (fun _ _ _ _ _ h => nomatch h.1) ?_
          have hS0 : Below (wr).drew.heap.size (wr).drew (wr).drew := Below.refl _ _
          refine os_move rfl rfl rfl (Nat.le_of_ble_eq_true rfl) ?_
          apply Exists.intro
          refine ⟨fun w' K hK => ?_, ?_⟩
          (focus
            go_simp
            exact hK)
          refine os_move rfl rfl rfl (Nat.le_of_ble_eq_true rfl) ?_
          apply Exists.intro
          refine ⟨fun w' K hK => ?_, ?_⟩
          (focus
            go_simp
            exact hK)
          refine os_move rfl rfl rfl (Nat.le_of_ble_eq_true rfl) ?_
          apply Exists.intro
          refine ⟨fun w' K hK => ?_, ?_⟩
          (focus
            go_simp
            exact hK)
          refine os_move rfl rfl rfl (Nat.le_of_ble_eq_true rfl) ?_
          apply Exists.intro
          refine ⟨fun w' K hK => ?_, ?_⟩
          (focus
            go_simp
            exact hK)
          refine os_yld hS0 rfl rfl rfl (Nat.le_of_ble_eq_true rfl) ?_
          apply Exists.intro
          refine ⟨fun w' hS' K hK => ?_, ?_⟩
          (focus
            obtain ⟨hcc, hff⟩ := bcellB (Below.undr hS')
            clear hS'
            go_simp
            exact hK)
          refine os_move rfl rfl rfl (Nat.le_of_ble_eq_true rfl) ?_
          apply Exists.intro
          refine ⟨fun w' K hK => ?_, ?_⟩
          (focus
            go_simp
            exact hK)
          refine os_move rfl rfl rfl (Nat.le_of_ble_eq_true rfl) ?_
          apply Exists.intro
          refine ⟨fun w' K hK => ?_, ?_⟩
          (focus
            go_simp
            exact hK)
          refine os_move rfl rfl rfl (Nat.le_of_ble_eq_true rfl) ?_
          apply Exists.intro
          refine ⟨fun w' K hK => ?_, ?_⟩
          (focus
            go_simp
            exact hK)
          refine os_move rfl rfl rfl (Nat.le_of_ble_eq_true rfl) ?_
          apply Exists.intro
          refine ⟨fun w' K hK => ?_, ?_⟩
          (focus
            go_simp
            exact hK)
          refine os_yld hS0 rfl rfl rfl (Nat.le_of_ble_eq_true rfl) ?_
          apply Exists.intro
          refine ⟨fun w' hS' K hK => ?_, ?_⟩
          (focus
            obtain ⟨hcc, hff⟩ := bcellB (Below.undr hS')
            clear hS'
            go_simp
            exact hK)
          refine os_move rfl rfl rfl (Nat.le_of_ble_eq_true rfl) ?_
          apply Exists.intro
          refine ⟨fun w' K hK => ?_, ?_⟩
          (focus
            go_simp
            exact hK)
          refine os_move rfl rfl rfl (Nat.le_of_ble_eq_true rfl) ?_
          apply Exists.intro
          refine ⟨fun w' K hK => ?_, ?_⟩
          (focus
            go_simp
            exact hK)
          refine os_move rfl rfl rfl (Nat.le_of_ble_eq_true rfl) ?_
          apply Exists.intro
          refine ⟨fun w' K hK => ?_, ?_⟩
          (focus
            go_simp
            exact hK)
          refine os_move rfl rfl rfl (Nat.le_of_ble_eq_true rfl) ?_
          apply Exists.intro
          refine ⟨fun w' K hK => ?_, ?_⟩
          (focus
            go_simp
            exact hK)
          refine os_done ⟨rfl, ?_⟩
          clear hcr
          go_wp2_with fail
          refine (Used_any HI1.out.ds.disk (by have := HI1.out.ds.ok.used; have := HI1.out.ds.ok.room; omega)).mono ?_
          rintro e w' ⟨rfl, rfl⟩
          rw [← HU.out]
          go_wp2_with fail
          refine (Room_any HI1.out.ds.disk).mono ?_
          rintro e w' ⟨rfl, rfl⟩
          rw [← HR.out]
          go_wp2_with fail
          refine (Pick_any fi 5 wr.drew (by decide)).mono ?_
          rintro e w' ⟨rfl, rfl⟩
          rw [Hpe.out]
          clear hcf lb
          go_wp2_with fail
          refine (Write_any HI1.out.ds.disk HI1.out.ds.ok (by have := HI1.out.done; have := HD.out; have := hk40.out; omega) (p : Nat) St.out (fun j hj => ⟨Nat.lt_of_lt_of_le hj HI1.out.ds.bel.size, not_foot_of HI1.out.ds hj⟩) (by omega)).mono ?_
          rintro e w5 ⟨rfl, hst⟩
          obtain ⟨vs2, s2⟩ := Hst5.out w5 hst
          have HI2 := Lib.hid s2
          rw [He.out]
          clear hst s2 HI1 St Hst5 He
          go_wp2_with fail
          refine (Used_any HI2.out.ds.disk (by have := HI2.out.ds.ok.used; have := HI2.out.ds.ok.room; omega)).mono ?_
          rintro e w' ⟨rfl, rfl⟩
          rw [← HU2.out]
          go_wp2_with fail
          refine (Room_any HI2.out.ds.disk).mono ?_
          rintro e w' ⟨rfl, rfl⟩
          rw [Hrb.out]
          go_wp2_with fail
          go_roundw
          case rel => exact ⟨k + 1, _, vs2, by have := hk40.out; omega, by go_num, HI2.out⟩
          case measure => simp [intOf]; have := hk40.out; omega
    · have HF : Hid (WrI w0 w wr g D vs 40 D1 vs1) := ⟨HI.out.ds, HI.out.ext, HI.out.fr, HI.out.foot, by have := HI.out.done; omega⟩
      have hcase : (n : Int) ≤ (k : Int) ∨ ((k : Int) < (n : Int) ∧ (40 : Int) ≤ (k : Int)) := by omega
      clear hlt HI
      rcases hcase with h1 | ⟨h1, h2⟩
      all_goals
        go_wp2_with fail
        go_ret
        exact ⟨D1, vs1, rfl, HF.out⟩
end Go.Proofs.Ytjfnpndpigpaiaa
