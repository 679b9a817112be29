/- The reference's disk: Write. -/
import Derived.Test.YtjfnpndpigpaiaaDr5
namespace Go.Proofs.Ytjfnpndpigpaiaa
open Go.RowKit
attribute [local go_sem] yld yldUpon_value

theorem writeD_off {D : DD} (h : D.off = true) (f : Int) (b : List UInt8) : writeD D f b = (9, D) := by unfold writeD opD; rw [if_pos h]
theorem writeD_ref {D : DD} (h : D.off = false) (f : Int) (b : List UInt8) {r : Int} (hr : writeR D f b = r) (h0 : r ≠ 0) : writeD D f b = (r, D) := by
  unfold writeD opD; rw [hr, if_neg (by rw [h]; decide), if_pos h0]
theorem writeD_do {D : DD} (h : D.off = false) (m : Nat) (b : List UInt8) (hr : writeR D m b = 0) : writeD D m b = (if D.left = 0 then 9 else 0, { (strikeD D).put m ⟨(D.file m).d ++ b, (D.file m).k⟩ with done := D.done + 1 }) := by
  unfold writeD opD strikeD DD.writeF
  rw [hr, if_neg (by rw [h]; decide), if_neg (by simp), Int.toNat_natCast]
  split <;> rfl
theorem strike_file (D : DD) (m : Nat) : (strikeD D).file m = D.file m := by unfold strikeD; split <;> rfl
theorem strike_done (D : DD) : (strikeD D).done = D.done := by unfold strikeD; split <;> rfl
set_option maxHeartbeats 2000000 in
theorem RWrite_any {w : World} {g : Nat} {D : DD} {R : Nat → Prop} (h : Ref w g D R) (ok : DOK D) (hdn : D.done ≤ 1000000000) (f : Int) {F : Nat → Prop} {B : Option Addr} {n c : Nat} {b : List UInt8} (hS : Sl w F B n c b) (hF : ∀ k, F k → k < w.heap.size ∧ k ≠ g) (hm : n ≤ 1000000) :
    Calls Try.prog 40 #[.pointer (some ⟨g, 0, none⟩), .int .i64 f, .slice B n c] w fun e w' => e = .returned (.int .i64 (writeD D f b).1) ∧ Rstep g R w w' (writeD D f b).2 := by
  have H := Lib.hid h; have OK := Lib.hid ok; have HN := Lib.hid hdn; have HS := Lib.hid hS; have HF := Lib.hid hF
  have hoff : w.cell? ⟨g, 67, none⟩ = some (.bool D.off) := by obtain ⟨L, vs, h⟩ := h; exact h.cOff
  have lg := h.gt
  have LB := Lib.hid hS.len
  clear h ok hdn hS hF
  cases ho : D.off with
  | true =>
    rw [writeD_off ho]
    rw [ho] at hoff
    clear ho
    go_enter Try.func40, Try.ntmps40
    go_wp2_with fail
    go_ret
    exact ⟨rfl, Rstep.refl H.out⟩
  | false =>
    rw [ho] at hoff
    rcases okF_cases f with ⟨h1, h3⟩ | ⟨h1, h2, h3⟩ | ⟨m, rfl, hm3, h3⟩
    · have hr : writeR D f b = 1 := by unfold writeR; rw [h3]; rfl
      rw [writeD_ref ho f b hr (by decide)]
      clear ho h3 hr
      go_enter Try.func40, Try.ntmps40
      go_wp2_with fail
      go_ret
      exact ⟨rfl, Rstep.refl H.out⟩
    · have hr : writeR D f b = 1 := by unfold writeR; rw [h3]; rfl
      rw [writeD_ref ho f b hr (by decide)]
      clear ho h3 hr
      go_enter Try.func40, Try.ntmps40
      go_wp2_with fail
      go_ret
      exact ⟨rfl, Rstep.refl H.out⟩
    · have hm33 : (m : Int) < 33 := by omega
      have hm32 : (m : Int) ≤ 32 := by omega
      have Hm := Lib.hid hm3
      obtain ⟨U, hU⟩ : ∃ U, U = usedL D.fs := ⟨_, rfl⟩
      obtain ⟨T, hT⟩ : ∃ T, T = D.room := ⟨_, rfl⟩
      have HU := Lib.hid hU; have HT := Lib.hid hT
      have hub : U ≤ 262144 := by rw [hU]; exact Nat.le_trans OK.out.used OK.out.room
      have hroom : w.cell? ⟨g, 0, none⟩ = some (.int .i64 (T : Nat)) := by obtain ⟨L, vs, h⟩ := H.out; rw [hT]; exact h.cRoom
      have hwr : writeR D m b = if (n : Int) > (T : Int) - U then 8 else 0 := by unfold writeR; rw [h3, if_pos rfl, LB.out, ← hU, ← hT]
      have hwrap : IntKind.i64.wrap ((U : Int) + (n : Int)) = (U : Int) + (n : Int) := by rw [IntKind.wrap_i64]; omega
      clear hU hT hm3 h3
      by_cases hfull : (n : Int) > (T : Int) - U
      · rw [if_pos hfull] at hwr
        rw [writeD_ref ho m b hwr (by decide)]
        have hfI : (T : Int) < (U : Int) + (n : Int) := by omega
        clear ho hwr hfull
        go_enter Try.func40, Try.ntmps40
        go_wp2_with fail
        refine wp_calm ?_
        refine wp_region_os (fun _ w' => Below (w).drew.heap.size (w).drew w') [8] (.move 0 (.move 2 (.move 3 (.move 5 (.move 6 (.move 7 (.take 8 (.run 1 [8] (.move 4 (.move 9 .done)))))))))) (by kernel_rfl) (by kernel_rfl) (fun _ _ _ _ _ h => nomatch h.1) ?_
        have hS0 : Below (w).drew.heap.size (w).drew (w).drew := Below.refl _ _
        refine os_move rfl rfl rfl (Nat.le_of_ble_eq_true rfl) ?_
        apply Exists.intro
        refine ⟨fun w' K hK => ?_, ?_⟩
        (focus
          go_simp
          exact hK)
        refine os_move rfl rfl rfl (Nat.le_of_ble_eq_true rfl) ?_
        apply Exists.intro
        refine ⟨fun w' K hK => ?_, ?_⟩
        (focus
          go_simp
          exact hK)
        refine os_move rfl rfl rfl (Nat.le_of_ble_eq_true rfl) ?_
        apply Exists.intro
        refine ⟨fun w' K hK => ?_, ?_⟩
        (focus
          go_simp
          exact hK)
        refine os_move rfl rfl rfl (Nat.le_of_ble_eq_true rfl) ?_
        apply Exists.intro
        refine ⟨fun w' K hK => ?_, ?_⟩
        (focus
          go_simp
          exact hK)
        refine os_move rfl rfl rfl (Nat.le_of_ble_eq_true rfl) ?_
        apply Exists.intro
        refine ⟨fun w' K hK => ?_, ?_⟩
        (focus
          go_simp
          exact hK)
        refine os_move rfl rfl rfl (Nat.le_of_ble_eq_true rfl) ?_
        apply Exists.intro
        refine ⟨fun w' K hK => ?_, ?_⟩
        (focus
          go_simp
          exact hK)
        refine os_yld hS0 rfl rfl rfl (Nat.le_of_ble_eq_true rfl) ?_
        apply Exists.intro
        refine ⟨fun w' hS' K hK => ?_, ?_⟩
        (focus
          obtain ⟨hcc, hff⟩ := bcellB (Below.undr hS')
          clear hS'
          go_simp
          exact hK)
        refine os_run rfl rfl (fun K hK => ?_)
        go_wp2_with fail
        refine (RUsed_any (H.out.bel (Below.undr hS0)) OK.out).mono ?_
        rintro e w1 ⟨rfl, x1, rfl⟩
        rw [← HU.out]
        go_wp2_with fail
        refine ⟨fun _ _ h => Below.tr h (Below.drd w (1 + x1)), ?_⟩
        replace hS0 := Below.tr hS0 (Below.drd w (1 + x1))
        refine os_move rfl rfl rfl (Nat.le_of_ble_eq_true rfl) ?_
        apply Exists.intro
        refine ⟨fun w' K hK => ?_, ?_⟩
        (focus
          go_simp
          exact hK)
        refine os_move rfl rfl rfl (Nat.le_of_ble_eq_true rfl) ?_
        apply Exists.intro
        refine ⟨fun w' K hK => ?_, ?_⟩
        (focus
          go_simp
          exact hK)
        refine os_done ⟨rfl, ?_⟩
        have B1 : Hid (Below w.heap.size w (w.drewN (1 + x1))) := Below.drN w _
        clear hS0
        go_wp2_with fail
        go_ret
        exact ⟨rfl, Rstep.old B1.out (Rstep.refl (H.out.bel B1.out))⟩
      · rw [if_neg hfull] at hwr
        rw [writeD_do ho m b hwr]
        have hfI : ¬ (T : Int) < (U : Int) + (n : Int) := by omega
        clear ho hwr hfull
        obtain ⟨dn, hdn⟩ : ∃ dn, dn = D.done := ⟨_, rfl⟩
        have HDN := Lib.hid hdn
        have hdb : dn ≤ 1000000000 := by rw [hdn]; exact HN.out
        obtain ⟨st, hst⟩ : ∃ st, decide (D.left = 0) = st := ⟨_, rfl⟩
        have HST := Lib.hid hst
        have hret : (if D.left = 0 then (9 : Int) else 0) = if st = true then 9 else 0 := by
          rw [← hst]; by_cases h : D.left = 0
          · rw [if_pos h, if_pos (decide_eq_true h)]
          · rw [if_neg h, if_neg (by rw [decide_eq_false h]; decide)]
        rw [hret, ← hdn]
        clear hret hdn hst
        have hfl := OK.out.file_le m
        have hfk := OK.out.file_k m
        obtain ⟨X, hX⟩ : ∃ X : FF, X = ⟨(D.file m).d ++ b, (D.file m).k⟩ := ⟨_, rfl⟩
        have HX := Lib.hid hX
        rw [← hX]
        obtain ⟨n1, hn1⟩ : ∃ n1, n1 = (D.file m).d.length - (D.file m).k := ⟨_, rfl⟩
        have HN1 := Lib.hid hn1
        have hn1b : n1 ≤ 262144 := by omega
        have hn1s : Hid (n1 + n = X.d.length - X.k) := by show _ = _; rw [hX]; simp only [List.length_append, LB.out]; omega
        have hdrop : Hid (X.d.drop X.k = (D.file m).d.drop (D.file m).k ++ b) := by show _ = _; rw [hX]; exact List.drop_append_of_le_length hfk
        have htake : Hid (X.d.take X.k = (D.file m).d.take (D.file m).k) := by show _ = _; rw [hX]; exact List.take_append_of_le_length hfk
        clear hX hn1 hfl hfk
        go_enter Try.func40, Try.ntmps40
        go_wp2_with fail
        refine wp_calm ?_
        refine wp_region_os (fun _ w' => Below (w).drew.heap.size (w).drew w') [8] (.move 0 (.move 2 (.move 3 (.move 5 (.move 6 (.move 7 (.take 8 (.run 1 [8] (.move 4 (.move 9 .done)))))))))) (by kernel_rfl) (by kernel_rfl) (fun _ _ _ _ _ h => nomatch h.1) ?_
        have hS0 : Below (w).drew.heap.size (w).drew (w).drew := Below.refl _ _
        refine os_move rfl rfl rfl (Nat.le_of_ble_eq_true rfl) ?_
        apply Exists.intro
        refine ⟨fun w' K hK => ?_, ?_⟩
        (focus
          go_simp
          exact hK)
        refine os_move rfl rfl rfl (Nat.le_of_ble_eq_true rfl) ?_
        apply Exists.intro
        refine ⟨fun w' K hK => ?_, ?_⟩
        (focus
          go_simp
          exact hK)
        refine os_move rfl rfl rfl (Nat.le_of_ble_eq_true rfl) ?_
        apply Exists.intro
        refine ⟨fun w' K hK => ?_, ?_⟩
        (focus
          go_simp
          exact hK)
        refine os_move rfl rfl rfl (Nat.le_of_ble_eq_true rfl) ?_
        apply Exists.intro
        refine ⟨fun w' K hK => ?_, ?_⟩
        (focus
          go_simp
          exact hK)
        refine os_move rfl rfl rfl (Nat.le_of_ble_eq_true rfl) ?_
        apply Exists.intro
        refine ⟨fun w' K hK => ?_, ?_⟩
        (focus
          go_simp
          exact hK)
        refine os_move rfl rfl rfl (Nat.le_of_ble_eq_true rfl) ?_
        apply Exists.intro
        refine ⟨fun w' K hK => ?_, ?_⟩
        (focus
          go_simp
          exact hK)
        refine os_yld hS0 rfl rfl rfl (Nat.le_of_ble_eq_true rfl) ?_
        apply Exists.intro
        refine ⟨fun w' hS' K hK => ?_, ?_⟩
        (focus
          obtain ⟨hcc, hff⟩ := bcellB (Below.undr hS')
          clear hS'
          go_simp
          exact hK)
        refine os_run rfl rfl (fun K hK => ?_)
        go_wp2_with fail
        refine (RUsed_any (H.out.bel (Below.undr hS0)) OK.out).mono ?_
        rintro e w1 ⟨rfl, x1, rfl⟩
        rw [← HU.out]
        go_wp2_with fail
        refine ⟨fun _ _ h => Below.tr h (Below.drd w (1 + x1)), ?_⟩
        replace hS0 := Below.tr hS0 (Below.drd w (1 + x1))
        refine os_move rfl rfl rfl (Nat.le_of_ble_eq_true rfl) ?_
        apply Exists.intro
        refine ⟨fun w' K hK => ?_, ?_⟩
        (focus
          go_simp
          exact hK)
        refine os_move rfl rfl rfl (Nat.le_of_ble_eq_true rfl) ?_
        apply Exists.intro
        refine ⟨fun w' K hK => ?_, ?_⟩
        (focus
          go_simp
          exact hK)
        refine os_done ⟨rfl, ?_⟩
        have B1 : Hid (Below w.heap.size w (w.drewN (1 + x1))) := Below.drN w _
        clear hS0
        generalize w.drewN (1 + x1) = w1 at B1 ⊢
        go_wp2_with fail
        refine (strikes_any (H.out.bel B1.out) OK.out.lo OK.out.hi).mono ?_
        rintro e w2 ⟨rfl, R2, hr2, hf2, hi2, ho2⟩
        rw [HST.out]
        have F2 : Hid (Fr (fun k => k = g) w w2) := (Fr.of_below B1.out).trans hf2 (fun _ _ e => e)
        have O2 : Hid (∀ k, R2 k → R k ∨ w.heap.size ≤ k) := Lib.hid (fun k hk => by
          rcases ho2 k hk with hk | hk
          · exact .inl hk
          · exact .inr (Nat.le_trans B1.out.size hk))
        have I2 := Lib.hid hi2
        obtain ⟨L2, vs2, h2⟩ := hr2
        have H2 := Lib.hid h2
        have c2 := h2.cLoose m Hm.out
        have s2 := h2.slLoose m Hm.out
        have lg2 := h2.gt
        rw [strike_file, ← HN1.out] at c2 s2
        generalize vA vs2 (2 * m + 1) = A2 at c2 s2
        generalize vC vs2 (2 * m + 1) = k2 at c2 s2
        have S2 := Lib.hid s2
        have RL : Hid (∀ k, R2 k → k < w2.heap.size) := Lib.hid (fun k hk => (h2.rlt k hk).1)
        have SB := Lib.hid (HS.out.fr F2.out HF.out)
        have FB : Hid (∀ k, F k → k < w2.heap.size) := Lib.hid (fun k hk => Nat.lt_of_lt_of_le (HF.out k hk).1 F2.out.size)
        clear hf2 hi2 ho2 h2 s2 B1 hoff hroom
        go_wp2_with fail
        refine wp_calm ?_
        refine wp_region_os (fun _ w' => Below (w2).drew.heap.size (w2).drew w') [8] (.move 0 (.move 1 (.move 2 (.move 3 (.move 4 (.move 5 (.move 6 (.move 7 (.take 8 (.move 10 (.move 12 (.move 13 (.run 9 [] (.run 11 [8] (.move 14 (.move 15 (.run 16 [] .done))))))))))))))))) (by kernel_rfl) (by kernel_rfl) (fun _ _ _ _ _ h => nomatch h.1) ?_
        have hS0 : Below (w2).drew.heap.size (w2).drew (w2).drew := Below.refl _ _
        refine os_move rfl rfl rfl (Nat.le_of_ble_eq_true rfl) ?_
        apply Exists.intro
        refine ⟨fun w' K hK => ?_, ?_⟩
        (focus
          go_simp
          exact hK)
        refine os_move rfl rfl rfl (Nat.le_of_ble_eq_true rfl) ?_
        apply Exists.intro
        refine ⟨fun w' K hK => ?_, ?_⟩
        (focus
          go_simp
          exact hK)
        refine os_move rfl rfl rfl (Nat.le_of_ble_eq_true rfl) ?_
        apply Exists.intro
        refine ⟨fun w' K hK => ?_, ?_⟩
        (focus
          go_simp
          exact hK)
        refine os_move rfl rfl rfl (Nat.le_of_ble_eq_true rfl) ?_
        apply Exists.intro
        refine ⟨fun w' K hK => ?_, ?_⟩
        (focus
          go_simp
          exact hK)
        refine os_move rfl rfl rfl (Nat.le_of_ble_eq_true rfl) ?_
        apply Exists.intro
        refine ⟨fun w' K hK => ?_, ?_⟩
        (focus
          go_simp
          exact hK)
        refine os_move rfl rfl rfl (Nat.le_of_ble_eq_true rfl) ?_
        apply Exists.intro
        refine ⟨fun w' K hK => ?_, ?_⟩
        (focus
          go_simp
          exact hK)
        refine os_move rfl rfl rfl (Nat.le_of_ble_eq_true rfl) ?_
        apply Exists.intro
        refine ⟨fun w' K hK => ?_, ?_⟩
        (focus
          go_simp
          exact hK)
        refine os_move rfl rfl rfl (Nat.le_of_ble_eq_true rfl) ?_
        apply Exists.intro
        refine ⟨fun w' K hK => ?_, ?_⟩
        (focus
          go_simp
          exact hK)
        refine os_yld hS0 rfl rfl rfl (Nat.le_of_ble_eq_true rfl) ?_
        apply Exists.intro
        refine ⟨fun w' hS' K hK => ?_, ?_⟩
        (focus
          obtain ⟨hcc, hff⟩ := bcellB (Below.undr hS')
          clear hS'
          go_simp
          exact hK)
        refine os_move rfl rfl rfl (Nat.le_of_ble_eq_true rfl) ?_
        apply Exists.intro
        refine ⟨fun w' K hK => ?_, ?_⟩
        (focus
          go_simp
          exact hK)
        refine os_move rfl rfl rfl (Nat.le_of_ble_eq_true rfl) ?_
        apply Exists.intro
        refine ⟨fun w' K hK => ?_, ?_⟩
        (focus
          go_simp
          exact hK)
        refine os_move rfl rfl rfl (Nat.le_of_ble_eq_true rfl) ?_
        apply Exists.intro
        refine ⟨fun w' K hK => ?_, ?_⟩
        (focus
          go_simp
          exact hK)
        refine os_run rfl rfl (fun K hK => ?_)
        go_wp2_with fail
        refine (CopyBytes_sl (S2.out.belF (Below.undr hS0) RL.out) (fun k hk => Nat.lt_of_lt_of_le (RL.out k hk) (Below.undr hS0).size) (by omega)).mono ?_
        rintro e w3 ⟨A3, k3, rfl, ho, hb⟩
        have O3 := Lib.hid ho
        have SB3 := Lib.hid (SB.out.belF (Below.tr (Below.undr hS0) hb) FB.out)
        clear ho
        go_wp2_with fail
        refine ⟨fun _ hk => absurd hk List.not_mem_nil, ?_⟩
        replace hS0 := Below.tr hS0 (hb)
        refine os_run rfl rfl (fun K hK => ?_)
        refine wp_append_bytes (.tmp 39) (.tmp 40) rfl w2.heap.size A3 n1 k3 _ rfl O3.out B n c b rfl SB3.out.len SB3.out.rd (by omega) hS0.size ?_
        intro A4 k4 w4 ho4 hg4 _
        have O4 := Lib.hid ho4
        have B4 : Hid (Below w2.heap.size w2 w4) := Below.undr (hS0.grown hg4 hS0.size (fun j hj => (O3.out.lt j hj).1))
        have hc4 := cell_bel c2 B4.out
        have hz4 := (H2.out.bel B4.out).frozen (1 + m * 2 + 1)
        have lg4 : g < w4.heap.size := Nat.lt_of_lt_of_le lg2 B4.out.size
        clear ho4
        refine hK _ _ ⟨fun _ _ _ => hS0.grown hg4 hS0.size (fun j hj => (O3.out.lt j hj).1), ?_⟩
        clear hK
        replace hS0 := hS0.grown hg4 hS0.size (fun j hj => (O3.out.lt j hj).1)
        refine os_move rfl rfl rfl (Nat.le_of_ble_eq_true rfl) ?_
        apply Exists.intro
        refine ⟨fun w' K hK => ?_, ?_⟩
        (focus
          go_simp
          exact hK)
        refine os_move rfl rfl rfl (Nat.le_of_ble_eq_true rfl) ?_
        apply Exists.intro
        refine ⟨fun w' K hK => ?_, ?_⟩
        (focus
          go_simp
          exact hK)
        refine os_run rfl rfl (fun K hK => ?_)
        go_wp2_with fail
        refine ⟨fun _ hk => absurd hk List.not_mem_nil, ?_⟩
        refine os_done ⟨rfl, ?_⟩
        have hst := (H2.out.bel B4.out).storeR (R' := fun k => R2 k ∨ (w.heap.size ≤ k ∧ k < w4.heap.size ∧ k ≠ g)) Hm.out X (A2 := A4) (n2 := n1 + n) (c2 := k4) hn1s.out (by rw [strike_file, HX.out]) (by rw [strike_file]; exact htake.out)
          (by rw [hdrop.out]; exact (Sl.of_own O4.out).mono (fun k hk => .inr ⟨Nat.le_trans F2.out.size hk.1, hk.2.1, by have := hk.1; omega⟩)) (fun k hk => .inl hk) (fun k hk => by
            rcases hk with hk | hk
            · exact ⟨Nat.lt_of_lt_of_le (RL.out k hk) B4.out.size, (H2.out.rlt k hk).2⟩
            · exact hk.2)
        have F5 : Hid (Fr (fun k => k = g) w (w4.setCell ⟨g, 1 + m * 2 + 1, none⟩ (.slice A4 (n1 + n) k4))) := (F2.out.trans (Fr.of_below (M := fun k => k = g) B4.out) (fun _ _ e => e)).trans hst.2 (fun _ _ e => e)
        have H5 := Lib.hid hst.1
        have hc5 : (w4.setCell ⟨g, 1 + m * 2 + 1, none⟩ (.slice A4 (n1 + n) k4)).cell? ⟨g, 70, none⟩ = some (.int .i64 (dn : Nat)) := by
          have := hst.1.cDone
          rw [show ((strikeD D).put m X).done = dn by show (strikeD D).done = dn; rw [strike_done, HDN.out]] at this
          exact this
        have hz5 := hst.1.frozen 70
        have lg5 := hst.1.gt
        have Z4 : Hid (w4.heap.size ≤ (w4.setCell ⟨g, 1 + m * 2 + 1, none⟩ (.slice A4 (n1 + n) k4)).heap.size) := hst.2.size
        generalize w4.setCell ⟨g, 1 + m * 2 + 1, none⟩ (.slice A4 (n1 + n) k4) = w5 at F5 H5 hc5 hz5 lg5 Z4 ⊢
        clear hst hS0 hc4 hz4 lg4 O4 O3 SB3 B4 S2 c2 hg4
        have fin : Hid (Rstep g R w (w5.setCell ⟨g, 70, none⟩ (.int .i64 ((dn + 1 : Nat) : Int))) { (strikeD D).put m X with done := dn + 1 }) := by
          refine ⟨_, ⟨_, _, H5.out.setDone (dn + 1)⟩, F5.out.trans (Fr.of_set (M := fun k => k = g) w5 g 70 _ rfl) (fun _ _ e => e), fun k hk => .inl (I2.out k hk), fun k hk => ?_⟩
          rcases hk with hk | hk
          · exact O2.out k hk
          · exact .inr hk.1
        clear H5 F5
        cases st with
        | true =>
          go_wp2_with fail
          go_ret
          exact ⟨rfl, fin.out⟩
        | false =>
          go_wp2_with fail
          go_ret
          exact ⟨rfl, fin.out⟩
end Go.Proofs.Ytjfnpndpigpaiaa
