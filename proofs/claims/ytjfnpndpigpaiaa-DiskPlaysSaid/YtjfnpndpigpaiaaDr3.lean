/- The reference's disk: Read, Used. -/
import Derived.Test.YtjfnpndpigpaiaaDr2
namespace Go.Proofs.Ytjfnpndpigpaiaa
open Go.RowKit
attribute [local go_sem] yld yldUpon_value

theorem readD_no {D : DD} {f : Int} (h : okF f = false) : readD D f = [] := by unfold readD; rw [h]; rfl
set_option maxHeartbeats 1000000 in
theorem RRead_any {w : World} {g : Nat} {D : DD} {R : Nat → Prop} (h : Ref w g D R) (ok : DOK D) (f : Int) :
    Calls Try.prog 49 #[.pointer (some ⟨g, 0, none⟩), .int .i64 f] w fun e w' => ∃ A n c, e = .returned (.slice A n c) ∧ w'.ownsRow w.heap.size 5 1 (.slice A n c) n (bs (readD D f)) ∧ Below w.heap.size w w' := by
  cases hok : okF f with
  | false =>
    rw [readD_no hok]
    have hf : ¬ (0 ≤ f ∧ f < 33) := by simpa [okF] using hok
    clear h ok hok
    by_cases h0 : f < 0
    · clear hf
      go_enter Try.func49, Try.ntmps49
      go_wp2_with fail
      go_ret
      exact ⟨none, 0, 0, rfl, World.ownsRow_nil _ _ _ _, Below.refl _ _⟩
    · have h1 : 32 < f := by omega
      have h2 : 0 ≤ f := by omega
      clear hf h0
      go_enter Try.func49, Try.ntmps49
      go_wp2_with fail
      go_ret
      exact ⟨none, 0, 0, rfl, World.ownsRow_nil _ _ _ _, Below.refl _ _⟩
  | true =>
    obtain ⟨m, rfl⟩ : ∃ m : Nat, f = m := ⟨f.toNat, by have := okF_iff.1 hok; omega⟩
    have hm : m < 33 := by have := okF_iff.1 hok; omega
    obtain ⟨L, vs, h⟩ := h
    have c1 := h.cLasts m hm
    have c2 := h.cLoose m hm
    have s1 := h.slLasts m hm
    have s2 := h.slLoose m hm
    have hk := ok.file_k m
    have hle := ok.file_le m
    have lg := h.gt
    have RL : Hid (∀ k, R k → k < w.heap.size) := Lib.hid (fun k hk => (h.rlt k hk).1)
    have e : readD D m = (D.file m).d.take (D.file m).k ++ (D.file m).d.drop (D.file m).k := by unfold readD; rw [if_pos hok, Int.toNat_natCast, List.take_append_drop]
    rw [e]
    have hb : (D.file m).k + ((D.file m).d.length - (D.file m).k) ≤ 300000 := by omega
    generalize (D.file m).d.length - (D.file m).k = n2 at c2 s2 hb
    generalize (D.file m).d.take (D.file m).k = l1 at s1 ⊢
    generalize (D.file m).d.drop (D.file m).k = l2 at s2 ⊢
    generalize (D.file m).k = n1 at c1 s1 hb
    generalize vA vs (2 * m) = A1 at c1 s1
    generalize vC vs (2 * m) = k1 at c1 s1
    generalize vA vs (2 * m + 1) = A2 at c2 s2
    generalize vC vs (2 * m + 1) = k2 at c2 s2
    have S1 := Lib.hid s1; have S2 := Lib.hid s2; have HB := Lib.hid hb
    clear s1 s2 hb hk hle h e hok
    have hm32 : (m : Int) ≤ 32 := by omega
    have hm0 : (0 : Int) ≤ (m : Int) := by omega
    have hm33 : (m : Int) < 33 := by omega
    go_enter Try.func49, Try.ntmps49
    go_wp2_with fail
    refine wp_calm ?_
    refine wp_region_os (fun _ w' => Below (w).drew.heap.size (w).drew w') [6, 14] (.move 0 (.move 1 (.move 2 (.move 3 (.move 4 (.move 5 (.take 6 (.move 8 (.move 9 (.move 10 (.move 11 (.move 12 (.move 13 (.take 14 (.run 7 [14] (.run 15 [6] (.move 16 .done))))))))))))))))) (by kernel_rfl) (by kernel_rfl) (fun _ _ _ _ _ h => nomatch h.1) ?_
    have hS0 : Below (w).drew.heap.size (w).drew (w).drew := Below.refl _ _
    refine os_move rfl rfl rfl (Nat.le_of_ble_eq_true rfl) ?_
    apply Exists.intro
    refine ⟨fun w' K hK => ?_, ?_⟩
    (focus
      go_simp
      exact hK)
    refine os_move rfl rfl rfl (Nat.le_of_ble_eq_true rfl) ?_
    apply Exists.intro
    refine ⟨fun w' K hK => ?_, ?_⟩
    (focus
      go_simp
      exact hK)
    refine os_move rfl rfl rfl (Nat.le_of_ble_eq_true rfl) ?_
    apply Exists.intro
    refine ⟨fun w' K hK => ?_, ?_⟩
    (focus
      go_simp
      exact hK)
    refine os_move rfl rfl rfl (Nat.le_of_ble_eq_true rfl) ?_
    apply Exists.intro
    refine ⟨fun w' K hK => ?_, ?_⟩
    (focus
      go_simp
      exact hK)
    refine os_move rfl rfl rfl (Nat.le_of_ble_eq_true rfl) ?_
    apply Exists.intro
    refine ⟨fun w' K hK => ?_, ?_⟩
    (focus
      go_simp
      exact hK)
    refine os_move rfl rfl rfl (Nat.le_of_ble_eq_true rfl) ?_
    apply Exists.intro
    refine ⟨fun w' K hK => ?_, ?_⟩
    (focus
      go_simp
      exact hK)
    refine os_yld hS0 rfl rfl rfl (Nat.le_of_ble_eq_true rfl) ?_
    apply Exists.intro
    refine ⟨fun w' hS' K hK => ?_, ?_⟩
    (focus
      obtain ⟨hcc, hff⟩ := bcellB (Below.undr hS')
      clear hS'
      go_simp
      exact hK)
    refine os_move rfl rfl rfl (Nat.le_of_ble_eq_true rfl) ?_
    apply Exists.intro
    refine ⟨fun w' K hK => ?_, ?_⟩
    (focus
      go_simp
      exact hK)
    refine os_move rfl rfl rfl (Nat.le_of_ble_eq_true rfl) ?_
    apply Exists.intro
    refine ⟨fun w' K hK => ?_, ?_⟩
    (focus
      go_simp
      exact hK)
    refine os_move rfl rfl rfl (Nat.le_of_ble_eq_true rfl) ?_
    apply Exists.intro
    refine ⟨fun w' K hK => ?_, ?_⟩
    (focus
      go_simp
      exact hK)
    refine os_move rfl rfl rfl (Nat.le_of_ble_eq_true rfl) ?_
    apply Exists.intro
    refine ⟨fun w' K hK => ?_, ?_⟩
    (focus
      go_simp
      exact hK)
    refine os_move rfl rfl rfl (Nat.le_of_ble_eq_true rfl) ?_
    apply Exists.intro
    refine ⟨fun w' K hK => ?_, ?_⟩
    (focus
      go_simp
      exact hK)
    refine os_move rfl rfl rfl (Nat.le_of_ble_eq_true rfl) ?_
    apply Exists.intro
    refine ⟨fun w' K hK => ?_, ?_⟩
    (focus
      go_simp
      exact hK)
    refine os_yld hS0 rfl rfl rfl (Nat.le_of_ble_eq_true rfl) ?_
    apply Exists.intro
    refine ⟨fun w' hS' K hK => ?_, ?_⟩
    (focus
      obtain ⟨hcc, hff⟩ := bcellB (Below.undr hS')
      clear hS'
      go_simp
      exact hK)
    refine os_run rfl rfl (fun K hK => ?_)
    go_wp2_with fail
    refine (CopyBytes_sl (S1.out.belF (Below.undr hS0) RL.out) (fun k hk => Nat.lt_of_lt_of_le (RL.out k hk) (Below.undr hS0).size) (by have := HB.out; omega)).mono ?_
    rintro e w1 ⟨A3, c3, rfl, ho, hb⟩
    have O1 := Lib.hid ho
    have S2b := Lib.hid (S2.out.belF (Below.tr (Below.undr hS0) hb) RL.out)
    clear ho
    go_wp2_with fail
    refine ⟨fun _ _ h => Below.tr h (hb), ?_⟩
    replace hS0 := Below.tr hS0 (hb)
    refine os_run rfl rfl (fun K hK => ?_)
    refine wp_append_bytes (.tmp 18) (.tmp 25) rfl w.heap.size A3 n1 c3 l1 rfl O1.out A2 n2 k2 l2 rfl S2b.out.len S2b.out.rd (by have := HB.out; omega) hS0.size ?_
    intro A4 c4 w2 ho4 hg4 _
    refine hK _ _ ⟨fun _ _ _ => hS0.grown hg4 hS0.size (fun j hj => (O1.out.lt j hj).1), ?_⟩
    clear hK
    replace hS0 := hS0.grown hg4 hS0.size (fun j hj => (O1.out.lt j hj).1)
    refine os_move rfl rfl rfl (Nat.le_of_ble_eq_true rfl) ?_
    apply Exists.intro
    refine ⟨fun w' K hK => ?_, ?_⟩
    (focus
      go_simp
      exact hK)
    refine os_done ⟨rfl, ?_⟩
    have O4 := Lib.hid ho4
    clear ho4 hg4
    go_wp2_with fail
    go_ret
    exact ⟨A4, n1 + n2, c4, rfl, O4.out, Below.undr hS0⟩
set_option maxHeartbeats 1000000 in
theorem RUsed_any {w : World} {g : Nat} {D : DD} {R : Nat → Prop} (h : Ref w g D R) (ok : DOK D) :
    Calls Try.prog 50 #[.pointer (some ⟨g, 0, none⟩)] w fun e w' => e = .returned (.int .i64 (usedL D.fs : Nat)) ∧ ∃ k, w' = w.drewN k := by
  obtain ⟨L, vs, h⟩ := h
  have H := Lib.hid h; have OK := Lib.hid ok
  clear h ok
  go_enter Try.func50, Try.ntmps50
  go_wp2_with fail
  go_loopw [3, 4] (fun n i wr => ∃ k x : Nat, k ≤ 33 ∧ i = .int .i64 (k : Nat) ∧ n = .int .i64 (usedL (D.fs.take k) : Nat) ∧ wr = w.drewN x) (fun _ i _ => 33 - (intOf i).toNat)
  case atStart => exact ⟨0, 0, Nat.zero_le _, rfl, rfl, rfl⟩
  case round =>
    obtain ⟨k, x, hk, rfl, rfl, rfl⟩ := hrel
    by_cases hlt : k < 33
    · have hlI : (k : Int) < 33 := by omega
      have hlI2 : (k : Int) ≤ 32 := by omega
      have hk0 : (0 : Int) ≤ (k : Int) := by omega
      have hc1 := H.out.cLasts k hlt
      have hc2 := H.out.cLoose k hlt
      have lg := H.out.gt
      have HS := Lib.hid (usedL_take D.fs k (by rw [H.out.len]; exact hlt))
      have hle := Nat.le_trans (usedL_take_le D.fs (k + 1)) (Nat.le_trans OK.out.used OK.out.room)
      rw [HS.out] at hle
      have hfe : (D.fs.getD k FF0).d.length = (D.file k).d.length := rfl
      have hfk := OK.out.file_k k
      rw [hfe] at hle HS
      clear hfe
      obtain ⟨u, hu⟩ : ∃ u, u = usedL (D.fs.take k) := ⟨_, rfl⟩
      rw [← hu] at hle HS ⊢
      obtain ⟨v2, hv2⟩ : ∃ v, v = (D.file k).d.length - (D.file k).k := ⟨_, rfl⟩
      obtain ⟨v1, hv1⟩ : ∃ v, v = (D.file k).k := ⟨_, rfl⟩
      rw [← hv2] at hc2
      rw [← hv1] at hc1 hv2 hfk
      have hsum : (D.file k).d.length = v1 + v2 := by omega
      rw [hsum] at hle HS
      clear hu hv1 hv2 hsum hfk
      go_wp2_with fail
      go_quiet (fail)
      go_wp2_with fail
      go_roundw
      case rel => exact ⟨k + 1, x + nq, by omega, by go_num, by rw [HS.out]; go_num, rfl⟩
      case measure => simp [intOf]; omega
    · have hkl : k = 33 := by omega
      subst hkl
      have e : D.fs.take 33 = D.fs := List.take_of_length_le (by rw [H.out.len]; exact Nat.le_refl _)
      rw [e]
      go_wp2_with fail
      go_ret
      exact ⟨rfl, x, rfl⟩
end Go.Proofs.Ytjfnpndpigpaiaa
