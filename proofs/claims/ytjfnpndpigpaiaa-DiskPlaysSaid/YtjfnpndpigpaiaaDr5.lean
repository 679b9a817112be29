/- The reference's disk: Cut, Write. -/
import Derived.Test.YtjfnpndpigpaiaaDr4
namespace Go.Proofs.Ytjfnpndpigpaiaa
open Go.RowKit
attribute [local go_sem] yld yldUpon_value

theorem okF_cases (f : Int) : (f < 0 ∧ okF f = false) ∨ (0 ≤ f ∧ 32 < f ∧ okF f = false) ∨ ∃ m : Nat, f = m ∧ m < 33 ∧ okF f = true := by
  by_cases h1 : 0 ≤ f
  · by_cases h2 : f ≤ 32
    · exact .inr (.inr ⟨f.toNat, by omega, by omega, by rw [okF_iff]; omega⟩)
    · refine .inr (.inl ⟨h1, by omega, ?_⟩)
      unfold okF; exact decide_eq_false (by omega)
  · refine .inl ⟨by omega, ?_⟩
    unfold okF; exact decide_eq_false (by omega)
theorem okF_nat {m : Nat} (h : m < 33) : okF (m : Int) = true := by rw [okF_iff]; omega
theorem readD_nat (D : DD) {m : Nat} (h : m < 33) : readD D m = (D.file m).d := by unfold readD; rw [if_pos (okF_nat h), Int.toNat_natCast]
/-- what a read that was put into a file leaves -/
theorem Ref.put2 {w0 w w1 w2 : World} {g : Nat} {s : DD} {R R1 : Nat → Prop} (h : Ref w1 g s R1) (hf : Fr (fun k => k = g) w0 w1) (hi : ∀ k, R k → R1 k) (ho : ∀ k, R1 k → R k ∨ w0.heap.size ≤ k) (hb : Below w1.heap.size w1 w2) (hw : w0.heap.size ≤ w.heap.size) (hwg : g < w.heap.size) {m : Nat} (hm : m < 33) (x : FF) {A : Option Addr} {n c : Nat}
    (hn : n = x.k) (hx : x.d.length = x.k) (hs : Sl w2 (fun k => w.heap.size ≤ k ∧ k < w2.heap.size) A n c x.d) :
    Rstep g R w0 (w2.setCells g (1 + m * 2) [.slice A n c, .slice none 0 0]) (s.put m x) := by
  obtain ⟨L, vs, h⟩ := h
  have h2 := h.bel hb
  have hst := h2.store2 (R' := fun k => R1 k ∨ (w.heap.size ≤ k ∧ k < w2.heap.size)) hm x (A1 := A) (A2 := none) (n1 := n) (n2 := 0) (c1 := c) (c2 := 0) hn (by omega)
    (by rw [← hx, List.take_length]; exact hs.mono (fun k hk => .inr hk)) (by rw [← hx, List.drop_length]; exact Sl.nil_ _ _) (fun k hk => .inl hk) (fun k hk => by
      rcases hk with hk | hk
      · exact ⟨Nat.lt_of_lt_of_le (h.rlt k hk).1 hb.size, (h.rlt k hk).2⟩
      · exact ⟨hk.2, by omega⟩)
  refine ⟨_, ⟨_, _, hst.1⟩, (hf.trans (Fr.of_below (M := fun k => k = g) hb) (fun _ _ e => e)).trans hst.2 (fun _ _ e => e), fun k hk => .inl (hi k hk), fun k hk => ?_⟩
  rcases hk with hk | hk
  · exact ho k hk
  · exact .inr (Nat.le_trans hw hk.1)
theorem Ref.there {w : World} {g : Nat} {D : DD} {R : Nat → Prop} (h : Ref w g D R) {f : Nat} (hf : f < 33) : w.there g (1 + f * 2) 2 := by
  obtain ⟨L, vs, h⟩ := h; exact h.there hf
theorem Ref.gt {w : World} {g : Nat} {D : DD} {R : Nat → Prop} (h : Ref w g D R) : g < w.heap.size := by
  obtain ⟨L, vs, h⟩ := h; exact h.gt
theorem Rstep.of_old {g : Nat} {R : Nat → Prop} {w w1 w' : World} {D' : DD} (hb : Below w.heap.size w w1) (h : Rstep g R w1 w' D') : Rstep g R w w' D' := h.old hb
set_option maxHeartbeats 2000000 in
theorem RCut_any {w : World} {g : Nat} {D : DD} {R : Nat → Prop} (h : Ref w g D R) (ok : DOK D) (hdn : D.done ≤ 1000000000) (f n : Int) :
    Calls Try.prog 42 #[.pointer (some ⟨g, 0, none⟩), .int .i64 f, .int .i64 n] w fun e w' => e = .returned (.int .i64 (cutD D f n).1) ∧ Rstep g R w w' (cutD D f n).2 := by
  have H := Lib.hid h; have OK := Lib.hid ok; have HN := Lib.hid hdn
  rw [cutD_set]
  obtain ⟨b, hb⟩ : ∃ b, cutOk D f n = b := ⟨_, rfl⟩
  rw [hb]
  have OK1 := Lib.hid (setD_ok ok b)
  have FS1 := Lib.hid (setD_fs D b)
  have NO1 := Lib.hid (fun h => setD_no (D := D) (b := b) h)
  have SA : Hid (∀ W, Below w.heap.size w W → Calls Try.prog 58 #[.pointer (some ⟨g, 0, none⟩), .bool b] W fun e w' => e = .returned (.int .i64 (setD D b).1) ∧ Rstep g R W w' (setD D b).2) :=
    Lib.hid (fun W hB => settle_any (h.bel hB) ok.lo ok.hi hdn b)
  clear h ok hdn
  generalize setD D b = s at OK1 FS1 NO1 SA ⊢
  obtain ⟨s1, s2⟩ := s
  have SB : Hid (∀ W, Below w.heap.size w W → Calls Try.prog 58 #[.pointer (some ⟨g, 0, none⟩), .bool b] W fun e w' => e = .returned (.int .i64 s1) ∧ Rstep g R W w' s2) := SA
  clear SA
  rcases okF_cases f with ⟨h1, h3⟩ | ⟨h1, h2, h3⟩ | ⟨m, rfl, hm, h3⟩
  · have hbf : b = false := by rw [← hb]; unfold cutOk; rw [h3]; rfl
    subst hbf
    have h0 : s1 ≠ 0 := fun e => absurd (NO1.out e) (by decide)
    have h0' : (s1 == 0) = false := by simpa using h0
    rw [if_neg h0]
    clear h0 h3 hb
    go_enter Try.func42, Try.ntmps42
    go_wp2_with fail
    refine (RRead_any H.out OK.out f).mono ?_
    rintro e w1 ⟨A, l, c, rfl, _, hbw⟩
    have BW := Lib.hid hbw
    clear hbw
    go_wp2_with fail
    refine (SB.out w1 BW.out).mono ?_
    rintro e w2 ⟨rfl, hst⟩
    have HST := Lib.hid hst
    clear hst
    go_wp2_with fail
    go_ret
    exact ⟨rfl, Rstep.old BW.out HST.out⟩
  · have hbf : b = false := by rw [← hb]; unfold cutOk; rw [h3]; rfl
    subst hbf
    have h0 : s1 ≠ 0 := fun e => absurd (NO1.out e) (by decide)
    have h0' : (s1 == 0) = false := by simpa using h0
    have hd : decide (f ≤ 32) = false := decide_eq_false (by omega)
    rw [if_neg h0]
    clear h0 h3 hb
    go_enter Try.func42, Try.ntmps42
    go_wp2_with fail
    refine (RRead_any H.out OK.out f).mono ?_
    rintro e w1 ⟨A, l, c, rfl, _, hbw⟩
    have BW := Lib.hid hbw
    clear hbw
    go_wp2_with fail
    refine (SB.out w1 BW.out).mono ?_
    rintro e w2 ⟨rfl, hst⟩
    have HST := Lib.hid hst
    clear hst
    go_wp2_with fail
    go_ret
    exact ⟨rfl, Rstep.old BW.out HST.out⟩
  · have hm33 : (m : Int) < 33 := by omega
    have hm32 : decide ((m : Int) ≤ 32) = true := decide_eq_true (by omega)
    have Hm := Lib.hid hm
    have RD1 := Lib.hid (readD_nat D hm)
    have hle := OK.out.file_le m
    obtain ⟨V, hV⟩ : ∃ V, V = (D.file m).d.length := ⟨_, rfl⟩
    have HV := Lib.hid hV
    rw [← hV] at hle
    have hcut : cutOk D m n = (decide (0 ≤ n) && decide (n ≤ (V : Int))) := by unfold cutOk; rw [h3, Bool.true_and, Int.toNat_natCast, hV]
    rw [hcut] at hb
    clear hcut hV hm h3
    by_cases h0n : 0 ≤ n
    · obtain ⟨k, rfl⟩ : ∃ k : Nat, n = k := ⟨n.toNat, by omega⟩
      have hd0 : decide ((0 : Int) ≤ (k : Int)) = true := decide_eq_true h0n
      rw [hd0, Bool.true_and] at hb
      replace hb : decide (k ≤ V) = b := by rw [← hb]; exact decide_eq_decide.2 (by omega)
      by_cases h0 : s1 = 0
      · subst h0
        have hbt := NO1.out rfl
        subst hbt
        rw [if_pos rfl]
        have hkV : k ≤ V := by have := of_decide_eq_true hb; omega
        go_enter Try.func42, Try.ntmps42
        go_wp2_with fail
        refine (RRead_any H.out OK.out m).mono ?_
        rintro e w1 ⟨A, l, c, rfl, ho, hbw⟩
        obtain rfl : l = V := by have h := ho.1; rw [bs_length, RD1.out, ← HV.out] at h; omega
        rw [RD1.out] at ho
        have SL := Lib.hid (Sl.of_own ho)
        have BW := Lib.hid hbw
        have hcc : k ≤ c := by have := SL.out.cap; omega
        clear hbw ho
        go_wp2_with fail
        refine (SB.out w1 BW.out).mono ?_
        rintro e w2 ⟨rfl, R1, hr1, hf1, hi1, ho1⟩
        have H1 := Lib.hid hr1; have I1 := Lib.hid hi1
        have F1 : Hid (Fr (fun k => k = g) w w2) := (Fr.of_below BW.out).trans hf1 (fun _ _ e => e)
        have O1 : Hid (∀ k, R1 k → R k ∨ w.heap.size ≤ k) := Lib.hid (fun k hk => by
          rcases ho1 k hk with hk | hk
          · exact .inl hk
          · exact .inr (Nat.le_trans BW.out.size hk))
        have hgw := H.out.gt
        have ZB : Hid (w1.heap.size ≤ w2.heap.size) := hf1.size
        have SL2 := Lib.hid (SL.out.fr hf1 (fun k hk => ⟨hk.2.1, fun e => by have := hk.1; omega⟩))
        have SL3 : Hid (Sl w2 (fun k => w.heap.size ≤ k ∧ k < w2.drew.heap.size) A l c (D.file m).d) := SL2.out.mono (fun k hk => ⟨hk.1, Nat.lt_of_lt_of_le hk.2.1 ZB.out⟩)
        have TH : Hid (w2.drew.there g (1 + m * 2) 2) := (H1.out.bel (Below.dr1 w2)).there Hm.out
        clear hr1 hf1 hi1 ho1 SL hgw
        go_wp2_with fail
        refine wp_calm ?_
        refine wp_region_os (fun _ w' => Below (w2).drew.heap.size (w2).drew w') [] (.move 0 (.move 1 (.move 2 (.move 3 (.move 4 (.move 5 (.move 6 (.move 7 (.move 8 (.run 9 [] .done)))))))))) (by kernel_rfl) (by kernel_rfl) (fun _ _ _ _ _ h => nomatch h.1) ?_
        have hS0 : Below (w2).drew.heap.size (w2).drew (w2).drew := Below.refl _ _
        refine os_move rfl rfl rfl (Nat.le_of_ble_eq_true rfl) ?_
        apply Exists.intro
        refine ⟨fun w' K hK => ?_, ?_⟩
        (focus
          go_simp
          exact hK)
        refine os_move rfl rfl rfl (Nat.le_of_ble_eq_true rfl) ?_
        apply Exists.intro
        refine ⟨fun w' K hK => ?_, ?_⟩
        (focus
          go_simp
          exact hK)
        refine os_move rfl rfl rfl (Nat.le_of_ble_eq_true rfl) ?_
        apply Exists.intro
        refine ⟨fun w' K hK => ?_, ?_⟩
        (focus
          go_simp
          exact hK)
        refine os_move rfl rfl rfl (Nat.le_of_ble_eq_true rfl) ?_
        apply Exists.intro
        refine ⟨fun w' K hK => ?_, ?_⟩
        (focus
          go_simp
          exact hK)
        refine os_move rfl rfl rfl (Nat.le_of_ble_eq_true rfl) ?_
        apply Exists.intro
        refine ⟨fun w' K hK => ?_, ?_⟩
        (focus
          go_simp
          exact hK)
        refine os_move rfl rfl rfl (Nat.le_of_ble_eq_true rfl) ?_
        apply Exists.intro
        refine ⟨fun w' K hK => ?_, ?_⟩
        (focus
          go_simp
          exact hK)
        refine os_move rfl rfl rfl (Nat.le_of_ble_eq_true rfl) ?_
        apply Exists.intro
        refine ⟨fun w' K hK => ?_, ?_⟩
        (focus
          go_simp
          exact hK)
        refine os_move rfl rfl rfl (Nat.le_of_ble_eq_true rfl) ?_
        apply Exists.intro
        refine ⟨fun w' K hK => ?_, ?_⟩
        (focus
          go_simp
          exact hK)
        refine os_move rfl rfl rfl (Nat.le_of_ble_eq_true rfl) ?_
        apply Exists.intro
        refine ⟨fun w' K hK => ?_, ?_⟩
        (focus
          go_simp
          exact hK)
        refine os_run rfl rfl (fun K hK => ?_)
        refine wp_store_mid 71 (.tmp 40) (.tmp 37) rfl g (1 + m * 2) #[.slice A k c, .slice none 0 0] rfl rfl TH.out (by kernel_rfl) (by kernel_rfl) ?_
        refine hK _ _ ⟨fun _ hk => absurd hk List.not_mem_nil, ?_⟩
        clear hK
        refine os_done ⟨rfl, ?_⟩
        have fin : Hid (Rstep g R w (w2.drew.setCells g (1 + m * 2) [.slice A k c, .slice none 0 0]) (s2.cutF m k)) := by
          have e0 : (s2.file m).d = (D.file m).d := by rw [file_fs FS1.out]
          have e1 : s2.cutF m k = s2.put m ⟨(D.file m).d.take k, k⟩ := by unfold DD.cutF; rw [Int.toNat_natCast, e0]
          rw [e1]
          have hl : ((D.file m).d.take k).length = k := by rw [List.length_take, ← HV.out]; omega
          have hs : Sl w2.drew (fun k => w.heap.size ≤ k ∧ k < w2.drew.heap.size) A k c ((D.file m).d.take k) :=
            ((Sl.take_ (l' := (D.file m).d.drop k) (by rw [List.take_append_drop]; exact SL3.out) hl).dr 1)
          exact Ref.put2 (w := w) H1.out F1.out I1.out O1.out (Below.dr1 w2) (Nat.le_refl _) H.out.gt Hm.out ⟨(D.file m).d.take k, k⟩ rfl hl hs
        generalize w2.drew.setCells g (1 + m * 2) [.slice A k c, .slice none 0 0] = w3 at fin ⊢
        clear TH hS0 SL2 SL3
        go_wp2_with fail
        go_ret
        exact ⟨rfl, fin.out⟩
      · rw [if_neg h0]
        have h0' : (s1 == 0) = false := by simpa using h0
        clear h0
        go_enter Try.func42, Try.ntmps42
        go_wp2_with fail
        refine (RRead_any H.out OK.out m).mono ?_
        rintro e w1 ⟨A, l, c, rfl, ho, hbw⟩
        obtain rfl : l = V := by have h := ho.1; rw [bs_length, RD1.out, ← HV.out] at h; omega
        have BW := Lib.hid hbw
        clear hbw ho
        go_wp2_with fail
        refine (SB.out w1 BW.out).mono ?_
        rintro e w2 ⟨rfl, hst⟩
        have HST := Lib.hid hst
        clear hst
        go_wp2_with fail
        go_ret
        exact ⟨rfl, Rstep.old BW.out HST.out⟩
    · have hd0 : decide (0 ≤ n) = false := decide_eq_false h0n
      rw [hd0, Bool.false_and] at hb
      subst hb
      have h0 : s1 ≠ 0 := fun e => absurd (NO1.out e) (by decide)
      have h0' : (s1 == 0) = false := by simpa using h0
      rw [if_neg h0]
      clear h0
      go_enter Try.func42, Try.ntmps42
      go_wp2_with fail
      refine (RRead_any H.out OK.out m).mono ?_
      rintro e w1 ⟨A, l, c, rfl, ho, hbw⟩
      have BW := Lib.hid hbw
      clear hbw ho
      go_wp2_with fail
      refine (SB.out w1 BW.out).mono ?_
      rintro e w2 ⟨rfl, hst⟩
      have HST := Lib.hid hst
      clear hst
      go_wp2_with fail
      go_ret
      exact ⟨rfl, Rstep.old BW.out HST.out⟩
end Go.Proofs.Ytjfnpndpigpaiaa
