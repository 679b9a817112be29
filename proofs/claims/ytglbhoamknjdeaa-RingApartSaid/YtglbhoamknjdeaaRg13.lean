/- RingApart: the walk. -/
import Derived.Test.YtglbhoamknjdeaaRg12
import Derived.Test.YtglbhoamknjdeaaOpnP
import Derived.BigQuiet
import Derived.Deep.CutRange
namespace Go.Proofs.Ytglbhoamknjdeaa
open Go.RowKit
attribute [local go_sem] yld yldUpon_value

set_option maxRecDepth 100000 in
set_option maxHeartbeats 3000000 in
theorem RingApart_rec (w : World) (y : PairR) (hy : y.Ok w) (hb : y.Bd) : Calls Try.prog 6 #[.agg y.cells.toArray] w fun e w' => e = .returned (.bool true) ∧ Below w.heap.size w w' := by
  obtain ⟨t, s, o, v, n⟩ := y
  obtain ⟨ws, wn⟩ := hy
  have WS := Lib.hid ws; have WN := Lib.hid wn
  have BT : Hid (t.size ≤ 140737488351232) := hb.1
  have BS : Hid (s.size ≤ 140737488351232) := hb.2.1
  have BO : Hid (o.size ≤ 140737488351232) := hb.2.2
  have hts : t.size + s.size ≤ 9223372036854775807 := by have := BT.out; have := BS.out; omega
  have hadd : ∀ w, (Op.stringOp .add t s).run Try.prog w = .ok (.string (t ++ s)) w := fun w => run_string_add_sum w _ _ hts
  clear ws wn hb hts
  show Calls _ _ #[.agg #[.string t, .string s, .string o, .int .i64 v, .int .i64 n]] _ _
  go_enter Try.func6, Try.ntmps6
  go_wp2
  go_quiet (fail)
  go_wp2_with fail
  refine (Pick_any v 63 _ (by decide)).mono ?_
  rintro e w1 ⟨rfl, rfl⟩
  obtain ⟨q, hq⟩ : ∃ q : Int, (if (63 : Int) < 1 then 0 else v % 63) = q := ⟨_, rfl⟩
  have hq2 : 0 ≤ q ∧ q ≤ 62 := by rw [if_neg (by decide)] at hq; omega
  rw [hq]
  obtain ⟨sl, hsl⟩ : ∃ sl : Int, 1 + q = sl := ⟨_, rfl⟩
  have h1 : 1 ≤ sl := by omega
  have h2 : sl ≤ 63 := by omega
  have hq3 := hq2.1; have hq4 := hq2.2
  have X0 := Lib.hid (Below.tr (Below.al w (.cells #[.string t, .string s, .string o, .int .i64 v, .int .i64 n] 51)) (Below.drN _ nq))
  clear hq hq2
  generalize (w.alloc (.cells #[.string t, .string s, .string o, .int .i64 v, .int .i64 n] 51)).drewN nq = w0 at X0 ⊢
  go_wp2_with fail
  clear hq3 hq4 hsl
  refine (New_any w0).mono ?_
  rintro e w1 ⟨b, m, rfl, hr1, hb1, hbb, hmm⟩
  have X : Hid (RX w w1 b m []) := ⟨hr1, (Fr.of_below X0.out).tr (Fr.of_below hb1)⟩
  have HM : Hid (w.heap.size ≤ m) := Nat.le_trans X0.out.size hmm
  clear hr1 hb1 hbb hmm X0
  have FS : Hid (Fits (t, s)) := ⟨Nat.le_trans BT.out (by decide), Nat.le_trans BS.out (by decide)⟩
  have FO : Hid (Fits (t, o)) := ⟨Nat.le_trans BT.out (by decide), Nat.le_trans BO.out (by decide)⟩
  have FT : Hid (Fits (s, t)) := ⟨Nat.le_trans BS.out (by decide), Nat.le_trans BT.out (by decide)⟩
  have FC : Hid (Fits (t ++ s, e0S)) := ⟨by have := BT.out; have := BS.out; show (t ++ s).size ≤ maxLen; rw [ByteArray.size_append]; unfold maxLen; omega, Nat.zero_le _⟩
  go_wp2_with fail
  refine (Make_at _ b m [] X.out.ring t s FS.out sl (WalkArith.wf_i64 (by omega)) 0 (S1 t s sl) (make_S1 t s h1 h2)).mono ?_
  rintro e w' ⟨rfl, hr, hf⟩
  replace X := Lib.hid (X.out.nx hr hf)
  clear hr hf
  go_wp2_with fail
  obtain ⟨rra, hr⟩ : ∃ r, look (S1 t s sl) (t ++ s, e0S) = r := ⟨_, rfl⟩
  obtain ⟨⟨hv1, hv2, hv3⟩, hv⟩ : ∃ v, rra.getD hd0 = v := ⟨_, rfl⟩
  obtain ⟨ra, hok⟩ : ∃ ok, rra.isSome = ok := ⟨_, rfl⟩
  refine (Hold_at _ b m (S1 t s sl) X.out.ring (t ++ s) e0S FC.out rra hr ⟨hv1, hv2, hv3⟩ hv ra hok).mono ?_
  have Rra : Hid ((look (S1 t s sl) (t ++ s, e0S)).isSome = ra) := by rw [hr]; exact hok
  rintro e w6 ⟨rfl, hb6⟩
  replace X := Lib.hid ((X.out.bl hb6).bl (Below.al w6 (.cells #[.int .i64 hv1, .int .i64 hv2, .bool hv3] 30)))
  clear hb6 hr hv hok
  go_wp2_with fail
  generalize w6.alloc (.cells #[.int .i64 hv1, .int .i64 hv2, .bool hv3] 30) = w7 at X ⊢
  obtain ⟨rrb, hr⟩ : ∃ r, look (S1 t s sl) (s, t) = r := ⟨_, rfl⟩
  obtain ⟨⟨hv1, hv2, hv3⟩, hv⟩ : ∃ v, rrb.getD hd0 = v := ⟨_, rfl⟩
  obtain ⟨rb, hok⟩ : ∃ ok, rrb.isSome = ok := ⟨_, rfl⟩
  refine (Hold_at _ b m (S1 t s sl) X.out.ring s t FT.out rrb hr ⟨hv1, hv2, hv3⟩ hv rb hok).mono ?_
  have Rrb : Hid ((look (S1 t s sl) (s, t)).isSome = rb) := by rw [hr]; exact hok
  rintro e w6 ⟨rfl, hb6⟩
  replace X := Lib.hid ((X.out.bl hb6).bl (Below.al w6 (.cells #[.int .i64 hv1, .int .i64 hv2, .bool hv3] 30)))
  clear hb6 hr hv hok
  go_wp2_with fail
  generalize w6.alloc (.cells #[.int .i64 hv1, .int .i64 hv2, .bool hv3] 30) = w7 at X ⊢
  obtain ⟨rrc, hr⟩ : ∃ r, look (S1 t s sl) (t, o) = r := ⟨_, rfl⟩
  obtain ⟨⟨hv1, hv2, hv3⟩, hv⟩ : ∃ v, rrc.getD hd0 = v := ⟨_, rfl⟩
  obtain ⟨rc, hok⟩ : ∃ ok, rrc.isSome = ok := ⟨_, rfl⟩
  refine (Hold_at _ b m (S1 t s sl) X.out.ring t o FO.out rrc hr ⟨hv1, hv2, hv3⟩ hv rc hok).mono ?_
  have Rrc : Hid ((look (S1 t s sl) (t, o)).isSome = rc) := by rw [hr]; exact hok
  rintro e w6 ⟨rfl, hb6⟩
  replace X := Lib.hid ((X.out.bl hb6).bl (Below.al w6 (.cells #[.int .i64 hv1, .int .i64 hv2, .bool hv3] 30)))
  clear hb6 hr hv hok
  go_upto_region 9 with fail
  generalize w6.alloc (.cells #[.int .i64 hv1, .int .i64 hv2, .bool hv3] 30) = w7 at X ⊢
  have A : ra = false ∨ (ra = true ∧ s = e0S) := by
    have h := Rra.out
    rw [look_S1] at h
    cases ra with
    | false => exact .inl rfl
    | true =>
      right; refine ⟨rfl, ?_⟩
      by_cases e : ((t, s) : Wk) = (t ++ s, e0S)
      · injection e
      · rw [if_neg e] at h; cases h
  have B : rb = false ∨ (rb = true ∧ t = s) := by
    have h := Rrb.out
    rw [look_S1] at h
    cases rb with
    | false => exact .inl rfl
    | true =>
      right; refine ⟨rfl, ?_⟩
      by_cases e : ((t, s) : Wk) = (s, t)
      · injection e
      · rw [if_neg e] at h; cases h
  have C : rc = decide (o = s) := by
    have h := Rrc.out
    rw [look_S1] at h
    by_cases e : o = s
    · subst e; rw [if_pos rfl] at h; rw [decide_eq_true rfl]; exact h.symm
    · have e2 : ¬ ((t, s) : Wk) = (t, o) := fun h => e (by injection h with _ h; exact h.symm)
      rw [if_neg e2] at h; rw [decide_eq_false e]; exact h.symm
  have hte : t ++ e0S = t := by
    apply ByteArray.ext
    simp [e0S]
  have HTE := Lib.hid hte
  clear Rra Rrb Rrc hte
  go_cut [92] from 65 to 92 (fun c wx => c = .bool false ∧ wx = w7)
  case first =>
    by_cases hos : o = s
    · subst hos
      rw [decide_eq_true rfl] at C
      subst C
      rcases A with rfl | ⟨rfl, rfl⟩ <;> rcases B with rfl | ⟨rfl, B2⟩
      all_goals (
        have hte := HTE.out
        try subst B2
        go_wp2_with fail
        go_meet
        exact ⟨rfl, rfl⟩)
    · rw [decide_eq_false hos] at C
      subst C
      rcases A with rfl | ⟨rfl, rfl⟩ <;> rcases B with rfl | ⟨rfl, B2⟩
      all_goals (
        have hte := HTE.out
        try subst B2
        go_wp2_with fail
        go_meet
        exact ⟨rfl, rfl⟩)
  case rest =>
    obtain ⟨rfl, rfl⟩ := hcut
    clear A B C
    by_cases hos : o = s
    · subst hos
      go_wp2_with fail
      refine (Make_at _ b m (S1 t o sl) X.out.ring t o FO.out (sl + 1) (WalkArith.wf_i64 (by omega)) 13 (S1 t o sl) (make_S1s t o h1 h2)).mono ?_
      rintro e w' ⟨rfl, hr, hf⟩
      replace X := Lib.hid (X.out.nx hr hf)
      clear hr hf
      go_wp2_with fail
      refine (known_any _).mono ?_
      rintro e w' ⟨rfl, hb⟩
      go_wp2_with fail
      go_ret
      exact ⟨rfl, (X.out.bl hb).done HM.out⟩
    · have hosL : ¬ o.toList = s.toList := fun e => hos (by
        rw [ByteArray.toList_eq, ByteArray.toList_eq] at e
        exact WideShapes.bytes_inj e)
      have hosB : (o.toList == s.toList) = false := by simpa using hosL
      clear hosL
      have HOS := Lib.hid hos
      clear hos
      go_wp2_with fail
      refine (Make_at _ b m (S1 t s sl) X.out.ring t o FO.out (sl + 1) (WalkArith.wf_i64 (by omega)) 0 (S2 t s o sl 0 false) (make_S1o HOS.out h1 h2)).mono ?_
      rintro e w' ⟨rfl, hr, hf⟩
      replace X := Lib.hid (X.out.nx hr hf)
      clear hr hf
      go_wp2_with fail
      obtain ⟨u, r, hu, hrr⟩ : ∃ u r, useR (S2 t s o sl 0 false) (t, o) n = (r, S2 t s o sl u false) ∧ ((n < 1 ∧ r = 1) ∨ (¬ n < 1 ∧ 200 < n ∧ r = 16) ∨ (¬ n < 1 ∧ ¬ 200 < n ∧ r = 0)) := by
        by_cases a1 : n < 1
        · exact ⟨0, 1, use_lo a1, .inl ⟨a1, rfl⟩⟩
        · by_cases a2 : 200 < n
          · exact ⟨0, 16, use_hi HOS.out a1 a2, .inr (.inl ⟨a1, a2, rfl⟩)⟩
          · exact ⟨n, 0, use_in HOS.out a1 a2, .inr (.inr ⟨a1, a2, rfl⟩)⟩
      have HRR := Lib.hid hrr
      clear hrr
      refine (Use_at _ b m (S2 t s o sl 0 false) X.out.ring t o FO.out n WN.out r (S2 t s o sl u false) hu).mono ?_
      rintro e w' ⟨rfl, hr, hf⟩
      replace X := Lib.hid (X.out.nx hr hf)
      clear hr hf hu
      go_wp2_with fail
      refine (Shred_at _ b m (S2 t s o sl u false) X.out.ring t o FO.out 0 (S2 t s o sl u true) (shred_S2 HOS.out sl u)).mono ?_
      rintro e w' ⟨rfl, hr, hf⟩
      replace X := Lib.hid (X.out.nx hr hf)
      clear hr hf
      go_wp2_with fail
      refine (Hold_at _ b m (S2 t s o sl u true) X.out.ring t s FS.out (some ⟨sl, 0, false⟩) (look_S2s t s o sl u true) ⟨sl, 0, false⟩ rfl true rfl).mono ?_
      rintro e w6 ⟨rfl, hb6⟩
      replace X := Lib.hid ((X.out.bl hb6).bl (Below.al w6 (.cells #[.int .i64 sl, .int .i64 0, .bool false] 30)))
      clear hb6
      rcases HRR.out with ⟨a1, rfl⟩ | ⟨a1, a2, rfl⟩ | ⟨a1, a2, rfl⟩
      all_goals (
        try have b4 : decide (1 ≤ n) = true := by simp; omega
        try have b5 : decide (1 ≤ n) = false := by simp; omega
        try have b2 : decide (n ≤ 200) = false := by simp; omega
        try have b3 : decide (n ≤ 200) = true := by simp; omega
        go_wp2_with fail
        refine (Live_any _ b m (S2 t s o sl u true) X.out.ring (by show 2 ≤ 100000; decide) (ok_S2 h1 h2)).mono ?_
        rintro e w8 ⟨A, k, c, rfl, ho, hb⟩
        rw [live_S2 h1 h2] at ho
        obtain rfl : k = 1 := row_len ho rfl
        have I8 := Lib.hid (IntSl.of_own ho (by simp; exact WalkArith.wf_i64 (by omega)))
        replace X := Lib.hid ((X.out.bl hb).bl (Below.al w8 (.cells #[.int .i64 sl] 3)))
        have J8 : Hid (IntSl (w8.alloc (.cells #[.int .i64 sl] 3)) (fun k => k = w8.heap.size) (some ⟨w8.heap.size, 0, none⟩) 1 1 [sl]) := int_block2 w8 (l := [sl]) (by simp; exact WalkArith.wf_i64 (by omega))
        clear ho hb
        go_wp2_with fail
        refine (SameInts_at (I8.out.belF (Below.al w8 _) (fun _ h => h.2.1)) J8.out (by decide) (by decide) true (by simp)).mono ?_
        rintro e w9 ⟨rfl, x, rfl⟩
        replace X := Lib.hid (X.out.bl (Below.drN _ x))
        clear I8 J8
        generalize (w8.alloc (.cells #[.int .i64 sl] 3)).drewN x = w9 at X ⊢
        go_wp2_with fail
        refine (Dead_any w9 b m (S2 t s o sl u true) X.out.ring (by show 2 ≤ 100000; decide) (ok_S2 h1 h2)).mono ?_
        rintro e w8 ⟨A, k, c, rfl, ho, hb⟩
        rw [dead_S2 h1 h2] at ho
        obtain rfl : k = 1 := row_len ho rfl
        have I8 := Lib.hid (IntSl.of_own ho (by simp; exact WalkArith.wf_i64 (by omega)))
        replace X := Lib.hid ((X.out.bl hb).bl (Below.al w8 (.cells #[.int .i64 (sl + 1)] 3)))
        have J8 : Hid (IntSl (w8.alloc (.cells #[.int .i64 (sl + 1)] 3)) (fun k => k = w8.heap.size) (some ⟨w8.heap.size, 0, none⟩) 1 1 [sl + 1]) := int_block2 w8 (l := [sl + 1]) (by simp; exact WalkArith.wf_i64 (by omega))
        clear ho hb
        go_wp2_with fail
        refine (SameInts_at (I8.out.belF (Below.al w8 _) (fun _ h => h.2.1)) J8.out (by decide) (by decide) true (by simp)).mono ?_
        rintro e w9 ⟨rfl, x, rfl⟩
        replace X := Lib.hid (X.out.bl (Below.drN _ x))
        clear I8 J8
        go_wp2_with fail
        refine (known_any _).mono ?_
        rintro e w' ⟨rfl, hb⟩
        go_wp2_with fail
        go_ret
        exact ⟨rfl, (X.out.bl hb).done HM.out⟩)
end Go.Proofs.Ytglbhoamknjdeaa
