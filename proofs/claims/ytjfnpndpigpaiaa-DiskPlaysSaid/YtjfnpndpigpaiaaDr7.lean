/- The reference's disk: Over. -/
import Derived.Test.YtjfnpndpigpaiaaDr6
namespace Go.Proofs.Ytjfnpndpigpaiaa
open Go.RowKit
attribute [local go_sem] yld yldUpon_value

theorem overL_ref_app {p q b : List UInt8} {a : Nat} (ha : a + b.length ≤ p.length) : overL (p ++ q) a b = overL p a b ++ q := by
  unfold overL
  rw [List.take_append_of_le_length (by omega), List.drop_append_of_le_length (by omega), List.append_assoc, List.append_assoc]
theorem overL_ref_set {p b : List UInt8} {a i : Nat} (hi : i < b.length) (ha : a + b.length ≤ p.length) : (overL p a (b.take i)).set (a + i) b[i] = overL p a (b.take (i + 1)) := by
  unfold overL
  have h1 : (p.take a).length = a := by rw [List.length_take]; omega
  have h2 : (b.take i).length = i := by rw [List.length_take]; omega
  have h3 : (b.take (i + 1)).length = i + 1 := by rw [List.length_take]; omega
  rw [List.set_append_right _ _ (by rw [h1]; omega), h1, show a + i - a = i by omega, List.set_append_right _ _ (by rw [h2]; exact Nat.le_refl _), h2, Nat.sub_self, h3]
  congr 1
  have h4 : p.drop (a + i) = p[a + i]'(by omega) :: p.drop (a + i + 1) := List.drop_eq_getElem_cons (by omega)
  rw [h4, List.set_cons_zero, List.take_succ_eq_append_getElem hi, List.append_assoc]
  rfl
set_option maxHeartbeats 2000000 in
theorem ROver_any {w : World} {g : Nat} {D : DD} {R : Nat → Prop} (h : Ref w g D R) (ok : DOK D) (hdn : D.done ≤ 1000000000) (f a : Int) {F : Nat → Prop} {B : Option Addr} {n c : Nat} {b : List UInt8} (hS : Sl w F B n c b) (hF : ∀ k, F k → k < w.heap.size ∧ k ≠ g) (hm : n ≤ 1000000) :
    Calls Try.prog 43 #[.pointer (some ⟨g, 0, none⟩), .int .i64 f, .int .i64 a, .slice B n c] w fun e w' => e = .returned (.int .i64 (overD D f a b).1) ∧ Rstep g R w w' (overD D f a b).2 := by
  have H := Lib.hid h; have OK := Lib.hid ok; have HS := Lib.hid hS; have HF := Lib.hid hF
  have LB := Lib.hid hS.len
  have lg := h.gt
  rw [overD_set]
  obtain ⟨r, hr⟩ : ∃ r, overOk D f a b.length = r := ⟨_, rfl⟩
  rw [hr]
  have OK1 := Lib.hid (setD_ok ok r)
  have FS1 := Lib.hid (setD_fs D r)
  have NO1 := Lib.hid (fun h => setD_no (D := D) (b := r) h)
  have SA : Hid (Calls Try.prog 58 #[.pointer (some ⟨g, 0, none⟩), .bool r] w fun e w' => e = .returned (.int .i64 (setD D r).1) ∧ Rstep g R w w' (setD D r).2) :=
    Lib.hid (settle_any h ok.lo ok.hi hdn r)
  clear h ok hdn hS hF
  generalize setD D r = s at OK1 FS1 NO1 SA ⊢
  obtain ⟨s1, s2⟩ := s
  have SB : Hid (Calls Try.prog 58 #[.pointer (some ⟨g, 0, none⟩), .bool r] w fun e w' => e = .returned (.int .i64 s1) ∧ Rstep g R w w' s2) := SA
  clear SA
  have no : r = false → s1 ≠ 0 := fun e h0 => by have := NO1.out h0; rw [e] at this; cases this
  rcases okF_cases f with ⟨h1, h3⟩ | ⟨h1, h2, h3⟩ | ⟨m, rfl, hm3, h3⟩
  · have hrf : r = false := by rw [← hr]; unfold overOk; rw [h3]; rfl
    subst hrf
    have h0 := no rfl
    have h0' : (s1 != 0) = true := by simpa using h0
    rw [if_neg h0]
    clear h0 no h3 hr
    go_enter Try.func43, Try.ntmps43
    go_wp2_with fail
    refine SB.out.mono ?_
    rintro e w2 ⟨rfl, hst⟩
    have HST := Lib.hid hst
    clear hst
    go_wp2_with fail
    go_ret
    exact ⟨rfl, HST.out⟩
  · have hrf : r = false := by rw [← hr]; unfold overOk; rw [h3]; rfl
    subst hrf
    have h0 := no rfl
    have h0' : (s1 != 0) = true := by simpa using h0
    have hd : decide (f ≤ 32) = false := decide_eq_false (by omega)
    rw [if_neg h0]
    clear h0 no h3 hr
    go_enter Try.func43, Try.ntmps43
    go_wp2_with fail
    refine SB.out.mono ?_
    rintro e w2 ⟨rfl, hst⟩
    have HST := Lib.hid hst
    clear hst
    go_wp2_with fail
    go_ret
    exact ⟨rfl, HST.out⟩
  · have hm33 : (m : Int) < 33 := by omega
    have hm32 : decide ((m : Int) ≤ 32) = true := decide_eq_true (by omega)
    have hm32' : (m : Int) ≤ 32 := by omega
    have Hm := Lib.hid hm3
    have hle := OK.out.file_le m
    have hfk := OK.out.file_k m
    obtain ⟨K, hK⟩ : ∃ K, K = (D.file m).k := ⟨_, rfl⟩
    have HK := Lib.hid hK
    have hc0 : ∃ A1 k1, w.cell? ⟨g, 1 + m * 2, none⟩ = some (.slice A1 K k1) := by
      obtain ⟨L, vs, h⟩ := H.out
      have := h.cLasts m hm3
      rw [← hK] at this
      exact ⟨_, _, this⟩
    obtain ⟨A1, k1, hc0⟩ := hc0
    have hov : overOk D m a b.length = (decide (0 ≤ a) && (decide (a ≤ (K : Int)) && decide ((n : Int) ≤ (K : Int) - a))) := by unfold overOk; rw [h3, Bool.true_and, Int.toNat_natCast, hK, LB.out]
    rw [hov] at hr
    have hKb : K ≤ 262144 := by omega
    clear hov hm3 h3 hle
    rw [← hK] at hfk
    clear hK
    by_cases h0a : 0 ≤ a
    · obtain ⟨k, rfl⟩ : ∃ k : Nat, a = k := ⟨a.toNat, by omega⟩
      have hd0 : decide ((0 : Int) ≤ (k : Int)) = true := decide_eq_true h0a
      rw [hd0, Bool.true_and] at hr
      by_cases h1a : k ≤ K
      · have h1I : (k : Int) ≤ (K : Int) := by omega
        rw [decide_eq_true h1I, Bool.true_and] at hr
        obtain ⟨t, ht⟩ : ∃ t : Nat, (K : Int) - (k : Int) = (t : Int) := ⟨K - k, by omega⟩
        rw [ht] at hr
        replace hr : decide (n ≤ t) = r := by rw [← hr]; exact decide_eq_decide.2 (by omega)
        have hd1 : decide (k ≤ K) = true := decide_eq_true h1a
        by_cases h0 : s1 = 0
        · subst h0
          have hrt := NO1.out rfl
          subst hrt
          rw [if_pos rfl]
          have hnt : n ≤ t := of_decide_eq_true hr
          have hkn : Hid (k + n ≤ K) := Lib.hid (by omega)
          go_enter Try.func43, Try.ntmps43
          go_wp2_with fail
          refine SB.out.mono ?_
          rintro e w2 ⟨rfl, R2, hr2, hf2, hi2, ho2⟩
          have F2 := Lib.hid hf2; have I2 := Lib.hid hi2; have O2 := Lib.hid ho2
          obtain ⟨L2, vs2, h2⟩ := hr2
          have H2 := Lib.hid h2
          have c2 := h2.cLasts m Hm.out
          have s2' := h2.slLasts m Hm.out
          have lg2 := h2.gt
          have ef : s2.file m = D.file m := file_fs FS1.out m
          rw [ef, ← HK.out] at c2 s2'
          generalize vA vs2 (2 * m) = A2 at c2 s2'
          generalize vC vs2 (2 * m) = k2 at c2 s2'
          have S2 := Lib.hid s2'
          have RL : Hid (∀ k, R2 k → k < w2.heap.size) := Lib.hid (fun k hk => (h2.rlt k hk).1)
          have SBb := Lib.hid (HS.out.fr F2.out HF.out)
          have FB : Hid (∀ k, F k → k < w2.heap.size) := Lib.hid (fun k hk => Nat.lt_of_lt_of_le (HF.out k hk).1 F2.out.size)
          have EF := Lib.hid ef
          clear hf2 hi2 ho2 h2 s2' hc0 SB ef
          go_wp2_with fail
          refine (CopyBytes_sl S2.out RL.out (by omega)).mono ?_
          rintro e w3 ⟨A3, k3, rfl, ho3, hb3⟩
          have O3 := Lib.hid ho3; have B3 := Lib.hid hb3
          clear ho3 hb3 c2
          go_wp2_with fail
          obtain ⟨l1, hl1⟩ : ∃ l1, l1 = (D.file m).d.take K := ⟨_, rfl⟩
          rw [← hl1] at O3
          have L1 : Hid (l1.length = K) := by rw [hl1]; show _ = _; rw [List.length_take]; omega
          have HL1 := Lib.hid hl1
          have SB3 := Lib.hid (SBb.out.belF B3.out FB.out)
          clear hl1
          go_loopw [12] (fun iv wr => ∃ i : Nat, i ≤ n ∧ iv = .int .i64 (i : Nat) ∧ Hid (wr.ownsRow w2.heap.size 5 1 (.slice A3 K k3) K (bs (overL l1 k (b.take i))) ∧ Below w2.heap.size w2 wr)) (fun iv _ => n - (intOf iv).toNat)
          case atStart => exact ⟨0, Nat.zero_le _, rfl, Lib.hid ⟨by rw [List.take_zero, overL_nil]; exact O3.out, B3.out⟩⟩
          case round =>
            clear O3 B3
            obtain ⟨i, hi, rfl, I⟩ := hrel
            have hi0 : (0 : Int) ≤ (i : Int) := by omega
            by_cases hlt : i < n
            · have hiI : (i : Int) < (n : Int) := by omega
              have hib : i < b.length := by rw [LB.out]; exact hlt
              obtain ⟨v, hv⟩ : ∃ v, v = k + i := ⟨_, rfl⟩
              have hvI : (k : Int) + (i : Int) = (v : Int) := by omega
              have hvK : v < K := by have := hkn.out; omega
              have hvKI : (v : Int) < (K : Int) := by omega
              have hv0 : (0 : Int) ≤ (v : Int) := by omega
              obtain ⟨g3, cc, e3, hg3, hl3⟩ := World.ownsRow.form I.out.1 (by omega)
              injection e3 with e3 _ e4; subst e3; subst e4
              have SBi := Lib.hid (SBb.out.belF I.out.2 FB.out)
              obtain ⟨ad, rfl, hcb⟩ := SBi.out.rd.at_ hib
              obtain ⟨x, hx⟩ : ∃ x, x = b[i] := ⟨_, rfl⟩
              rw [← hx] at hcb
              have hset : Hid ((overL l1 k (b.take i)).set v x = overL l1 k (b.take (i + 1))) := by
                rw [hv, hx]; exact overL_ref_set hib (by rw [LB.out, L1.out]; exact hkn.out)
              obtain ⟨y, hy⟩ : ∃ y, wr.cell? ⟨g3, v, none⟩ = some y := by
                rw [World.ownsRow.cellAt I.out.1 v (by omega)]
                have h1 : v < (bs (overL l1 k (b.take i))).length := by have := I.out.1.1; omega
                exact ⟨_, List.getElem?_eq_getElem h1⟩
              have hz := World.ownsRow.frozenAt I.out.1 v
              obtain ⟨o9, g9⟩ := World.ownsRow.stored I.out.1 v (.int .u8 (x.toNat : Int))
              have O9 : Hid ((wr.setCell ⟨g3, v, none⟩ (.int .u8 (x.toNat : Int))).ownsRow w2.heap.size 5 1 (.slice (some ⟨g3, 0, none⟩) K k3) K (bs (overL l1 k (b.take (i + 1))))) := by
                rw [← hset.out, ← bs_set]; exact o9
              have B9 : Hid (Below w2.heap.size w2 (wr.setCell ⟨g3, v, none⟩ (.int .u8 (x.toNat : Int)))) := Lib.hid (I.out.2.grown g9 I.out.2.size (fun j hj => by injection hj with hj; subst hj; exact hg3))
              clear hv hx hset o9 g9 I hib SBi hg3 hl3
              go_wp2_with fail
              go_roundw
              case rel => exact ⟨i + 1, by omega, by go_num, Lib.hid ⟨O9.out, B9.out⟩⟩
              case measure => simp [intOf]; omega
            · have hiI : ¬ (i : Int) < (n : Int) := by omega
              have hin : i = n := by omega
              subst hin
              have O4 : Hid (wr.ownsRow w2.heap.size 5 1 (.slice A3 K k3) K (bs (overL l1 k b))) := by
                have h := I.out.1
                rw [List.take_of_length_le (by rw [LB.out]; exact Nat.le_refl _)] at h
                exact h
              have B4 := Lib.hid I.out.2
              clear I
              have hc4 : ∃ y, wr.cell? ⟨g, 1 + m * 2, none⟩ = some y := ⟨_, (H2.out.bel B4.out).cLasts m Hm.out⟩
              obtain ⟨y4, hc4⟩ := hc4
              have hz4 := (H2.out.bel B4.out).frozen (1 + m * 2)
              have lg4 := (H2.out.bel B4.out).gt
              have fin : Hid (Rstep g R w (wr.setCell ⟨g, 1 + m * 2, none⟩ (.slice A3 K k3)) (s2.overF m ((k : Int).toNat) b)) := by
                have e1 : s2.overF m ((k : Int).toNat) b = s2.put m ⟨overL (D.file m).d k b, K⟩ := by unfold DD.overF; rw [Int.toNat_natCast, Int.toNat_natCast, EF.out, HK.out]
                rw [e1]
                have hsp : (D.file m).d = l1 ++ (D.file m).d.drop K := by rw [HL1.out, List.take_append_drop]
                have hov : overL (D.file m).d k b = overL l1 k b ++ (D.file m).d.drop K := by
                  conv => lhs; rw [hsp]
                  exact overL_ref_app (by rw [LB.out, L1.out]; exact hkn.out)
                have hl2 : (overL l1 k b).length = K := by rw [overL_len (by rw [LB.out, L1.out]; exact hkn.out), L1.out]
                have hst := (H2.out.bel B4.out).storeL (R' := fun k => R2 k ∨ (w2.heap.size ≤ k ∧ k < wr.heap.size)) Hm.out ⟨overL (D.file m).d k b, K⟩ (A1 := A3) (n1 := K) (c1 := k3) rfl (by rw [EF.out]; exact HK.out)
                  (by rw [EF.out, ← HK.out, hov]; exact List.drop_left' hl2) (by rw [EF.out, hov, List.length_append, hl2, List.length_drop]; omega)
                  (by rw [hov, List.take_left' hl2]; exact (Sl.of_own O4.out).mono (fun k hk => .inr ⟨hk.1, hk.2.1⟩)) (fun k hk => .inl hk) (fun k hk => by
                    rcases hk with hk | hk
                    · exact ⟨Nat.lt_of_lt_of_le (RL.out k hk) B4.out.size, (H2.out.rlt k hk).2⟩
                    · exact ⟨hk.2, by omega⟩)
                refine ⟨_, ⟨_, _, hst.1⟩, (F2.out.trans (Fr.of_below (M := fun k => k = g) B4.out) (fun _ _ e => e)).trans hst.2 (fun _ _ e => e), fun k hk => .inl (I2.out k hk), fun k hk => ?_⟩
                rcases hk with hk | hk
                · exact O2.out k hk
                · exact .inr (Nat.le_trans F2.out.size hk.1)
              go_wp2_with fail
              go_ret
              exact ⟨rfl, fin.out⟩
        · rw [if_neg h0]
          have h0' : (s1 != 0) = true := by simpa using h0
          clear h0 no
          go_enter Try.func43, Try.ntmps43
          go_wp2_with fail
          refine SB.out.mono ?_
          rintro e w2 ⟨rfl, hst⟩
          have HST := Lib.hid hst
          clear hst
          go_wp2_with fail
          go_ret
          exact ⟨rfl, HST.out⟩
      · have h1I : ¬ (k : Int) ≤ (K : Int) := by omega
        rw [decide_eq_false h1I, Bool.false_and] at hr
        subst hr
        have hd1 : decide (k ≤ K) = false := decide_eq_false h1a
        have h0 := no rfl
        have h0' : (s1 != 0) = true := by simpa using h0
        rw [if_neg h0]
        clear h0 no
        go_enter Try.func43, Try.ntmps43
        go_wp2_with fail
        refine SB.out.mono ?_
        rintro e w2 ⟨rfl, hst⟩
        have HST := Lib.hid hst
        clear hst
        go_wp2_with fail
        go_ret
        exact ⟨rfl, HST.out⟩
    · have hd0 : decide (0 ≤ a) = false := decide_eq_false h0a
      rw [hd0, Bool.false_and] at hr
      subst hr
      have h0 := no rfl
      have h0' : (s1 != 0) = true := by simpa using h0
      rw [if_neg h0]
      clear h0 no
      go_enter Try.func43, Try.ntmps43
      go_wp2_with fail
      refine SB.out.mono ?_
      rintro e w2 ⟨rfl, hst⟩
      have HST := Lib.hid hst
      clear hst
      go_wp2_with fail
      go_ret
      exact ⟨rfl, HST.out⟩
end Go.Proofs.Ytjfnpndpigpaiaa
