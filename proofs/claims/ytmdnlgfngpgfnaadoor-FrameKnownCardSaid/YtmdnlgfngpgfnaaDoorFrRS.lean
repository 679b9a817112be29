/- The reference's Scan. -/
import Derived.Test.YtmdnlgfngpgfnaaDoorFrRG
import Derived.Test.YtmdnlgfngpgfnaaDoorFrSc3
namespace Go.Proofs.YtmdnlgfngpgfnaaDoor
open Go.RowKit

set_option maxRecDepth 100000 in
set_option maxHeartbeats 2000000 in
theorem RefScan_any {w : World} {F : Nat → Prop} {A : Option Addr} {n c : Nat} {l : List UInt8} (hs : Sl w F A n c l) (hF : ∀ k, F k → k < w.heap.size) (hn : n ≤ 10000000) :
    Calls Tryd.prog 25 #[.slice A n c] w fun e w' => ∃ A' c' cells D, e = .returned (.tuple #[.slice A' (scanP l).length c', .int .i64 (atF l (scanP l).length : Nat)]) ∧ w'.ownsRow w.heap.size 34 2 (.slice A' (scanP l).length c') (scanP l).length cells ∧
      FrsAt w' D (gotF l) cells ∧ (∀ j, D j → w.heap.size ≤ j ∧ j < w'.heap.size ∧ (Value.slice A' (scanP l).length c').ownBlock ≠ some j) ∧ Below w.heap.size w w' := by
  have H := Lib.hid hs; have HF := Lib.hid hF; have Hlen := Lib.hid hs.len; have Hcap := Lib.hid hs.cap
  clear hs hF
  have hN1 := scan_len l
  have hN2 : (scanP l).length ≤ 10000000 := by have := Hlen.out; omega
  have HN2 := Lib.hid hN2
  clear hN1 hN2
  obtain ⟨iF, hiF, hzz⟩ := Option.map_eq_some_iff.1 Tryd.infoFr
  simp only [Prod.mk.injEq] at hzz
  obtain ⟨hzF, hzF2, hzF3⟩ := hzz
  have HiF := Lib.hid hiF; have HzF := Lib.hid hzF; have HzF2 := Lib.hid hzF2; have HzF3 := Lib.hid hzF3
  clear hiF hzF hzF2 hzF3
  go_enter Tryd.func25, Tryd.ntmps25
  go_wp2_with fail
  go_loopw [4, 5] (fun v i w' => ∃ (k : Nat) (A : Option Addr) (c : Nat) (cells : List Value) (D : Nat → Prop), k ≤ (scanP l).length ∧ i = .int .i64 (atF l k : Nat) ∧ v = .slice A k c ∧
      Hid (w'.ownsRow w.heap.size 34 2 (.slice A k c) k cells) ∧ Hid (FrsAt w' D ((gotF l).take k) cells) ∧ Hid (∀ j, D j → w.heap.size ≤ j ∧ j < w'.heap.size ∧ (Value.slice A k c).ownBlock ≠ some j) ∧ Hid (Below w.heap.size w w'))
    (fun v _ _ => (scanP l).length - (match v with | .slice _ k _ => k | _ => 0))
  case atStart => exact ⟨0, none, 0, [], NoB, Nat.zero_le _, rfl, rfl, World.ownsRow_nil _ _ _ _, rfl, fun _ h => h.elim, Below.refl _ _⟩
  case round =>
    obtain ⟨k, A1, c1, cells, D, hk, rfl, rfl, Hown, Hfr, HD, Hbw⟩ := hrel
    have hd := restF_drop l k hk
    have hT : atF l k ≤ n := by have := Hlen.out; omega
    have Hrest := Lib.hid hd.1
    have Hr := Lib.hid (H.out.fr (Fr.of_below (M := NoB) Hbw.out) (fun k hk => ⟨HF.out k hk, id⟩))
    have hz1 := Hbw.out.size
    have hTI : ((atF l k : Nat) : Int) ≤ (n : Int) := by omega
    have hTc : ((atF l k : Nat) : Int) ≤ (c : Int) := by have := Hcap.out; omega
    have Hk := Lib.hid hk
    have hHF : Hid (∀ k, F k → k < wr.heap.size) := fun k hk => Nat.lt_of_lt_of_le (HF.out k hk) hz1
    have hat1 : Hid (k < (scanP l).length → atF l (k + 1) = atF l k + (getP (restF l k)).n ∧ (gotF l).take (k + 1) = (gotF l).take k ++ [((getP (restF l k)).k, (getP (restF l k)).body)] ∧ (getP (restF l k)).e = 0 ∧ atF l (k + 1) ≤ n) := fun hkN => by
      have h1 := scan_at l hkN
      have hl : k < (gotF l).length := by unfold gotF; simpa using hkN
      have h2 := (restF_drop l (k + 1) (by omega)).2
      refine ⟨by rw [atF_succ l hkN, h1.1], ?_, by rw [h1.1]; exact h1.2, by have := Hlen.out; omega⟩
      rw [List.take_succ_eq_append_getElem hl]
      congr 2
      simp only [gotF, List.getElem_map]
      rw [h1.1]
    have hend : Hid (¬ k < (scanP l).length → k = (scanP l).length ∧ (getP (restF l k)).e ≠ 0) := fun h => by
      have : k = (scanP l).length := by omega
      subst this
      exact ⟨rfl, scan_end l⟩
    have hne1 : Hid (gotF l = (gotF l).take (scanP l).length) := by
      show _ = _
      rw [List.take_of_length_le (by unfold gotF; simp)]
    generalize hG : getP (restF l k) = G at hat1 hend
    have HG := Lib.hid hG
    obtain ⟨Ge, Gk, Gb, Gn⟩ := G
    generalize hTT : atF l k = T at *
    have HTT := Lib.hid hTT
    clear hd hG hTT hk
    obtain ⟨A', c', hs2, hcs⟩ : ∃ A' c', Hid (Sl wr F A' (n - T) c' (restF l k)) ∧ ((c = T ∧ A' = A ∧ c' = c - T) ∨ (¬ c = T ∧ ∃ ad, A = some ad ∧ A' = some (ad.add T) ∧ c' = c - T)) := by
      by_cases hcc : c = T
      · refine ⟨A, c - T, ?_, .inl ⟨hcc, rfl, rfl⟩⟩
        show Sl _ _ _ _ _ _
        rw [Hrest.out]
        exact Hr.out.drop_ hT (.inl ⟨rfl, hcc⟩)
      · obtain ⟨ad, rfl⟩ : ∃ ad, A = some ad := by
          cases A with
          | some ad => exact ⟨ad, rfl⟩
          | none => have := H.out.zero rfl; omega
        refine ⟨some (ad.add T), c - T, ?_, .inr ⟨hcc, ad, rfl, rfl, rfl⟩⟩
        show Sl _ _ _ _ _ _
        rw [Hrest.out]
        exact Hr.out.drop_ hT (.inr rfl)
    have hnT : Hid (n - T ≤ 9223372036854775000) := by show _ ≤ _; omega
    rcases hcs with ⟨hcc, rfl, rfl⟩ | ⟨hcc, ad, rfl, rfl, rfl⟩
    · obtain hcc := hcc.symm
      subst hcc
      have hn0 : T = n := by have := Hcap.out; omega
      subst hn0
      have hs2' : Hid (Sl wr F A' 0 0 (restF l k)) := by have := hs2.out; rw [Nat.sub_self] at this; exact this
      have hnT' : Hid (0 ≤ 9223372036854775000) := Nat.zero_le _
      by_cases hkN : k < (scanP l).length
      · obtain ⟨h1, h2, h3, h4⟩ := hat1.out hkN
        have h3 : Ge = 0 := h3
        subst h3
        have H1 := Lib.hid h1; have H2 := Lib.hid h2
        have hgn : (T : Int) + (Gn : Int) ≤ 10000000 := by simp only at h1; omega
        have HkN := Lib.hid hkN
        clear h1 h2 h3 h4 hat1 hend hkN
        go_wp2_with fail
        refine (RefGet_any hs2'.out hHF.out hnT'.out).mono ?_
        rw [HG.out]
        rintro e w2 ⟨A2, n2, c2, rfl, hown2, hb2⟩
        unfold gotV
        have Ho2 := Lib.hid hown2; have Hb2 := Lib.hid hb2
        have hz2 := hb2.size
        clear hown2 hb2
        have hb3 : Hid (Below wr.heap.size wr (w2.alloc (.cells #[.int .i64 Gk, .slice A2 n2 c2] 34))) := Hb2.out.alloc hz2 _
        go_wp2_with (first
          | (refine lst_buildSlice_one 42 34 (.tmp 22) iF _ (.agg #[.int .i64 Gk, .slice A2 n2 c2]) rfl rfl Tryd.underlying42 HiF.out HzF.out (by rw [HzF2.out]; rfl) (by rw [HzF2.out]; rfl) (by rw [HzF2.out]; decide) (by rw [HzF2.out]; decide) ?_ ?_
             (focus rfl))
          | (at_builtin
             refine append_fr rfl (.tmp 21) (.tmp 23) rfl w.heap.size A1 k c1 cells rfl ((own_fr Hown.out (Fr.of_below (M := NoB) hb3.out) (fun _ _ e => e)).alloc _) (some ⟨(w2.alloc (.cells #[.int .i64 Gk, .slice A2 n2 c2] 34)).heap.size, 0, none⟩) 1 [.int .i64 Gk, .slice A2 n2 c2] rfl rfl (Rd.of_block (heap_alloc_new _ _)) (by intro u hu; simp at hu; rcases hu with rfl | rfl <;> rfl) (by have := HN2.out; have := HkN.out; omega) (by have := hb3.out.size; simp at this ⊢; omega) ?_
             intro A5 c5 w5 hown5 hg5 hat5))
        have Hb5 : Hid (Below wr.heap.size wr w2) := Hb2
        have hF5 : Hid (Fr (fun j => some j = (Value.slice A1 k c1).ownBlock) wr w5) := (((Fr.of_below Hb2.out).alloc _).alloc _).trans (Fr.of_grown hg5) (fun _ _ h => h)
        have hlo : Hid (∀ j, (Value.slice A1 k c1).ownBlock = some j → w.heap.size ≤ j ∧ j < wr.heap.size) := fun j hj => Hown.out.lt j hj
        have hlt5 : Hid (∀ j, (Value.slice A5 (k + 1) c5).ownBlock = some j → (Value.slice A1 k c1).ownBlock = some j ∨ w2.heap.size < j) := fun j hj => by
          rcases hat5 with e | e
          · left; rw [← e]; exact hj
          · right; rw [e] at hj; injection hj with hj; simp at hj; omega
        have hz5 : Hid (w2.heap.size + 2 ≤ w5.heap.size) := by have := hg5.size; simp at this; show _ ≤ _; omega
        have Ho5 := Lib.hid hown5
        have hA2 : Hid (w5.ownsRow 0 5 1 (.slice A2 n2 c2) n2 (bs Gb)) := own_mono (own_fr Ho2.out ((((Fr.refl _ w2).alloc _).alloc _).trans (Fr.of_grown hg5) (fun _ _ h => h)) (fun j hj e => by
          have h1 := (Ho2.out.lt j hj).1
          have h2 := (hlo.out j e.symm).2
          omega)) (Nat.zero_le _)
        clear hown5 hg5 hat5 hgn
        go_roundw
        case rel =>
          refine ⟨k + 1, A5, c5, _, fun j => D j ∨ (Value.slice A2 n2 c2).ownBlock = some j, HkN.out, by rw [H1.out]; go_num, rfl, Ho5.out, ?_, ?_, ?_⟩
          · show FrsAt _ _ _ _
            rw [H2.out]
            refine FrsAt.snoc hA2.out (fun j hj => .inr hj) (FrsAt.mono (fun j h => .inl h) (FrsAt.fr hF5.out (fun j hj e => ?_) Hfr.out))
            exact (HD.out j hj).2.2 e.symm
          · rintro j (hj | hj)
            · have h1 := HD.out j hj
              refine ⟨h1.1, by have := hz5.out; omega, fun e => ?_⟩
              rcases hlt5.out j e with h | h
              · exact h1.2.2 h
              · omega
            · have h1 := Ho2.out.lt j hj
              refine ⟨by omega, by have := hz5.out; omega, fun e => ?_⟩
              rcases hlt5.out j e with h | h
              · have := hlo.out j h; omega
              · omega
          · exact Hbw.out.trans (Fr.to_below' hF5.out (fun j hj e => by have := (hlo.out j e.symm).1; omega) hz1)
        case measure => have := HkN.out; simp; omega
      · obtain ⟨rfl, hne⟩ := hend.out hkN
        have hneB : (Ge != 0) = true := by simpa using hne
        clear hne hat1 hend hkN
        go_wp2_with fail
        refine (RefGet_any hs2'.out hHF.out hnT'.out).mono ?_
        rw [HG.out]
        rintro e w2 ⟨A2, n2, c2, rfl, hown2, hb2⟩
        unfold gotV
        have Hb2 := Lib.hid hb2
        clear hown2 hb2
        go_wp2_with fail
        go_ret2
        have hb3 : Below wr.heap.size wr (w2.alloc (.cells #[.int .i64 Gk, .slice A2 n2 c2] 34)) := Hb2.out.alloc Hb2.out.size _
        refine ⟨A1, c1, cells, D, by rw [HTT.out]; rfl, own_fr Hown.out (Fr.of_below (M := NoB) hb3) (fun _ _ e => e), ?_, fun j hj => ⟨(HD.out j hj).1, Nat.lt_of_lt_of_le (HD.out j hj).2.1 hb3.size, (HD.out j hj).2.2⟩, Hbw.out.trans (hb3.mono hz1)⟩
        rw [hne1.out]
        exact Hfr.out.fr (Fr.of_below (M := NoB) hb3) (fun j hj => id)
    · have hs2' := hs2
      have hnT' := hnT
      by_cases hkN : k < (scanP l).length
      · obtain ⟨h1, h2, h3, h4⟩ := hat1.out hkN
        have h3 : Ge = 0 := h3
        subst h3
        have H1 := Lib.hid h1; have H2 := Lib.hid h2
        have hgn : (T : Int) + (Gn : Int) ≤ 10000000 := by simp only at h1; omega
        have HkN := Lib.hid hkN
        clear h1 h2 h3 h4 hat1 hend hkN
        go_wp2_with fail
        refine (RefGet_any hs2'.out hHF.out hnT'.out).mono ?_
        rw [HG.out]
        rintro e w2 ⟨A2, n2, c2, rfl, hown2, hb2⟩
        unfold gotV
        have Ho2 := Lib.hid hown2; have Hb2 := Lib.hid hb2
        have hz2 := hb2.size
        clear hown2 hb2
        have hb3 : Hid (Below wr.heap.size wr (w2.alloc (.cells #[.int .i64 Gk, .slice A2 n2 c2] 34))) := Hb2.out.alloc hz2 _
        go_wp2_with (first
          | (refine lst_buildSlice_one 42 34 (.tmp 22) iF _ (.agg #[.int .i64 Gk, .slice A2 n2 c2]) rfl rfl Tryd.underlying42 HiF.out HzF.out (by rw [HzF2.out]; rfl) (by rw [HzF2.out]; rfl) (by rw [HzF2.out]; decide) (by rw [HzF2.out]; decide) ?_ ?_
             (focus rfl))
          | (at_builtin
             refine append_fr rfl (.tmp 21) (.tmp 23) rfl w.heap.size A1 k c1 cells rfl ((own_fr Hown.out (Fr.of_below (M := NoB) hb3.out) (fun _ _ e => e)).alloc _) (some ⟨(w2.alloc (.cells #[.int .i64 Gk, .slice A2 n2 c2] 34)).heap.size, 0, none⟩) 1 [.int .i64 Gk, .slice A2 n2 c2] rfl rfl (Rd.of_block (heap_alloc_new _ _)) (by intro u hu; simp at hu; rcases hu with rfl | rfl <;> rfl) (by have := HN2.out; have := HkN.out; omega) (by have := hb3.out.size; simp at this ⊢; omega) ?_
             intro A5 c5 w5 hown5 hg5 hat5))
        have Hb5 : Hid (Below wr.heap.size wr w2) := Hb2
        have hF5 : Hid (Fr (fun j => some j = (Value.slice A1 k c1).ownBlock) wr w5) := (((Fr.of_below Hb2.out).alloc _).alloc _).trans (Fr.of_grown hg5) (fun _ _ h => h)
        have hlo : Hid (∀ j, (Value.slice A1 k c1).ownBlock = some j → w.heap.size ≤ j ∧ j < wr.heap.size) := fun j hj => Hown.out.lt j hj
        have hlt5 : Hid (∀ j, (Value.slice A5 (k + 1) c5).ownBlock = some j → (Value.slice A1 k c1).ownBlock = some j ∨ w2.heap.size < j) := fun j hj => by
          rcases hat5 with e | e
          · left; rw [← e]; exact hj
          · right; rw [e] at hj; injection hj with hj; simp at hj; omega
        have hz5 : Hid (w2.heap.size + 2 ≤ w5.heap.size) := by have := hg5.size; simp at this; show _ ≤ _; omega
        have Ho5 := Lib.hid hown5
        have hA2 : Hid (w5.ownsRow 0 5 1 (.slice A2 n2 c2) n2 (bs Gb)) := own_mono (own_fr Ho2.out ((((Fr.refl _ w2).alloc _).alloc _).trans (Fr.of_grown hg5) (fun _ _ h => h)) (fun j hj e => by
          have h1 := (Ho2.out.lt j hj).1
          have h2 := (hlo.out j e.symm).2
          omega)) (Nat.zero_le _)
        clear hown5 hg5 hat5 hgn
        go_roundw
        case rel =>
          refine ⟨k + 1, A5, c5, _, fun j => D j ∨ (Value.slice A2 n2 c2).ownBlock = some j, HkN.out, by rw [H1.out]; go_num, rfl, Ho5.out, ?_, ?_, ?_⟩
          · show FrsAt _ _ _ _
            rw [H2.out]
            refine FrsAt.snoc hA2.out (fun j hj => .inr hj) (FrsAt.mono (fun j h => .inl h) (FrsAt.fr hF5.out (fun j hj e => ?_) Hfr.out))
            exact (HD.out j hj).2.2 e.symm
          · rintro j (hj | hj)
            · have h1 := HD.out j hj
              refine ⟨h1.1, by have := hz5.out; omega, fun e => ?_⟩
              rcases hlt5.out j e with h | h
              · exact h1.2.2 h
              · omega
            · have h1 := Ho2.out.lt j hj
              refine ⟨by omega, by have := hz5.out; omega, fun e => ?_⟩
              rcases hlt5.out j e with h | h
              · have := hlo.out j h; omega
              · omega
          · exact Hbw.out.trans (Fr.to_below' hF5.out (fun j hj e => by have := (hlo.out j e.symm).1; omega) hz1)
        case measure => have := HkN.out; simp; omega
      · obtain ⟨rfl, hne⟩ := hend.out hkN
        have hneB : (Ge != 0) = true := by simpa using hne
        clear hne hat1 hend hkN
        go_wp2_with fail
        refine (RefGet_any hs2'.out hHF.out hnT'.out).mono ?_
        rw [HG.out]
        rintro e w2 ⟨A2, n2, c2, rfl, hown2, hb2⟩
        unfold gotV
        have Hb2 := Lib.hid hb2
        clear hown2 hb2
        go_wp2_with fail
        go_ret2
        have hb3 : Below wr.heap.size wr (w2.alloc (.cells #[.int .i64 Gk, .slice A2 n2 c2] 34)) := Hb2.out.alloc Hb2.out.size _
        refine ⟨A1, c1, cells, D, by rw [HTT.out]; rfl, own_fr Hown.out (Fr.of_below (M := NoB) hb3) (fun _ _ e => e), ?_, fun j hj => ⟨(HD.out j hj).1, Nat.lt_of_lt_of_le (HD.out j hj).2.1 hb3.size, (HD.out j hj).2.2⟩, Hbw.out.trans (hb3.mono hz1)⟩
        rw [hne1.out]
        exact Hfr.out.fr (Fr.of_below (M := NoB) hb3) (fun j hj => id)
end Go.Proofs.YtmdnlgfngpgfnaaDoor
