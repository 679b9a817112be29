/- The reference's ring: Use, Shred, Hold. -/
import Derived.Test.YtglbhoamknjdeaaRr2
import Derived.Test.YtglbhoamknjdeaaOrd3
namespace Go.Proofs.Ytglbhoamknjdeaa
open Go.RowKit
attribute [local go_sem] yld yldUpon_value

theorem putR_set {L : List (Wk × Hd)} (hn : (L.map (·.1)).Nodup) {i : Nat} (hi : i < L.length) {k : Wk} (hk : L[i].1 = k) (h : Hd) : putR L k h = L.set i (k, h) := by
  have hl : look L k = some L[i].2 := by
    have : (k, L[i].2) ∈ L := by rw [← hk]; exact List.getElem_mem hi
    exact look_mem hn this
  unfold putR
  rw [hl]
  simp only [Option.isSome_some, if_true]
  apply List.ext_getElem
  · simp
  · intro j h1 h2
    rw [List.getElem_map, List.getElem_set]
    have hj : j < L.length := by simpa using h1
    by_cases e : i = j
    · subst e; simp [hk]
    · have hne : L[j].1 ≠ k := by
        intro e2
        have h5 : (L.map (·.1))[i]'(by simpa using hi) = (L.map (·.1))[j]'(by simpa using hj) := by rw [List.getElem_map, List.getElem_map, hk, e2]
        exact e ((List.getElem_inj hn).1 h5)
      simp [hne, e]
theorem RefAt.set {w : World} {lo g : Nat} {A : Option Addr} {n c gb : Nat} {L : List (Wk × Hd)} (h : RefAt w lo g A n c L) (hA : A = some ⟨gb, 0, none⟩) (hg : (Value.slice A n c).ownBlock = some gb) {i : Nat} (hi : i < L.length) {k : Nat} (hk : k < 5) {v : Value} {p : Wk × Hd} (he : (rc L[i]).set k v = rc p) :
    RefAt (w.setCell ⟨gb, i * 5 + k, none⟩ v) lo g A n c (L.set i p) ∧ Fr (RM g A n c) w (w.setCell ⟨gb, i * 5 + k, none⟩ v) := by
  subst hA
  have hs := h.own.stored (i * 5 + k) v
  have hf : Fr (fun j => j = gb) w (w.setCell ⟨gb, i * 5 + k, none⟩ v) := Fr.of_set w gb _ v rfl
  refine ⟨⟨(hf.block _ (Array.getElem?_eq_some_iff.1 h.box).1 (fun e => h.ne gb hg e.symm)).trans h.box, ?_, h.ne, h.lo⟩, hf.mono (fun j _ e => .inr (by rw [hg, e]))⟩
  rw [← rcs_set L i hi k hk v p he]
  exact hs.1
set_option maxRecDepth 100000 in
set_option maxHeartbeats 4000000 in
theorem rUse_any {w : World} {lo g : Nat} {A : Option Addr} {n c : Nat} {L : List (Wk × Hd)} (h : RefAt w lo g A n c L) (hn : n ≤ 10000) (hnd : (L.map (·.1)).Nodup) (hok : ∀ p ∈ L, 0 ≤ p.2.uses ∧ p.2.uses ≤ 200) (t s : ByteArray) (v : Int) :
    Calls Try.prog 23 #[.pointer (some ⟨g, 0, none⟩), .string t, .string s, .int .i64 v] w fun e w' => e = .returned (.int .i64 (useR L (t, s) v).1) ∧ RefAt w' lo g A n c (useR L (t, s) v).2 ∧ Fr (RM g A n c) w w' := by
  have H := Lib.hid h
  have hcell := h.cell
  have HL := Lib.hid h.len
  have HND := Lib.hid hnd; have HOK := Lib.hid hok; have HN := Lib.hid hn
  clear h hnd hok hn
  by_cases h1 : v < 1
  · have e1 : Hid (useR L (t, s) v = (1, L)) := by show _ = _; unfold useR; rw [if_pos h1]
    clear hcell
    go_enter Try.func23, Try.ntmps23
    go_wp2_with fail
    go_ret
    rw [e1.out]
    exact ⟨rfl, H.out, Fr.refl _ _⟩
  have HH1 := Lib.hid h1
  go_enter Try.func23, Try.ntmps23
  go_wp2_with fail
  refine (at_any H.out (Nat.le_trans HN.out (by decide)) t s).mono ?_
  rintro e w' ⟨⟨r, rfl, hr⟩, rfl⟩
  rcases hr.h with ⟨rfl, hl⟩ | ⟨i, hi, rfl, hik, hl⟩
  · have e1 : Hid (useR L (t, s) v = (12, L)) := by show _ = _; unfold useR; rw [if_neg (by have := HH1.out; omega), hl]
    clear hr hl
    go_wp2_with fail
    go_ret
    rw [e1.out]
    exact ⟨rfl, H.out, Fr.refl _ _⟩
  · have hi0 : (0 : Int) ≤ (i : Int) := by omega
    have hin : i < n := by have := HL.out; omega
    have hiI : (i : Int) < (n : Int) := by omega
    have hu := HOK.out L[i] (List.getElem_mem hi)
    obtain ⟨gb, hA, hgb, hc⟩ := H.out.row hi
    subst hA
    obtain ⟨⟨k0, s1, s2, s3⟩, hp⟩ : ∃ p, L[i] = p := ⟨_, rfl⟩
    rw [hp] at hc hu hl hik
    have hik : k0 = (t, s) := hik
    subst hik
    have c3 : w.cell? ⟨gb, i * 5 + 3, none⟩ = some (.int .i64 s2) := hc 3 _ (by decide) rfl
    have c4 : w.cell? ⟨gb, i * 5 + 4, none⟩ = some (.bool s3) := hc 4 _ (by decide) rfl
    have HP := Lib.hid hp; have HC := Lib.hid hc
    have hu1 : 0 ≤ s2 := hu.1
    have hu2 : s2 ≤ 200 := hu.2
    have Hgb := Lib.hid hgb
    clear hr hc hp hu hgb
    cases s3 with
    | true =>
      have e1 : Hid (useR L (t, s) v = (17, L)) := by show _ = _; unfold useR; rw [if_neg (by have := HH1.out; omega), hl]; simp
      clear hl c3
      go_wp2_with fail
      go_ret
      rw [e1.out]
      exact ⟨rfl, H.out, Fr.refl _ _⟩
    | false =>
      by_cases h2 : 200 < v
      · have e1 : Hid (useR L (t, s) v = (16, L)) := by show _ = _; unfold useR; rw [if_neg (by have := HH1.out; omega), hl]; simp; omega
        clear hl c3
        go_wp2_with fail
        go_ret
        rw [e1.out]
        exact ⟨rfl, H.out, Fr.refl _ _⟩
      · by_cases h3 : 200 < s2 + v
        · have e1 : Hid (useR L (t, s) v = (16, L)) := by show _ = _; unfold useR; rw [if_neg (by have := HH1.out; omega), hl]; simp; omega
          have h2' : v ≤ 200 := by omega
          clear hl h2
          go_wp2_with fail
          go_ret
          rw [e1.out]
          exact ⟨rfl, H.out, Fr.refl _ _⟩
        · have e1 : Hid (useR L (t, s) v = (0, L.set i ((t, s), ⟨s1, s2 + v, false⟩))) := by
            show _ = _
            unfold useR; rw [if_neg (by have := HH1.out; omega), hl]
            simp only [Bool.false_eq_true, if_false]
            rw [if_neg (by omega), putR_set HND.out hi (by rw [HP.out])]
          have h2' : v ≤ 200 := by omega
          have h1' : 1 ≤ v := by have := HH1.out; omega
          obtain ⟨u, hu⟩ : ∃ u, s2 + v = u := ⟨_, rfl⟩
          have h3' : u ≤ 200 := by omega
          have h4' : 0 ≤ u := by omega
          clear hl h2 h3 h1
          go_wp2_with fail
          have f3 := H.out.own.frozenAt (i * 5 + 3)
          have gl := (Array.getElem?_eq_some_iff.1 H.out.box).1
          have gbl := block_lt_of c3
          have hw : IntKind.i64.wrap u = u := by rw [IntKind.wrap_i64]; omega
          have S := Lib.hid (H.out.set rfl Hgb.out hi (k := 3) (by decide) (v := .int .i64 u) (p := ((t, s), ⟨s1, s2 + v, false⟩)) (by rw [HP.out, hu]; rfl))
          refine wp_calm ?_
          refine wp_region_os (fun _ w' => Below (w).drew.heap.size (w).drew w') [3, 8, 13] (.move 0 (.move 1 (.move 2 (.take 3 (.move 4 (.move 5 (.move 6 (.move 7 (.take 8 (.move 9 (.move 10 (.move 11 (.move 12 (.take 13 (.move 14 (.move 15 (.move 16 (.move 17 (.move 18 (.run 19 [] .done)))))))))))))))))))) (by kernel_rfl) (by kernel_rfl) (fun _ _ _ _ _ h => nomatch h.1) ?_
          have hS0 : Below (w).drew.heap.size (w).drew (w).drew := Below.refl _ _
          refine os_move rfl rfl rfl (Nat.le_of_ble_eq_true rfl) ?_
          apply Exists.intro
          refine ⟨fun w' K hK => ?_, ?_⟩
          (focus
            go_simp
            exact hK)
          refine os_move rfl rfl rfl (Nat.le_of_ble_eq_true rfl) ?_
          apply Exists.intro
          refine ⟨fun w' K hK => ?_, ?_⟩
          (focus
            go_simp
            exact hK)
          refine os_move rfl rfl rfl (Nat.le_of_ble_eq_true rfl) ?_
          apply Exists.intro
          refine ⟨fun w' K hK => ?_, ?_⟩
          (focus
            go_simp
            exact hK)
          refine os_yld hS0 rfl rfl rfl (Nat.le_of_ble_eq_true rfl) ?_
          apply Exists.intro
          refine ⟨fun w' hS' K hK => ?_, ?_⟩
          (focus
            obtain ⟨hcc, hff⟩ := bcellB (Below.undr hS')
            clear hS'
            go_simp
            exact hK)
          refine os_move rfl rfl rfl (Nat.le_of_ble_eq_true rfl) ?_
          apply Exists.intro
          refine ⟨fun w' K hK => ?_, ?_⟩
          (focus
            go_simp
            exact hK)
          refine os_move rfl rfl rfl (Nat.le_of_ble_eq_true rfl) ?_
          apply Exists.intro
          refine ⟨fun w' K hK => ?_, ?_⟩
          (focus
            go_simp
            exact hK)
          refine os_move rfl rfl rfl (Nat.le_of_ble_eq_true rfl) ?_
          apply Exists.intro
          refine ⟨fun w' K hK => ?_, ?_⟩
          (focus
            go_simp
            exact hK)
          refine os_move rfl rfl rfl (Nat.le_of_ble_eq_true rfl) ?_
          apply Exists.intro
          refine ⟨fun w' K hK => ?_, ?_⟩
          (focus
            go_simp
            exact hK)
          refine os_yld hS0 rfl rfl rfl (Nat.le_of_ble_eq_true rfl) ?_
          apply Exists.intro
          refine ⟨fun w' hS' K hK => ?_, ?_⟩
          (focus
            obtain ⟨hcc, hff⟩ := bcellB (Below.undr hS')
            clear hS'
            go_simp
            exact hK)
          refine os_move rfl rfl rfl (Nat.le_of_ble_eq_true rfl) ?_
          apply Exists.intro
          refine ⟨fun w' K hK => ?_, ?_⟩
          (focus
            go_simp
            exact hK)
          refine os_move rfl rfl rfl (Nat.le_of_ble_eq_true rfl) ?_
          apply Exists.intro
          refine ⟨fun w' K hK => ?_, ?_⟩
          (focus
            go_simp
            exact hK)
          refine os_move rfl rfl rfl (Nat.le_of_ble_eq_true rfl) ?_
          apply Exists.intro
          refine ⟨fun w' K hK => ?_, ?_⟩
          (focus
            go_simp
            exact hK)
          refine os_move rfl rfl rfl (Nat.le_of_ble_eq_true rfl) ?_
          apply Exists.intro
          refine ⟨fun w' K hK => ?_, ?_⟩
          (focus
            go_simp
            exact hK)
          refine os_yld hS0 rfl rfl rfl (Nat.le_of_ble_eq_true rfl) ?_
          apply Exists.intro
          refine ⟨fun w' hS' K hK => ?_, ?_⟩
          (focus
            obtain ⟨hcc, hff⟩ := bcellB (Below.undr hS')
            clear hS'
            go_simp
            exact hK)
          refine os_move rfl rfl rfl (Nat.le_of_ble_eq_true rfl) ?_
          apply Exists.intro
          refine ⟨fun w' K hK => ?_, ?_⟩
          (focus
            go_simp
            exact hK)
          refine os_move rfl rfl rfl (Nat.le_of_ble_eq_true rfl) ?_
          apply Exists.intro
          refine ⟨fun w' K hK => ?_, ?_⟩
          (focus
            go_simp
            exact hK)
          refine os_move rfl rfl rfl (Nat.le_of_ble_eq_true rfl) ?_
          apply Exists.intro
          refine ⟨fun w' K hK => ?_, ?_⟩
          (focus
            go_simp
            exact hK)
          refine os_move rfl rfl rfl (Nat.le_of_ble_eq_true rfl) ?_
          apply Exists.intro
          refine ⟨fun w' K hK => ?_, ?_⟩
          (focus
            go_simp
            exact hK)
          refine os_move rfl rfl rfl (Nat.le_of_ble_eq_true rfl) ?_
          apply Exists.intro
          refine ⟨fun w' K hK => ?_, ?_⟩
          (focus
            go_simp
            exact hK)
          refine os_run rfl rfl (fun K hK => ?_)
          go_wp2_with fail
          refine os_done ⟨rfl, ?_⟩
          go_wp2_with fail
          go_ret
          rw [e1.out]
          exact ⟨rfl, S.out.1.bel (Below.dr1 _), S.out.2.tr (Fr.of_below (Below.dr1 _))⟩

set_option maxRecDepth 100000 in
set_option maxHeartbeats 4000000 in
theorem rShred_any {w : World} {lo g : Nat} {A : Option Addr} {n c : Nat} {L : List (Wk × Hd)} (h : RefAt w lo g A n c L) (hn : n ≤ 10000) (hnd : (L.map (·.1)).Nodup) (t s : ByteArray) :
    Calls Try.prog 24 #[.pointer (some ⟨g, 0, none⟩), .string t, .string s] w fun e w' => e = .returned (.int .i64 (shredR L (t, s)).1) ∧ RefAt w' lo g A n c (shredR L (t, s)).2 ∧ Fr (RM g A n c) w w' := by
  have H := Lib.hid h
  have hcell := h.cell
  have HL := Lib.hid h.len
  have HND := Lib.hid hnd; have HN := Lib.hid hn
  clear h hnd hn
  go_enter Try.func24, Try.ntmps24
  go_wp2_with fail
  refine (at_any H.out (Nat.le_trans HN.out (by decide)) t s).mono ?_
  rintro e w' ⟨⟨r, rfl, hr⟩, rfl⟩
  rcases hr.h with ⟨rfl, hl⟩ | ⟨i, hi, rfl, hik, hl⟩
  · have e1 : Hid (shredR L (t, s) = (12, L)) := by show _ = _; unfold shredR; rw [hl]
    clear hr hl
    go_wp2_with fail
    go_ret
    rw [e1.out]
    exact ⟨rfl, H.out, Fr.refl _ _⟩
  · have hi0 : (0 : Int) ≤ (i : Int) := by omega
    have hin : i < n := by have := HL.out; omega
    have hiI : (i : Int) < (n : Int) := by omega
    obtain ⟨gb, hA, hgb, hc⟩ := H.out.row hi
    subst hA
    obtain ⟨⟨k0, s1, s2, s3⟩, hp⟩ : ∃ p, L[i] = p := ⟨_, rfl⟩
    rw [hp] at hc hl hik
    have hik : k0 = (t, s) := hik
    subst hik
    have c4 : w.cell? ⟨gb, i * 5 + 4, none⟩ = some (.bool s3) := hc 4 _ (by decide) rfl
    have HP := Lib.hid hp
    have Hgb := Lib.hid hgb
    have f4 := H.out.own.frozenAt (i * 5 + 4)
    clear hr hc hp hgb
    cases s3 with
    | true =>
      have e1 : Hid (shredR L (t, s) = (17, L)) := by show _ = _; unfold shredR; rw [hl]; simp
      clear hl f4
      go_wp2_with fail
      go_ret
      rw [e1.out]
      exact ⟨rfl, H.out, Fr.refl _ _⟩
    | false =>
      have e1 : Hid (shredR L (t, s) = (0, L.set i ((t, s), ⟨s1, s2, true⟩))) := by
        show _ = _
        unfold shredR; rw [hl]
        simp only [Bool.false_eq_true, if_false]
        rw [putR_set HND.out hi (by rw [HP.out])]
      have S := Lib.hid (H.out.set rfl Hgb.out hi (k := 4) (by decide) (v := .bool true) (p := ((t, s), ⟨s1, s2, true⟩)) (by rw [HP.out]; rfl))
      clear hl
      go_wp2_with fail
      go_ret
      rw [e1.out]
      exact ⟨rfl, S.out.1, S.out.2⟩
set_option maxRecDepth 100000 in
set_option maxHeartbeats 4000000 in
theorem rHold_any {w : World} {lo g : Nat} {A : Option Addr} {n c : Nat} {L : List (Wk × Hd)} (h : RefAt w lo g A n c L) (hn : n ≤ 10000) (t s : ByteArray) (v : Hd) (hv : (look L (t, s)).getD hd0 = v) (ok : Bool) (ho : (look L (t, s)).isSome = ok) :
    Calls Try.prog 25 #[.pointer (some ⟨g, 0, none⟩), .string t, .string s] w fun e w' => e = .returned (.tuple #[.agg #[.int .i64 v.slot, .int .i64 v.uses, .bool v.shred], .bool ok]) ∧ Below w.heap.size w w' := by
  have H := Lib.hid h
  have hcell := h.cell
  have HL := Lib.hid h.len
  have HN := Lib.hid hn; have HV := Lib.hid hv; have HO := Lib.hid ho
  have hg0 := (Array.getElem?_eq_some_iff.1 h.box).1
  clear h hn hv ho
  go_enter Try.func25, Try.ntmps25
  go_wp2_with fail
  refine (at_any (H.out.bel (Below.al w (.cells #[.int .i64 0, .int .i64 0, .bool false] 30))) (Nat.le_trans HN.out (by decide)) t s).mono ?_
  rintro e w' ⟨⟨r, rfl, hr⟩, rfl⟩
  rcases hr.h with ⟨rfl, hl⟩ | ⟨i, hi, rfl, hik, hl⟩
  · have e1 : v = hd0 ∧ ok = false := by have h1 := HV.out; have h2 := HO.out; rw [hl] at h1 h2; exact ⟨h1.symm, h2.symm⟩
    obtain ⟨rfl, rfl⟩ := e1
    clear hr hl
    go_wp2_with fail
    refine bodyPost_ret (v := .tuple #[hV hd0, .bool false]) (by simp [results, Try.results25, go_sem]; rfl) rfl ⟨rfl, ?_⟩
    exact Below.al w _
  · have hi0 : (0 : Int) ≤ (i : Int) := by omega
    have hin : i < n := by have := HL.out; omega
    have hiI : (i : Int) < (n : Int) := by omega
    obtain ⟨gb, hA, hgb, hc⟩ := H.out.row hi
    subst hA
    obtain ⟨⟨k0, s1, s2, s3⟩, hp⟩ : ∃ p, L[i] = p := ⟨_, rfl⟩
    rw [hp] at hc hl
    have e1 : v = ⟨s1, s2, s3⟩ ∧ ok = true := by have h1 := HV.out; have h2 := HO.out; rw [hl] at h1 h2; exact ⟨h1.symm, h2.symm⟩
    obtain ⟨rfl, rfl⟩ := e1
    have c2 : w.cell? ⟨gb, i * 5 + 2, none⟩ = some (.int .i64 s1) := hc 2 _ (by decide) rfl
    have c3 : w.cell? ⟨gb, i * 5 + 2 + 1, none⟩ = some (.int .i64 s2) := hc 3 _ (by decide) rfl
    have c4 : w.cell? ⟨gb, i * 5 + 2 + 2, none⟩ = some (.bool s3) := hc 4 _ (by decide) rfl
    have gbl := block_lt_of c2
    clear hr hc hp hgb hl
    go_wp2_with fail
    refine bodyPost_ret (v := .tuple #[.agg #[.int .i64 s1, .int .i64 s2, .bool s3], .bool true]) (by simp [results, Try.results25, go_sem]) rfl ⟨rfl, ?_⟩
    exact Below.al w _
end Go.Proofs.Ytglbhoamknjdeaa
