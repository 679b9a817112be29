/- The reference's disk: stores into a file; Sync, Cut. -/
import Derived.Test.YtjfnpndpigpaiaaDr3
import Derived.Deep.MidRow
namespace Go.Proofs.Ytjfnpndpigpaiaa
open Go.RowKit
attribute [local go_sem] yld yldUpon_value

section
variable {w : World} {g : Nat} {D : DD} {L : Int} {vs : Vs} {R R' : Nat → Prop}
theorem RefAt.there (h : RefAt w g D L vs R) {f : Nat} (hf : f < 33) : w.there g (1 + f * 2) 2 := fun j hj => by
  have hc := h.cell (1 + f * 2 + j) (by omega)
  exact ⟨by rw [hc]; rfl, h.frozen _⟩
theorem RefAt.store2 (h : RefAt w g D L vs R) {f : Nat} (hf : f < 33) (x : FF) {A1 A2 : Option Addr} {n1 n2 c1 c2 : Nat} (e1 : n1 = x.k) (e2 : n2 = x.d.length - x.k) (s1 : Sl w R' A1 n1 c1 (x.d.take x.k)) (s2 : Sl w R' A2 n2 c2 (x.d.drop x.k)) (hR : ∀ k, R k → R' k) (hR' : ∀ k, R' k → k < w.heap.size ∧ k ≠ g) :
    RefAt (w.setCells g (1 + f * 2) [.slice A1 n1 c1, .slice A2 n2 c2]) g (D.put f x) L ((vs.set (2 * f) (A1, c1)).set (2 * f + 1) (A2, c2)) R' ∧ Fr (fun k => k = g) w (w.setCells g (1 + f * 2) [.slice A1 n1 c1, .slice A2 n2 c2]) := by
  subst e1; subst e2
  have hfr : Fr (fun k => k = g) w ((w.setCell ⟨g, 1 + f * 2, none⟩ (.slice A1 x.k c1)).setCell ⟨g, 1 + f * 2 + 1, none⟩ (.slice A2 (x.d.length - x.k) c2)) := (Fr.of_set (M := fun k => k = g) w g _ _ rfl).setCell (p := ⟨g, 1 + f * 2 + 1, none⟩) (.inl rfl) _
  refine ⟨h.put hf x (A1, c1) (A2, c2) ?_ hfr (s1.fr hfr (fun k hk => ⟨(hR' k hk).1, (hR' k hk).2⟩)) (s2.fr hfr (fun k hk => ⟨(hR' k hk).1, (hR' k hk).2⟩)) hR (fun k hk => ⟨Nat.lt_of_lt_of_le (hR' k hk).1 hfr.size, (hR' k hk).2⟩), hfr⟩
  exact heap_setCell (heap_setCell h.heap _) _
theorem set_same {α : Type} (l : List α) (i : Nat) (v : α) (h : l[i]? = some v) : l.set i v = l := by
  obtain ⟨hi, rfl⟩ := List.getElem?_eq_some_iff.1 h
  exact List.set_getElem_self hi
theorem rcells_two (h : RefAt w g D L vs R) {f : Nat} (hf : f < 33) : (rcells D L vs)[1 + f * 2]? = some (.slice (vA vs (2 * f)) (D.file f).k (vC vs (2 * f))) ∧ (rcells D L vs)[1 + f * 2 + 1]? = some (.slice (vA vs (2 * f + 1)) ((D.file f).d.length - (D.file f).k) (vC vs (2 * f + 1))) := by
  have h1 := h.cLasts f hf
  have h2 := h.cLoose f hf
  rw [cell_of_row w g _ _ _ _ h.heap, List.getElem?_toArray] at h1 h2
  exact ⟨h1, h2⟩
/-- what lasts is written -/
theorem RefAt.storeL (h : RefAt w g D L vs R) {f : Nat} (hf : f < 33) (x : FF) {A1 : Option Addr} {n1 c1 : Nat} (e1 : n1 = x.k) (ek : x.k = (D.file f).k) (ed : x.d.drop x.k = (D.file f).d.drop (D.file f).k) (el : x.d.length = (D.file f).d.length) (s1 : Sl w R' A1 n1 c1 (x.d.take x.k)) (hR : ∀ k, R k → R' k) (hR' : ∀ k, R' k → k < w.heap.size ∧ k ≠ g) :
    RefAt (w.setCell ⟨g, 1 + f * 2, none⟩ (.slice A1 n1 c1)) g (D.put f x) L ((vs.set (2 * f) (A1, c1)).set (2 * f + 1) (vA vs (2 * f + 1), vC vs (2 * f + 1))) R' ∧ Fr (fun k => k = g) w (w.setCell ⟨g, 1 + f * 2, none⟩ (.slice A1 n1 c1)) := by
  subst e1
  have hfr : Fr (fun k => k = g) w (w.setCell ⟨g, 1 + f * 2, none⟩ (.slice A1 x.k c1)) := Fr.of_set (M := fun k => k = g) w g _ _ rfl
  have s2 := h.slLoose f hf
  refine ⟨h.put hf x (A1, c1) (vA vs (2 * f + 1), vC vs (2 * f + 1)) ?_ hfr (s1.fr hfr (fun k hk => ⟨(hR' k hk).1, (hR' k hk).2⟩)) ?_ hR (fun k hk => ⟨Nat.lt_of_lt_of_le (hR' k hk).1 hfr.size, (hR' k hk).2⟩), hfr⟩
  · rw [set_same _ _ _ (by rw [List.getElem?_set_ne (by omega), (rcells_two h hf).2, el, ek])]
    exact heap_setCell h.heap _
  · have s3 : Sl w R (vA vs (2 * f + 1)) (x.d.length - x.k) (vC vs (2 * f + 1)) (x.d.drop x.k) := by rw [ed, el, ek]; exact s2
    exact (s3.mono hR).fr hfr (fun k hk => ⟨(hR' k hk).1, (hR' k hk).2⟩)
/-- what is loose is written -/
theorem RefAt.storeR (h : RefAt w g D L vs R) {f : Nat} (hf : f < 33) (x : FF) {A2 : Option Addr} {n2 c2 : Nat} (e2 : n2 = x.d.length - x.k) (ek : x.k = (D.file f).k) (et : x.d.take x.k = (D.file f).d.take (D.file f).k) (s2 : Sl w R' A2 n2 c2 (x.d.drop x.k)) (hR : ∀ k, R k → R' k) (hR' : ∀ k, R' k → k < w.heap.size ∧ k ≠ g) :
    RefAt (w.setCell ⟨g, 1 + f * 2 + 1, none⟩ (.slice A2 n2 c2)) g (D.put f x) L ((vs.set (2 * f) (vA vs (2 * f), vC vs (2 * f))).set (2 * f + 1) (A2, c2)) R' ∧ Fr (fun k => k = g) w (w.setCell ⟨g, 1 + f * 2 + 1, none⟩ (.slice A2 n2 c2)) := by
  subst e2
  have hfr : Fr (fun k => k = g) w (w.setCell ⟨g, 1 + f * 2 + 1, none⟩ (.slice A2 (x.d.length - x.k) c2)) := Fr.of_set (M := fun k => k = g) w g _ _ rfl
  have s1 := h.slLasts f hf
  refine ⟨h.put hf x (vA vs (2 * f), vC vs (2 * f)) (A2, c2) ?_ hfr ?_ (s2.fr hfr (fun k hk => ⟨(hR' k hk).1, (hR' k hk).2⟩)) hR (fun k hk => ⟨Nat.lt_of_lt_of_le (hR' k hk).1 hfr.size, (hR' k hk).2⟩), hfr⟩
  · rw [set_same (rcells D L vs) _ _ (by rw [(rcells_two h hf).1, ek])]
    exact heap_setCell h.heap _
  · have s3 : Sl w R (vA vs (2 * f)) x.k (vC vs (2 * f)) (x.d.take x.k) := by rw [et, ek]; exact s1
    exact (s3.mono hR).fr hfr (fun k hk => ⟨(hR' k hk).1, (hR' k hk).2⟩)
end
theorem opD_fs (D : DD) (r : Int) (X : List FF) : opD D r false { D with fs := X } = ((opD D r false D).1, if (opD D r false D).1 = 0 then { (opD D r false D).2 with fs := X } else (opD D r false D).2) := by
  unfold opD
  split
  · simp
  · split
    · rename_i h; simp [h]
    · split
      · rfl
      · rfl
theorem setD_fs (D : DD) (b : Bool) : (setD D b).2.fs = D.fs := by
  unfold setD opD
  split
  · rfl
  · split
    · rfl
    · split
      · rfl
      · rfl
theorem setD_ok {D : DD} (h : DOK D) (b : Bool) : DOK (setD D b).2 := h.op h rfl _ _
theorem setD_room (D : DD) (b : Bool) : (setD D b).2.room = D.room := by
  unfold setD opD
  split
  · rfl
  · split
    · rfl
    · split
      · rfl
      · rfl
theorem file_fs {D D' : DD} (h : D'.fs = D.fs) (f : Nat) : D'.file f = D.file f := by unfold DD.file; rw [h]
theorem setD_no {D : DD} {b : Bool} (h : (setD D b).1 = 0) : b = true := by
  cases b with
  | true => rfl
  | false =>
    unfold setD opD at h
    split at h
    · cases h
    · rw [if_pos (by decide)] at h; cases h
theorem syncD_set (D : DD) (f : Int) : syncD D f = ((setD D (okF f)).1, if (setD D (okF f)).1 = 0 then (setD D (okF f)).2.syncF f else (setD D (okF f)).2) := by
  have h := opD_fs D (badE (okF f)) (D.syncF f).fs
  have e : ({ D with fs := (D.syncF f).fs } : DD) = D.syncF f := rfl
  rw [e] at h
  unfold syncD
  rw [h]
  have e2 : ({ (setD D (okF f)).2 with fs := (D.syncF f).fs } : DD) = (setD D (okF f)).2.syncF f := by
    unfold DD.syncF DD.put
    rw [file_fs (setD_fs D (okF f)), setD_fs]
  unfold setD at e2 ⊢
  rw [e2]
theorem cutD_set (D : DD) (f n : Int) : cutD D f n = ((setD D (cutOk D f n)).1, if (setD D (cutOk D f n)).1 = 0 then (setD D (cutOk D f n)).2.cutF f n.toNat else (setD D (cutOk D f n)).2) := by
  have h := opD_fs D (badE (cutOk D f n)) (D.cutF f n.toNat).fs
  have e : ({ D with fs := (D.cutF f n.toNat).fs } : DD) = D.cutF f n.toNat := rfl
  rw [e] at h
  unfold cutD
  rw [h]
  have e2 : ({ (setD D (cutOk D f n)).2 with fs := (D.cutF f n.toNat).fs } : DD) = (setD D (cutOk D f n)).2.cutF f n.toNat := by
    unfold DD.cutF DD.put
    rw [file_fs (setD_fs D (cutOk D f n)), setD_fs]
  unfold setD at e2 ⊢
  rw [e2]
theorem overD_set (D : DD) (f a : Int) (b : List UInt8) : overD D f a b = ((setD D (overOk D f a b.length)).1, if (setD D (overOk D f a b.length)).1 = 0 then (setD D (overOk D f a b.length)).2.overF f a.toNat b else (setD D (overOk D f a b.length)).2) := by
  have h := opD_fs D (badE (overOk D f a b.length)) (D.overF f a.toNat b).fs
  have e : ({ D with fs := (D.overF f a.toNat b).fs } : DD) = D.overF f a.toNat b := rfl
  rw [e] at h
  unfold overD
  rw [h]
  have e2 : ({ (setD D (overOk D f a b.length)).2 with fs := (D.overF f a.toNat b).fs } : DD) = (setD D (overOk D f a b.length)).2.overF f a.toNat b := by
    unfold DD.overF DD.put
    rw [file_fs (setD_fs D (overOk D f a b.length)), setD_fs]
  unfold setD at e2 ⊢
  rw [e2]
set_option maxHeartbeats 1000000 in
theorem RSync_any {w : World} {g : Nat} {D : DD} {R : Nat → Prop} (h : Ref w g D R) (ok : DOK D) (hdn : D.done ≤ 1000000000) (f : Int) :
    Calls Try.prog 41 #[.pointer (some ⟨g, 0, none⟩), .int .i64 f] w fun e w' => e = .returned (.int .i64 (syncD D f).1) ∧ Rstep g R w w' (syncD D f).2 := by
  have H := Lib.hid h; have OK := Lib.hid ok; have HN := Lib.hid hdn
  rw [syncD_set]
  have OK1 := Lib.hid (setD_ok ok (okF f))
  have FS1 := Lib.hid (setD_fs D (okF f))
  have NO1 := Lib.hid (fun h => setD_no (D := D) (b := okF f) h)
  have SA := Lib.hid (fun r => settle_any h ok.lo ok.hi hdn r)
  clear h ok hdn
  obtain ⟨b, hb⟩ : ∃ b, okF f = b := ⟨_, rfl⟩
  rw [hb] at OK1 FS1 NO1 ⊢
  have HB := Lib.hid hb
  have hcase : (f < 0 ∧ b = false) ∨ (0 ≤ f ∧ 32 < f ∧ b = false) ∨ (0 ≤ f ∧ f ≤ 32 ∧ b = true) := by
    rw [← hb]
    by_cases h1 : 0 ≤ f
    · by_cases h2 : f ≤ 32
      · exact .inr (.inr ⟨h1, h2, by rw [okF_iff]; omega⟩)
      · refine .inr (.inl ⟨h1, by omega, ?_⟩)
        unfold okF; exact decide_eq_false (by omega)
    · refine .inl ⟨by omega, ?_⟩
      unfold okF; exact decide_eq_false (by omega)
  have SB := Lib.hid (SA.out b)
  obtain ⟨s, hs⟩ : ∃ s, s = setD D b := ⟨_, rfl⟩
  rw [← hs] at OK1 FS1 NO1 SB ⊢
  obtain ⟨s1, s2⟩ := s
  have HSD := Lib.hid hs
  clear hs hb SA
  have SB' : Hid (Calls Try.prog 58 #[.pointer (some ⟨g, 0, none⟩), .bool b] w fun e w' => e = .returned (.int .i64 s1) ∧ Rstep g R w w' s2) := SB
  have rest : Hid (∀ W : World, Rstep g R w W s2 → s1 = 0 → ∃ m : Nat, f = m ∧ m < 33) := Lib.hid (fun W _ h0 => by
    have hb := NO1.out h0
    have := HB.out
    rw [hb] at this
    have := okF_iff.1 this
    exact ⟨f.toNat, by omega, by omega⟩)
  clear SB
  rcases hcase with ⟨h1, rfl⟩ | ⟨h1, h2, rfl⟩ | ⟨h1, h2, rfl⟩
  · have h0 : s1 ≠ 0 := fun e => absurd (NO1.out e) (by decide)
    have h0' : (s1 == 0) = false := by simpa using h0
    rw [if_neg h0]
    go_enter Try.func41, Try.ntmps41
    go_wp2_with fail
    refine SB'.out.mono ?_
    rintro e w1 ⟨rfl, hst⟩
    have HST := Lib.hid hst
    clear hst
    go_wp2_with fail
    go_ret
    exact ⟨rfl, HST.out⟩
  · have h0 : s1 ≠ 0 := fun e => absurd (NO1.out e) (by decide)
    have hd : decide (f ≤ 32) = false := decide_eq_false (by omega)
    have h0' : (s1 == 0) = false := by simpa using h0
    rw [if_neg h0]
    go_enter Try.func41, Try.ntmps41
    go_wp2_with fail
    refine SB'.out.mono ?_
    rintro e w1 ⟨rfl, hst⟩
    have HST := Lib.hid hst
    clear hst
    go_wp2_with fail
    go_ret
    exact ⟨rfl, HST.out⟩
  · by_cases h0 : s1 = 0
    · rw [if_pos h0]
      subst h0
      obtain ⟨m, rfl, hm⟩ : ∃ m : Nat, f = m ∧ m < 33 := ⟨f.toNat, by omega, by omega⟩
      have Hm := Lib.hid hm
      have hm33 : (m : Int) < 33 := by omega
      have hd : decide ((m : Int) ≤ 32) = true := decide_eq_true h2
      go_enter Try.func41, Try.ntmps41
      go_wp2_with fail
      refine SB'.out.mono ?_
      rintro e w1 ⟨rfl, R1, hr1, hf1, hi1, ho1⟩
      have H1 := Lib.hid hr1; have F1 := Lib.hid hf1; have I1 := Lib.hid hi1; have O1 := Lib.hid ho1
      clear hr1 hf1 hi1 ho1 SB'
      go_wp2_with fail
      refine wp_calm ?_
      refine wp_region_os (fun _ w' => Below (w1).drew.heap.size (w1).drew w') [] (.move 0 (.move 1 (.move 2 (.move 3 (.move 6 (.move 7 (.run 4 [] (.move 5 (.move 8 (.run 9 [] .done)))))))))) (by kernel_rfl) (by kernel_rfl) (fun _ _ _ _ _ h => nomatch h.1) ?_
      have hS0 : Below (w1).drew.heap.size (w1).drew (w1).drew := Below.refl _ _
      refine os_move rfl rfl rfl (Nat.le_of_ble_eq_true rfl) ?_
      apply Exists.intro
      refine ⟨fun w' K hK => ?_, ?_⟩
      (focus
        go_simp
        exact hK)
      refine os_move rfl rfl rfl (Nat.le_of_ble_eq_true rfl) ?_
      apply Exists.intro
      refine ⟨fun w' K hK => ?_, ?_⟩
      (focus
        go_simp
        exact hK)
      refine os_move rfl rfl rfl (Nat.le_of_ble_eq_true rfl) ?_
      apply Exists.intro
      refine ⟨fun w' K hK => ?_, ?_⟩
      (focus
        go_simp
        exact hK)
      refine os_move rfl rfl rfl (Nat.le_of_ble_eq_true rfl) ?_
      apply Exists.intro
      refine ⟨fun w' K hK => ?_, ?_⟩
      (focus
        go_simp
        exact hK)
      refine os_move rfl rfl rfl (Nat.le_of_ble_eq_true rfl) ?_
      apply Exists.intro
      refine ⟨fun w' K hK => ?_, ?_⟩
      (focus
        go_simp
        exact hK)
      refine os_move rfl rfl rfl (Nat.le_of_ble_eq_true rfl) ?_
      apply Exists.intro
      refine ⟨fun w' K hK => ?_, ?_⟩
      (focus
        go_simp
        exact hK)
      refine os_run rfl rfl (fun K hK => ?_)
      go_wp2_with fail
      refine (RRead_any (H1.out.bel (Below.dr1 w1)) OK1.out m).mono ?_
      rintro e w2 ⟨A, n, c, rfl, ho, hb⟩
      have OW := Lib.hid ho
      have B2 : Hid (Below w1.heap.size w1 w2) := Below.undr hb
      have hn : Hid (n = (s2.file m).d.length) := by
        have h := ho.1
        have e : readD s2 m = (s2.file m).d := by unfold readD; rw [if_pos (by rw [okF_iff]; have := Hm.out; omega), Int.toNat_natCast]
        rw [bs_length, e] at h; show _ = _; omega
      have TH : Hid (w2.there g (1 + m * 2) 2) := by
        obtain ⟨L, vs, h⟩ := H1.out
        exact (h.bel B2.out).there Hm.out
      clear ho
      go_wp2_with fail
      refine ⟨fun _ hk => absurd hk List.not_mem_nil, ?_⟩
      replace hS0 := Below.tr hS0 (hb)
      refine os_move rfl rfl rfl (Nat.le_of_ble_eq_true rfl) ?_
      apply Exists.intro
      refine ⟨fun w' K hK => ?_, ?_⟩
      (focus
        go_simp
        exact hK)
      refine os_move rfl rfl rfl (Nat.le_of_ble_eq_true rfl) ?_
      apply Exists.intro
      refine ⟨fun w' K hK => ?_, ?_⟩
      (focus
        go_simp
        exact hK)
      refine os_run rfl rfl (fun K hK => ?_)
      refine wp_store_mid 71 (.tmp 24) (.tmp 21) rfl g (1 + m * 2) #[.slice A n c, .slice none 0 0] rfl rfl TH.out (by kernel_rfl) (by kernel_rfl) ?_
      refine hK _ _ ⟨fun _ hk => absurd hk List.not_mem_nil, ?_⟩
      clear hK
      refine os_done ⟨rfl, ?_⟩
      have fin : Hid (Rstep g R w (w2.setCells g (1 + m * 2) [.slice A n c, .slice none 0 0]) (s2.syncF m)) := by
        obtain ⟨L, vs, h⟩ := H1.out
        have h2 := h.bel B2.out
        have e : readD s2 m = (s2.file m).d := by unfold readD; rw [if_pos (by rw [okF_iff]; have := Hm.out; omega), Int.toNat_natCast]
        have hw := OW.out
        rw [e] at hw
        have hgl := h.gt
        have hst := h2.store2 (R' := fun k => R1 k ∨ (w1.heap.size ≤ k ∧ k < w2.heap.size)) Hm.out ⟨(s2.file m).d, (s2.file m).d.length⟩ (A1 := A) (A2 := none) (n1 := n) (n2 := 0) (c1 := c) (c2 := 0) hn.out (by simp)
          (by rw [List.take_length]; exact (Sl.of_own hw).mono (fun k hk => .inr ⟨hk.1, hk.2.1⟩)) (by rw [List.drop_length]; exact Sl.nil_ _ _) (fun k hk => .inl hk) (fun k hk => by
            rcases hk with hk | hk
            · exact ⟨Nat.lt_of_lt_of_le (h.rlt k hk).1 B2.out.size, (h.rlt k hk).2⟩
            · exact ⟨hk.2, by omega⟩)
        refine ⟨_, ⟨_, _, hst.1⟩, (F1.out.trans (Fr.of_below (M := fun k => k = g) B2.out) (fun _ _ e => e)).trans hst.2 (fun _ _ e => e), fun k hk => .inl (I1.out k hk), fun k hk => ?_⟩
        rcases hk with hk | hk
        · exact O1.out k hk
        · exact .inr (Nat.le_trans F1.out.size hk.1)
      generalize w2.setCells g (1 + m * 2) [.slice A n c, .slice none 0 0] = w3 at fin ⊢
      clear TH OW hS0
      go_wp2_with fail
      go_ret
      exact ⟨rfl, fin.out⟩
    · rw [if_neg h0]
      have h0' : (s1 == 0) = false := by simpa using h0
      have hd : decide (f ≤ 32) = true := decide_eq_true h2
      clear h0
      go_enter Try.func41, Try.ntmps41
      go_wp2_with fail
      refine SB'.out.mono ?_
      rintro e w1 ⟨rfl, hst⟩
      have HST := Lib.hid hst
      clear hst
      go_wp2_with fail
      go_ret
      exact ⟨rfl, HST.out⟩
end Go.Proofs.Ytjfnpndpigpaiaa
