/- The reference's disk: its small functions. -/
import Derived.Test.YtjfnpndpigpaiaaDr1
namespace Go.Proofs.Ytjfnpndpigpaiaa
open Go.RowKit
attribute [local go_sem] yld yldUpon_value

/-- kept within bounds -/
def cutI (v a b : Int) : Int := max a (min v b)
theorem KCut_any (w : World) (v a b : Int) : Calls Try.prog 37 #[.int .i64 v, .int .i64 a, .int .i64 b] w fun e w' => e = .returned (.int .i64 (cutI v a b)) ∧ w = w' := by
  have h : (v < b ∧ a < v ∧ cutI v a b = v) ∨ (v < b ∧ v ≤ a ∧ cutI v a b = a) ∨ (b ≤ v ∧ a < b ∧ cutI v a b = b) ∨ (b ≤ v ∧ b ≤ a ∧ cutI v a b = a) := by unfold cutI; omega
  rcases h with ⟨h1, h2, h3⟩ | ⟨h1, h2, h3⟩ | ⟨h1, h2, h3⟩ | ⟨h1, h2, h3⟩
  all_goals
    rw [h3]
    clear h3
    go_enter Try.func37, Try.ntmps37
    go_wp2_with fail
    all_goals go_ret
    all_goals exact ⟨ret_int (by first | rfl | omega), rfl⟩
section
variable {w : World} {g : Nat} {D : DD} {R : Nat → Prop}
theorem RRoom_any (h : Ref w g D R) : Calls Try.prog 51 #[.pointer (some ⟨g, 0, none⟩)] w fun e w' => e = .returned (.int .i64 (D.room : Nat)) ∧ w = w' := by
  obtain ⟨L, vs, h⟩ := h
  have hc := h.cRoom
  clear h
  go_enter Try.func51, Try.ntmps51
  go_wp2_with fail
  go_ret
  exact ⟨rfl, rfl⟩
theorem RCount_any (h : Ref w g D R) : Calls Try.prog 52 #[.pointer (some ⟨g, 0, none⟩)] w fun e w' => e = .returned (.int .i64 (D.done : Nat)) ∧ w = w' := by
  obtain ⟨L, vs, h⟩ := h
  have hc := h.cDone
  clear h
  go_enter Try.func52, Try.ntmps52
  go_wp2_with fail
  go_ret
  exact ⟨rfl, rfl⟩
theorem RDown_any (h : Ref w g D R) : Calls Try.prog 53 #[.pointer (some ⟨g, 0, none⟩)] w fun e w' => e = .returned (.bool D.off) ∧ w = w' := by
  obtain ⟨L, vs, h⟩ := h
  have hc := h.cOff
  clear h
  go_enter Try.func53, Try.ntmps53
  go_wp2_with fail
  go_ret
  exact ⟨rfl, rfl⟩
theorem RArm_any (h : Ref w g D R) (n : Int) : Calls Try.prog 44 #[.pointer (some ⟨g, 0, none⟩), .int .i64 n] w fun e w' => e = .returned (.tuple #[]) ∧ Rstep g R w w' (armD D n) := by
  obtain ⟨L, vs, h⟩ := h
  have hc := h.cArmed
  have hz := h.frozen 68
  have hc2 := h.cLeft
  have hz2 := h.frozen 69
  have H := Lib.hid h
  clear h
  obtain ⟨b, hb⟩ : ∃ b, decide (0 ≤ n) = b := ⟨_, rfl⟩
  go_enter Try.func44, Try.ntmps44
  go_wp2_with fail
  go_end0
  have ha := H.out.arm n
  rw [hb] at ha
  exact ⟨rfl, R, ⟨n, vs, ha⟩, (Fr.of_set (M := fun k => k = g) w g 68 _ rfl).setCell (p := ⟨g, 69, none⟩) (.inl rfl) _, fun _ hk => hk, fun _ hk => .inl hk⟩
/-- what a strike leaves -/
def strikeD (D : DD) : DD := if D.left = 0 then { D with left := -1, off := true } else { D with left := max (-1) (D.left - 1) }
theorem strikes_any (h : Ref w g D R) (hl : -1 ≤ D.left) (hh : D.left ≤ 9223372036854775807) : Calls Try.prog 57 #[.pointer (some ⟨g, 0, none⟩)] w fun e w' => e = .returned (.bool (decide (D.left = 0))) ∧ Rstep g R w w' (strikeD D) := by
  obtain ⟨L, vs, h⟩ := h
  have hc := h.cArmed
  have hz := h.frozen 68
  have hc3 := h.cOff
  have hz3 := h.frozen 67
  have hc2 := h.cLeft
  have hz2 := h.frozen 69
  have H := Lib.hid h
  have HL := Lib.hid h.left
  clear h
  obtain ⟨l, hle⟩ : ∃ l, l = D.left := ⟨_, rfl⟩
  have HE := Lib.hid hle
  rw [← hle] at hc hl hh ⊢
  clear hle
  by_cases h0 : l = 0
  · subst h0
    have e1 : L = 0 := by have := HL.out (by rw [← HE.out]; exact Int.le_refl 0); rw [this, ← HE.out]
    subst e1
    have e2 : strikeD D = { D with left := -1, off := true } := by unfold strikeD; rw [if_pos HE.out.symm]
    rw [e2]
    clear e2 hl hh
    go_enter Try.func57, Try.ntmps57
    go_wp2_with fail
    go_ret
    refine ⟨rfl, R, ⟨0, vs, ?_⟩, (Fr.of_set (M := fun k => k = g) w g 68 _ rfl).setCell (p := ⟨g, 67, none⟩) (.inl rfl) _, fun _ hk => hk, fun _ hk => .inl hk⟩
    exact (H.out.disarm).setOff true
  · have hd : decide (l = 0) = false := decide_eq_false h0
    rw [hd]
    have e2 : strikeD D = { D with left := max (-1) (l - 1) } := by unfold strikeD; rw [← HE.out, if_neg h0]
    rw [e2]
    clear e2 hd
    by_cases h1 : 0 < l
    · have e1 : L = l := by rw [HE.out]; exact HL.out (by rw [← HE.out]; omega)
      subst e1
      have h2 : (0 : Int) ≤ L := by omega
      have hb : decide ((0 : Int) ≤ L) = true := decide_eq_true h2
      have h3 : -9223372036854775808 ≤ L - 1 := by omega
      have e3 : max (-1) (L - 1) = L - 1 := by omega
      rw [e3]
      clear e3 h0 hl
      go_enter Try.func57, Try.ntmps57
      go_wp2_with fail
      go_ret
      refine ⟨rfl, R, ⟨L - 1, vs, ?_⟩, Fr.of_set w g 69 _ rfl, fun _ hk => hk, fun _ hk => .inl hk⟩
      exact H.out.setLeft (L - 1) (by rw [← HE.out]; exact h2) (by omega)
    · have e1 : l = -1 := by omega
      have e3 : ({ D with left := max (-1) (l - 1) } : DD) = D := by
        have : max (-1) (l - 1) = D.left := by rw [← HE.out]; omega
        rw [this]
      rw [e3]
      have hb : decide ((0 : Int) ≤ l) = false := decide_eq_false (by omega)
      rw [hb] at hc
      clear e3 h0 h1 e1 hl hh hb
      go_enter Try.func57, Try.ntmps57
      go_wp2_with fail
      go_ret
      exact ⟨rfl, Rstep.refl ⟨L, vs, H.out⟩⟩
/-- what settle does -/
def setD (D : DD) (right : Bool) : Int × DD := opD D (badE right) false D
theorem settle_any (h : Ref w g D R) (hl : -1 ≤ D.left) (hh : D.left ≤ 9223372036854775807) (hdn : D.done ≤ 1000000000) (right : Bool) : Calls Try.prog 58 #[.pointer (some ⟨g, 0, none⟩), .bool right] w fun e w' => e = .returned (.int .i64 (setD D right).1) ∧ Rstep g R w w' (setD D right).2 := by
  have H0 := Lib.hid h
  obtain ⟨L, vs, h⟩ := h
  have hc := h.cOff
  clear h
  have HL := Lib.hid hl; have HH := Lib.hid hh; have HD := Lib.hid hdn
  clear hl hh hdn
  cases ho : D.off with
  | true =>
    have e : setD D right = (9, D) := by unfold setD opD; rw [if_pos ho]
    rw [e]
    rw [ho] at hc
    clear e ho
    go_enter Try.func58, Try.ntmps58
    go_wp2_with fail
    go_ret
    exact ⟨rfl, Rstep.refl H0.out⟩
  | false =>
    rw [ho] at hc
    cases right with
    | false =>
      have e : setD D false = (1, D) := by unfold setD opD; rw [if_neg (by rw [ho]; decide), if_pos (by decide)]; rfl
      rw [e]
      clear e ho
      go_enter Try.func58, Try.ntmps58
      go_wp2_with fail
      go_ret
      exact ⟨rfl, Rstep.refl H0.out⟩
    | true =>
      have e : setD D true = if D.left = 0 then (9, { D with left := -1, off := true }) else (0, { D with left := max (-1) (D.left - 1), done := D.done + 1 }) := by
        unfold setD opD; rw [if_neg (by rw [ho]; decide), if_neg (by decide)]; rfl
      rw [e]
      clear e ho
      by_cases h0 : D.left = 0
      · rw [if_pos h0]
        have H00 := Lib.hid h0
        clear h0
        go_enter Try.func58, Try.ntmps58
        go_wp2_with fail
        refine (strikes_any H0.out HL.out HH.out).mono ?_
        rintro e w1 ⟨rfl, hst⟩
        rw [decide_eq_true H00.out]
        have e2 : strikeD D = { D with left := -1, off := true } := by unfold strikeD; rw [if_pos H00.out]
        rw [e2] at hst
        have H1 := Lib.hid hst
        clear hst e2 hc
        go_wp2_with fail
        go_ret
        exact ⟨rfl, H1.out⟩
      · rw [if_neg h0]
        have H00 := Lib.hid h0
        clear h0
        have hdb := HD.out
        obtain ⟨dn, hdn⟩ : ∃ dn, dn = D.done := ⟨_, rfl⟩
        rw [← hdn] at hdb ⊢
        have HDN := Lib.hid hdn
        clear hdn
        go_enter Try.func58, Try.ntmps58
        go_wp2_with fail
        refine (strikes_any H0.out HL.out HH.out).mono ?_
        rintro e w1 ⟨rfl, R1, ⟨L1, vs1, h1⟩, hf1, hr1, hr2⟩
        rw [decide_eq_false H00.out]
        have e2 : strikeD D = { D with left := max (-1) (D.left - 1) } := by unfold strikeD; rw [if_neg H00.out]
        rw [e2] at h1
        have hc5 : w1.cell? ⟨g, 70, none⟩ = some (.int .i64 (dn : Nat)) := by rw [HDN.out]; exact h1.cDone
        have hz5 := h1.frozen 70
        have H1 := Lib.hid h1
        have HF := Lib.hid hf1; have HR1 := Lib.hid hr1; have HR2 := Lib.hid hr2
        clear h1 hf1 hr1 hr2 e2 hc
        go_wp2_with fail
        go_ret
        refine ⟨rfl, R1, ⟨L1, vs1, ?_⟩, HF.out.trans (Fr.of_set (M := fun k => k = g) w1 g 70 _ rfl) (fun _ _ e => e), HR1.out, HR2.out⟩
        have h := H1.out.setDone (dn + 1)
        exact h
def rs0 : Vs := List.replicate 66 (none, 0)
theorem build_rdisk (w : World) (n : Nat) : (Instr.build 74 #[(0, .int .i64 (n : Nat))]).run Try.prog w = .ok (.agg (rcells ⟨n, List.replicate 33 FF0, false, -1, 0⟩ 0 rs0).toArray) w := by kernel_rfl
theorem RefAt.new {n : Nat} (h : w.heap[g]? = some (.cells (rcells ⟨n, List.replicate 33 FF0, false, -1, 0⟩ 0 rs0).toArray 74 (0, 0))) : RefAt w g ⟨n, List.replicate 33 FF0, false, -1, 0⟩ 0 rs0 NoB := by
  have hA : ∀ f, vA rs0 f = none ∧ vC rs0 f = 0 := fun f => by
    unfold vA vC rs0
    rw [List.getD_eq_getElem?_getD, List.getElem?_replicate]
    split <;> exact ⟨rfl, rfl⟩
  have hF : ∀ f, (DD.file ⟨n, List.replicate 33 FF0, false, -1, 0⟩ f) = FF0 := fun f => by
    unfold DD.file
    rw [List.getD_eq_getElem?_getD, List.getElem?_replicate]
    split <;> rfl
  refine ⟨h, rfl, rfl, fun j _ => ?_, fun k e => e.elim, fun e => absurd (show (0 : Int) ≤ -1 from e) (by decide)⟩
  rw [(hA j).1, (hA j).2]
  unfold rlen rbytes
  rw [hF]
  have e1 : (if j % 2 = 0 then FF0.k else FF0.d.length - FF0.k) = 0 := by split <;> rfl
  have e2 : (if j % 2 = 0 then FF0.d.take FF0.k else FF0.d.drop FF0.k) = [] := by split <;> rfl
  rw [e1, e2]
  exact Sl.nil_ w _
set_option maxRecDepth 100000 in
theorem RNew_any (w : World) (r : Int) :
    Calls Try.prog 25 #[.int .i64 r] w fun e w' => ∃ g, e = .returned (.pointer (some ⟨g, 0, none⟩)) ∧ Ref w' g (newD r) NoB ∧ Below w.heap.size w w' ∧ w.heap.size ≤ g := by
  go_enter Try.func25, Try.ntmps25
  go_wp2_with fail
  refine (KCut_any w r 0 262144).mono ?_
  rintro e w' ⟨rfl, rfl⟩
  obtain ⟨n, hn⟩ : ∃ n : Nat, cutI r 0 262144 = (n : Int) := ⟨(cutI r 0 262144).toNat, by unfold cutI; omega⟩
  rw [hn]
  have Hn := Lib.hid hn
  clear hn
  go_wp2_with (
    (refine lst_build 74 _ #[(0, .int .i64 ((n : Nat) : Int))] _ rfl (build_rdisk _ n) ?_ ?_ ?_)
    (focus (simp only [List.map_toArray, List.map_cons, List.map_nil]; rfl))
    (focus rfl))
  go_ret
  have e : newD r = ⟨n, List.replicate 33 FF0, false, -1, 0⟩ := by
    unfold newD
    have := Hn.out
    unfold cutI at this
    rw [show max 0 (min r 262144) = (n : Int) from this]; rfl
  refine ⟨w.heap.size, rfl, ⟨0, rs0, ?_⟩, Below.al _ _, Nat.le_refl _⟩
  rw [e]
  exact RefAt.new (heap_alloc_new w _)
end
end Go.Proofs.Ytjfnpndpigpaiaa
