/- The disk: operate. -/
import Derived.Test.YtjfnpndpigpaiaaDk5
import Derived.Shelf.Abstract
namespace Go.Proofs.Ytjfnpndpigpaiaa
open Go.RowKit
attribute [local go_sem] yld yldUpon_value

/-- what one does does not hang on the counts -/
theorem Dstep.tr {g : Nat} {vs vs1 : Vs} {a b c : World} {D2 : DD} (hf : Fr (dfoot g vs) a b) (hk : ∀ k, dfoot g vs1 k → dfoot g vs k ∨ a.heap.size ≤ k) (h2 : Dstep g vs1 b c D2) : Dstep g vs a c D2 := by
  obtain ⟨vs2, d2, f2, k2⟩ := h2
  refine ⟨vs2, d2, hf.trans f2 (fun i hi h => (hk i h).resolve_right (by omega)), fun k h => ?_⟩
  rcases k2 k h with h | h
  · exact hk k h
  · exact .inr (Nat.le_trans hf.size h)
theorem operate_off {w : World} {g : Nat} {D : DD} {vs : Vs} (h : DiskAt w g D vs) (ho : D.off = true) (r : Int) (early : Bool) (clo : Value) :
    Calls Try.prog 30 #[.pointer (some ⟨g, 0, none⟩), .int .i64 r, .bool early, clo] w fun e w' => e = .returned (.int .i64 9) ∧ w = w' := by
  have hc := h.cOff
  rw [ho] at hc
  clear h ho
  go_enter Try.func30, Try.ntmps30
  go_wp2_with fail
  go_ret
  exact ⟨rfl, rfl⟩
theorem operate_refused {w : World} {g : Nat} {D : DD} {vs : Vs} (h : DiskAt w g D vs) (ho : D.off = false) (r : Int) (hr : r ≠ 0) (early : Bool) (clo : Value) :
    Calls Try.prog 30 #[.pointer (some ⟨g, 0, none⟩), .int .i64 r, .bool early, clo] w fun e w' => e = .returned (.int .i64 r) ∧ w = w' := by
  have hc := h.cOff
  rw [ho] at hc
  have hr1 : (r == 0) = false := by simpa using hr
  have hr2 : (r != 0) = true := by simpa using hr
  clear h ho hr
  go_enter Try.func30, Try.ntmps30
  go_wp2_with fail
  go_ret
  exact ⟨rfl, rfl⟩
set_option maxRecDepth 100000 in
theorem operate_struck {w : World} {g : Nat} {D : DD} {vs : Vs} (h : DiskAt w g D vs) (ho : D.off = false) (hl : D.left = 0) (clo : Value) :
    Calls Try.prog 30 #[.pointer (some ⟨g, 0, none⟩), .int .i64 0, .bool false, clo] w fun e w' => e = .returned (.int .i64 9) ∧ Dstep g vs w w' { D with left := -1, off := true } := by
  have H := Lib.hid h
  have hc := h.cOff
  rw [ho] at hc
  have hcl := h.cLeft
  rw [hl] at hcl
  have hz := h.frozen 68
  have D1 := Lib.hid (h.setLeft (-1))
  have hc2 := D1.out.cOff
  rw [show ({ D with left := -1 } : DD).off = false from ho] at hc2
  have hz2 := D1.out.frozen 67
  clear h ho hl
  go_enter Try.func30, Try.ntmps30
  go_wp2_with fail
  go_ret
  exact ⟨rfl, vs, D1.out.setOff true, (Fr.of_set w g _ _ (.inl rfl)).tr (Fr.of_set _ g _ _ (.inl rfl)), fun k hk => .inl hk⟩
/-- one that is done: the function value is called where the count has gone down -/
def DoOk (k : Nat) (caps : Array Value) (g : Nat) (vs : Vs) (w : World) (fs fs' : List FF) : Prop :=
  ∀ (w1 : World) (D1 : DD), D1.fs = fs → DiskAt w1 g D1 vs → Fr (fun j => j = g) w w1 → Calls Try.prog k caps w1 fun e w' => e = .returned (.tuple #[]) ∧ Dstep g vs w1 w' { D1 with fs := fs' }
set_option maxRecDepth 100000 in
set_option maxHeartbeats 1000000 in
theorem operate_last {w : World} {g : Nat} {D : DD} {vs : Vs} (h : DiskAt w g D vs) (ho : D.off = false) (hl : D.left = 0) (hdn : D.done ≤ 1000000000) (k : Nat) (caps : Array Value) (fs' : List FF)
    (eg : ∀ args w, (callFunc k args).run Try.prog w = .ok (.enter k args) w) (hdo : DoOk k caps g vs w D.fs fs') :
    Calls Try.prog 30 #[.pointer (some ⟨g, 0, none⟩), .int .i64 0, .bool true, .func (.func k) #[] caps] w fun e w' => e = .returned (.int .i64 9) ∧ Dstep g vs w w' { D with fs := fs', left := -1, off := true, done := D.done + 1 } := by
  have H := Lib.hid h
  have hc := h.cOff
  rw [ho] at hc
  have hcl := h.cLeft
  rw [hl] at hcl
  have hz := h.frozen 68
  have D1 := Lib.hid (h.setLeft (-1))
  have HDO := Lib.hid hdo
  have Hdn := Lib.hid hdn
  clear h ho hl hdo hdn
  go_enter Try.func30, Try.ntmps30
  go_wp2_with fail
  have F1 : Hid (Fr (fun j => j = g) w (w.setCell ⟨g, 68, none⟩ (.int .i64 (-1)))) := Fr.of_set w g _ _ rfl
  generalize w.setCell ⟨g, 68, none⟩ (.int .i64 (-1)) = w1 at D1 F1 ⊢
  refine (HDO.out w1 { D with left := -1 } rfl D1.out F1.out).mono ?_
  rintro e w2 ⟨rfl, hst⟩
  obtain ⟨vs2, d2, f2, k2⟩ := hst
  have D2 := Lib.hid d2
  have F2 : Hid (Fr (dfoot g vs) w w2) := ((F1.out).mono (fun k _ e => .inl e)).tr f2
  have K2 : Hid (∀ k, dfoot g vs2 k → dfoot g vs k ∨ w.heap.size ≤ k) := fun k hk => (k2 k hk).imp id (fun h => Nat.le_trans F1.out.size h)
  have hcd : w2.cell? ⟨g, 69, none⟩ = some (.int .i64 (D.done : Nat)) := d2.cDone
  have hzd := d2.frozen 69
  have D3 : Hid (DiskAt (w2.setCell ⟨g, 69, none⟩ (.int .i64 ((D.done + 1 : Nat) : Int))) g { D with fs := fs', left := -1, done := D.done + 1 } vs2) := Lib.hid (d2.setDone (D.done + 1))
  obtain ⟨n, hn⟩ : ∃ n, n = D.done := ⟨_, rfl⟩
  rw [← hn] at hcd D3 Hdn
  have HN := Lib.hid hn
  have D3' : Hid (DiskAt (w2.setCell ⟨g, 69, none⟩ (.int .i64 ((n : Int) + 1))) g { D with fs := fs', left := -1, done := n + 1 } vs2) := D3.out
  have hnb := Hdn.out
  have hco : (w2.setCell ⟨g, 69, none⟩ (.int .i64 ((n : Int) + 1))).cell? ⟨g, 67, none⟩ = some (.bool D.off) := D3'.out.cOff
  have hzo := D3'.out.frozen 67
  clear d2 f2 k2 F1 D1 HDO hn D3
  go_wp2_with fail
  go_ret
  refine ⟨rfl, vs2, ?_, F2.out.tr ((Fr.of_set w2 g _ _ (.inl rfl)).tr (Fr.of_set _ g _ _ (.inl rfl))), K2.out⟩
  have := D3'.out.setOff true
  rw [HN.out] at this
  rw [HN.out]
  exact this
set_option maxRecDepth 100000 in
set_option maxHeartbeats 1000000 in
theorem operate_done {w : World} {g : Nat} {D : DD} {vs : Vs} (h : DiskAt w g D vs) (ho : D.off = false) (hl : D.left ≠ 0) (hlo : -1 ≤ D.left) (hhi : D.left ≤ 9223372036854775807) (hdn : D.done ≤ 1000000000) (early : Bool) (k : Nat) (caps : Array Value) (fs' : List FF)
    (eg : ∀ args w, (callFunc k args).run Try.prog w = .ok (.enter k args) w) (hdo : DoOk k caps g vs w D.fs fs') :
    Calls Try.prog 30 #[.pointer (some ⟨g, 0, none⟩), .int .i64 0, .bool early, .func (.func k) #[] caps] w fun e w' => e = .returned (.int .i64 0) ∧ Dstep g vs w w' { D with fs := fs', left := max (-1) (D.left - 1), done := D.done + 1 } := by
  have H := Lib.hid h
  have hc := h.cOff
  rw [ho] at hc
  have hcl := h.cLeft
  have hz := h.frozen 68
  obtain ⟨L, hL⟩ : ∃ L, L = D.left := ⟨_, rfl⟩
  rw [← hL] at hcl hl hlo hhi ⊢
  obtain ⟨L1, hL1⟩ : ∃ L1, L1 = max (-1) (L - 1) := ⟨_, rfl⟩
  rw [← hL1]
  have D1 := Lib.hid (h.setLeft L1)
  have HDO := Lib.hid hdo
  have Hdn := Lib.hid hdn
  have hl0 : (L == 0) = false := by simpa using hl
  have hcase : (L = -1 ∧ L1 = -1) ∨ (0 < L ∧ L1 = L - 1) := by omega
  clear h ho hl hdo hdn hL hL1
  rcases hcase with ⟨rfl, rfl⟩ | ⟨hp, rfl⟩
  case' inr => have hp1 : -1 < L - 1 := by omega
  all_goals
    go_enter Try.func30, Try.ntmps30
    go_wp2_with fail
    (first | refine (HDO.out _ { D with left := -1 } rfl D1.out (Fr.of_set w g _ _ rfl)).mono ?_ | refine (HDO.out _ { D with left := L - 1 } rfl D1.out (Fr.of_set w g _ _ rfl)).mono ?_)
    rintro e w2 ⟨rfl, hst⟩
    obtain ⟨vs2, d2, f2, k2⟩ := hst
    have F2 := Lib.hid ((Fr.of_set w g 68 _ (M := dfoot g vs) (.inl rfl)).tr f2)
    have K2 : Hid (∀ k, dfoot g vs2 k → dfoot g vs k ∨ w.heap.size ≤ k) := fun k hk => (k2 k hk).imp id (fun h => Nat.le_trans (Fr.of_set w g 68 _ (M := fun _ => True) trivial).size h)
    have hcd : w2.cell? ⟨g, 69, none⟩ = some (.int .i64 (D.done : Nat)) := d2.cDone
    have hzd := d2.frozen 69
    have D3 := Lib.hid (d2.setDone (D.done + 1))
    obtain ⟨n, hn⟩ : ∃ n, n = D.done := ⟨_, rfl⟩
    rw [← hn] at hcd Hdn
    have HN := Lib.hid hn
    have hnb := Hdn.out
    clear d2 f2 k2 D1 HDO hn
    go_wp2_with fail
    go_ret
    refine ⟨rfl, vs2, ?_, F2.out.tr (Fr.of_set w2 g _ _ (.inl rfl)), K2.out⟩
    rw [HN.out]
    exact D3.out
/-- operate, all its ways at once -/
theorem operate_any {w : World} {g : Nat} {D : DD} {vs : Vs} (h : DiskAt w g D vs) (ok : DOK D) (hdn : D.done ≤ 1000000000) (r : Int) (early : Bool) (k : Nat) (caps : Array Value) (fs' : List FF)
    (eg : ∀ args w, (callFunc k args).run Try.prog w = .ok (.enter k args) w) (hdo : r = 0 → DoOk k caps g vs w D.fs fs') :
    Calls Try.prog 30 #[.pointer (some ⟨g, 0, none⟩), .int .i64 r, .bool early, .func (.func k) #[] caps] w fun e w' => e = .returned (.int .i64 (opD D r early { D with fs := fs' }).1) ∧ Dstep g vs w w' (opD D r early { D with fs := fs' }).2 := by
  unfold opD
  by_cases h1 : D.off = true
  · rw [if_pos h1]
    exact (operate_off h h1 r early _).mono fun e w' ⟨a, b⟩ => by subst b; exact ⟨a, Dstep.refl h⟩
  · have h1' : D.off = false := by simpa using h1
    rw [if_neg h1]
    by_cases h2 : r = 0
    · subst h2
      rw [if_neg (by simp)]
      by_cases h3 : D.left = 0
      · rw [if_pos h3]
        cases early with
        | true => exact operate_last h h1' h3 hdn k caps fs' eg (hdo rfl)
        | false => exact operate_struck h h1' h3 _
      · rw [if_neg h3]
        exact operate_done h h1' h3 ok.lo ok.hi hdn early k caps fs' eg (hdo rfl)
    · rw [if_pos h2]
      exact (operate_refused h h1' r h2 early _).mono fun e w' ⟨a, b⟩ => by subst b; exact ⟨a, Dstep.refl h⟩
end Go.Proofs.Ytjfnpndpigpaiaa
