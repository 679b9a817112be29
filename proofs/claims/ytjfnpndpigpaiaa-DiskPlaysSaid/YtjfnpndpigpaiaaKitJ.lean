/- Lists of whole numbers copied, lent, kept. -/
import Derived.Test.YtjfnpndpigpaiaaKitI
namespace Go.Proofs.Ytjfnpndpigpaiaa
open Go.RowKit

theorem Try.infoI : (Try.prog.info? 3).map (fun i => (i.zero, i.size, i.bytes)) = some (some (.int .i64 0), 1, 8) := by kernel_rfl
/-- whole numbers as cells -/
abbrev zs (l : List Int) : List Value := l.map (Value.int .i64)
theorem zs_take_succ {l : List Int} {k : Nat} (h : k < l.length) : zs (l.take (k + 1)) = zs (l.take k) ++ [.int .i64 l[k]] := by
  unfold zs; rw [List.take_succ_eq_append_getElem h, List.map_append]; rfl
theorem zs_length (l : List Int) : (zs l).length = l.length := by simp [zs]
def marksI : List Int := [7001, 7014, 7027, 7040, 7053]
theorem marksI_wf : ∀ x ∈ marksI, (Lit.int .i64 x).wf = true := by decide
theorem zs_take_marks {l : List Int} {k : Nat} (h : k < 5) : zs (l ++ marksI.take (k+1)) = zs (l ++ marksI.take k) ++ [.int .i64 (7001 + 13 * (k : Int))] := by
  match k, h with
  | 0, _ => simp [zs, marksI]
  | 1, _ => simp [zs, marksI]
  | 2, _ => simp [zs, marksI]
  | 3, _ => simp [zs, marksI]
  | 4, _ => simp [zs, marksI]
set_option maxHeartbeats 400000 in
theorem CopyInts_any {F : Nat → Prop} {A : Option Addr} {n c : Nat} {l : List Int} {w : World} (h : IntSl w F A n c l) (hF : ∀ k, F k → k < w.heap.size) (hl : n ≤ 10000000000000) :
    Calls Try.prog 55 #[.slice A n c] w fun e w' => ∃ A' c', e = .returned (.slice A' n c') ∧ w'.ownsRow w.heap.size 3 1 (.slice A' n c') n (zs l) ∧ Below w.heap.size w w' := by
  obtain rfl := h.len
  have H := Lib.hid h; have HF := Lib.hid hF; clear h hF
  obtain ⟨i0, hi, hz0, hz1, hz2⟩ := info_parts Try.infoI
  go_enter Try.func55, Try.ntmps55
  go_wp2
  go_loopw [3, 4] (fun v i wr => ∃ k A' c', k ≤ l.length ∧ v = .slice A' k c' ∧ i = .int .i64 (k : Nat) ∧ wr.ownsRow w.heap.size 3 1 (.slice A' k c') k (zs (l.take k)) ∧ Below w.heap.size w wr) (fun _ i _ => l.length - (intOf i).toNat)
  case atStart => exact ⟨0, none, 0, Nat.zero_le _, rfl, rfl, World.ownsRow_nil _ _ _ _, Below.refl _ _⟩
  case round =>
    obtain ⟨k, A', c', hk, rfl, rfl, hown, hbw⟩ := hrel
    by_cases hlt : k < l.length
    · obtain ⟨ad, rfl, _, hc⟩ := (H.out.belF hbw HF.out).at_ k hlt
      have hlI : (k : Int) < l.length := by omega
      have hkI : (0 : Int) ≤ (k : Int) := by omega
      have hs := hbw.size
      have hts := Lib.hid (zs_take_succ hlt)
      go_wp2_with (at_builtin; refine wpList_append_own _ rfl _ _ 23 rfl w.heap.size 3 i0 (.int .i64 0) 1 8 Try.underlying23 hi hz0 hz1 hz2 rfl (by decide) _ _ _ rfl (hown.alloc _) ⟨wr.heap.size, 0, none⟩ 1 1 [.int .i64 l[k]] rfl rfl (new_one _ _ _) (one_oneCell _ _) (by simp only [maxLen]; omega) (by omega) (by simp; omega) ?_; intro v' w1 hown1 hgrow _; obtain ⟨A1, c1, rfl⟩ := own_slice hown1)
      go_roundw
      case rel => exact ⟨k + 1, A1, c1, by omega, rfl, by go_num, by rw [hts.out]; exact hown1, (hbw.alloc hs _).grown hgrow (by simp; omega) (fun g hg => (hown.lt g hg).1)⟩
      case measure => simp [intOf]; omega
    · have hkl : k = l.length := by omega
      subst hkl
      go_wp2
      go_ret
      exact ⟨A', c', rfl, by simpa using hown, hbw⟩
set_option maxHeartbeats 400000 in
theorem LentInts_any {F : Nat → Prop} {A : Option Addr} {n c : Nat} {l : List Int} {w : World} (h : IntSl w F A n c l) (hF : ∀ k, F k → k < w.heap.size) (hl : n ≤ 1000000000000) :
    Calls Try.prog 39 #[.slice A n c] w fun e w' => ∃ g c', e = .returned (.slice (some ⟨g, 0, none⟩) (n + 5) c') ∧ w'.ownsRow w.heap.size 3 1 (.slice (some ⟨g, 0, none⟩) (n + 5) c') (n + 5) (zs (l ++ marksI)) ∧ Below w.heap.size w w' := by
  obtain rfl := h.len
  have H := Lib.hid h; have HF := Lib.hid hF; clear h hF
  obtain ⟨i0, hi, hz0, hz1, hz2⟩ := info_parts Try.infoI
  go_enter Try.func39, Try.ntmps39
  go_wp2_with fail
  refine (CopyInts_any H.out HF.out (by omega)).mono ?_
  rintro e w1 ⟨A1, c1, rfl, hown1, hb1⟩
  go_wp2_with fail
  go_loopw [3, 4] (fun v i wr => ∃ k A' c', k ≤ 5 ∧ v = .slice A' (l.length + k) c' ∧ i = .int .i64 (k : Nat) ∧ wr.ownsRow w.heap.size 3 1 (.slice A' (l.length + k) c') (l.length + k) (zs (l ++ marksI.take k)) ∧ Below w.heap.size w wr) (fun _ i _ => 5 - (intOf i).toNat)
  case atStart => exact ⟨0, A1, c1, by omega, rfl, rfl, by simpa using hown1, hb1⟩
  case round =>
    obtain ⟨k, A', c', hk, rfl, rfl, hown, hbw⟩ := hrel
    have hs := hbw.size
    by_cases hlt : k < 5
    · have hts := Lib.hid (zs_take_marks (l := l) hlt)
      go_wp2_with (first
        | (go_at_call 56; refine (markI_any _ _ (by omega) (by omega)).mono ?_; rintro e w' ⟨rfl, rfl⟩)
        | (at_builtin; refine wpList_append_own _ rfl _ _ 23 rfl w.heap.size 3 i0 (.int .i64 0) 1 8 Try.underlying23 hi hz0 hz1 hz2 rfl (by decide) _ _ _ rfl (hown.alloc _) ⟨wr.heap.size, 0, none⟩ 1 1 [.int .i64 (7001 + 13 * (k : Int))] rfl rfl (new_one _ _ _) (one_oneCell _ _) (by simp only [maxLen]; omega) (by omega) (by simp; omega) ?_; intro v' w1 hown1 hgrow _; obtain ⟨A1, c1, rfl⟩ := own_slice hown1))
      go_roundw
      case rel => exact ⟨k + 1, A1, c1, by omega, by rw [Nat.add_assoc], by go_num, by rw [hts.out]; exact hown1, (hbw.alloc hs _).grown hgrow (by simp; omega) (fun g hg => (hown.lt g hg).1)⟩
      case measure => simp [intOf]; omega
    · have hkl : k = 5 := by omega
      subst hkl
      obtain ⟨g, cap, hv, _, _⟩ := hown.form (by omega)
      injection hv with hA1 _ hc1
      subst hA1 hc1
      go_wp2
      go_ret
      have e5 : marksI.take 5 = marksI := rfl
      rw [e5] at hown
      have Hown := Lib.hid hown
      clear e5
      exact ⟨g, c', rfl, by first | exact hown | simpa using hown, hbw⟩
theorem IntSl.take_ {w : World} {F : Nat → Prop} {A : Option Addr} {n c m : Nat} {l l' : List Int} (h : IntSl w F A n c (l ++ l')) (hm : l.length = m) : IntSl w F A m c l := by
  have h1 := h.len; have h2 := h.cap
  rw [List.length_append] at h1
  refine ⟨hm, by omega, fun x hx => h.wf x (by simp [hx]), fun j hj => ?_⟩
  obtain ⟨ad, e, hF, hc⟩ := h.at_ j (by rw [List.length_append]; omega)
  exact ⟨ad, e, hF, by rw [hc, List.getElem_append_left hj]⟩
theorem IntSl.drop_ {w : World} {F : Nat → Prop} {g n c m d : Nat} {l l' : List Int} (h : IntSl w F (some ⟨g, 0, none⟩) n c (l ++ l')) (hm : l.length = m) (hd : l'.length = d) : IntSl w F (some ⟨g, m, none⟩) d (c - m) l' := by
  have h1 := h.len; have h2 := h.cap
  rw [List.length_append] at h1
  refine ⟨hd, by omega, fun x hx => h.wf x (by simp [hx]), fun j hj => ?_⟩
  obtain ⟨ad, e, hF, hc⟩ := h.at_ (m + j) (by rw [List.length_append]; omega)
  injection e with e; subst e
  refine ⟨_, rfl, hF, ?_⟩
  rw [addr0] at hc
  have e2 : (⟨g, m, none⟩ : Addr).add j = ⟨g, m + j, none⟩ := addr_add_zero g m j
  rw [e2, hc, List.getElem_append_right (by omega)]
  congr 3
  subst hm
  simp
theorem IntSl.mono {w : World} {F G : Nat → Prop} {A : Option Addr} {n c : Nat} {l : List Int} (h : IntSl w F A n c l) (hF : ∀ k, F k → G k) : IntSl w G A n c l :=
  ⟨h.len, h.cap, h.wf, fun j hj => by obtain ⟨ad, e, h1, hc⟩ := h.at_ j hj; exact ⟨ad, e, hF _ h1, hc⟩⟩
theorem IntSl.drN {w : World} {F : Nat → Prop} {A : Option Addr} {n c : Nat} {l : List Int} (h : IntSl w F A n c l) (k : Nat) : IntSl (w.drewN k) F A n c l := ⟨h.len, h.cap, h.wf, h.at_⟩
set_option maxHeartbeats 800000 in
theorem KeptInts_any {F G : Nat → Prop} {g n m cc : Nat} {A : Option Addr} {c : Nat} {l : List Int} {w : World} (ha : IntSl w G (some ⟨g, 0, none⟩) m cc (l ++ marksI)) (hG : ∀ k, G k → k < w.heap.size) (h : IntSl w F A n c l) (hF : ∀ k, F k → k < w.heap.size) (hl : n ≤ 1000000000000) :
    Calls Try.prog 47 #[.slice (some ⟨g, 0, none⟩) m cc, .slice A n c] w fun e w' => e = .returned (.bool true) ∧ Below w.heap.size w w' := by
  have hm5 : m = n + 5 := by have h1 := ha.len; have h2 := h.len; rw [List.length_append] at h1; simp [marksI] at h1; omega
  subst hm5
  obtain rfl := h.len
  have hcc := ha.cap
  have Ha := Lib.hid ha; have H := Lib.hid h; have HF := Lib.hid hF; have HG := Lib.hid hG; clear ha h hF hG
  obtain ⟨i0, hi, hz0, hz1, hz2⟩ := info_parts Try.infoI
  have hne : (((l.length : Int) + 5) != ((l.length : Int) + 5)) = false := by simp
  go_enter Try.func47, Try.ntmps47
  go_wp2_with fail
  refine (SameInts_at (Ha.out.take_ rfl) H.out (by omega) (by omega) true (by simp)).mono ?_
  rintro e w1 ⟨rfl, k1, rfl⟩
  go_wp2_with fail
  have hs0 : (w.drewN k1).heap.size = w.heap.size := rfl
  go_loopw [5, 6] (fun v i wr => ∃ k A' c', k ≤ 5 ∧ v = .slice A' k c' ∧ i = .int .i64 (k : Nat) ∧ wr.ownsRow w.heap.size 3 1 (.slice A' k c') k (zs (marksI.take k)) ∧ Below w.heap.size w wr) (fun _ i _ => 5 - (intOf i).toNat)
  case atStart => exact ⟨0, none, 0, by omega, rfl, rfl, World.ownsRow_nil _ _ _ _, below_drewN (Below.refl _ _) _⟩
  case round =>
    obtain ⟨k, A', c', hk, rfl, rfl, hown, hbw⟩ := hrel
    have hs := hbw.size
    by_cases hlt : k < 5
    · have hts := Lib.hid (zs_take_marks (l := []) hlt)
      go_wp2_with (first
        | (go_at_call 56; refine (markI_any _ _ (by omega) (by omega)).mono ?_; rintro e w' ⟨rfl, rfl⟩)
        | (at_builtin; refine wpList_append_own _ rfl _ _ 23 rfl w.heap.size 3 i0 (.int .i64 0) 1 8 Try.underlying23 hi hz0 hz1 hz2 rfl (by decide) _ _ _ rfl (hown.alloc _) ⟨wr.heap.size, 0, none⟩ 1 1 [.int .i64 (7001 + 13 * (k : Int))] rfl rfl (new_one _ _ _) (one_oneCell _ _) (by simp only [maxLen]; omega) (by omega) (by simp; omega) ?_; intro v' w1 hown1 hgrow _; obtain ⟨A1, c1, rfl⟩ := own_slice hown1))
      go_roundw
      case rel => exact ⟨k + 1, A1, c1, by omega, rfl, by go_num, by have := hts.out; simp only [List.nil_append] at this; rw [this]; exact hown1, (hbw.alloc hs _).grown hgrow (by simp; omega) (fun g hg => (hown.lt g hg).1)⟩
      case measure => simp [intOf]; omega
    · have hkl : k = 5 := by omega
      subst hkl
      have hd := Lib.hid ((Ha.out.drop_ rfl (d := 5) rfl).belF hbw HG.out)
      have e5 : marksI.take 5 = marksI := rfl
      rw [e5] at hown
      have ho := Lib.hid (IntSl.of_own hown marksI_wf)
      go_wp2_with fail
      refine (SameInts_at hd.out ho.out (by decide) (by decide) true (by simp)).mono ?_
      rintro e w2 ⟨rfl, k2, rfl⟩
      go_wp2
      go_ret
      exact ⟨rfl, below_drewN hbw _⟩
end Go.Proofs.Ytjfnpndpigpaiaa
