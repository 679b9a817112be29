/- The disk: its small functions. -/
import Derived.Test.YtjfnpndpigpaiaaDk3
namespace Go.Proofs.Ytjfnpndpigpaiaa
open Go.RowKit
attribute [local go_sem] yld yldUpon_value

theorem file_yes (w : World) (g f : Nat) (hf : f < 33) :
    Calls Try.prog 29 #[.pointer (some ⟨g, 0, none⟩), .int .i64 (f : Nat)] w fun e w' => e = .returned (.pointer (some ⟨g, 1 + f * 2, none⟩)) ∧ w = w' := by
  have hfI : (f : Int) < 33 := by omega
  have hf0 : (0 : Int) ≤ (f : Int) := by omega
  go_enter Try.func29, Try.ntmps29
  go_wp2_with fail
  go_ret
  exact ⟨rfl, rfl⟩
theorem file_no (w : World) (g : Nat) (f : Int) (hf : okF f = false) :
    Calls Try.prog 29 #[.pointer (some ⟨g, 0, none⟩), .int .i64 f] w fun e w' => e = .returned (.pointer none) ∧ w = w' := by
  have hf' : ¬ (0 ≤ f ∧ f < 33) := by simpa [okF] using hf
  clear hf
  by_cases h0 : f < 0
  · go_enter Try.func29, Try.ntmps29
    go_wp2_with fail
    go_ret
    exact ⟨rfl, rfl⟩
  · have h1 : 33 ≤ f := by omega
    have h2 : 0 ≤ f := by omega
    clear hf' h0
    go_enter Try.func29, Try.ntmps29
    go_wp2_with fail
    go_ret
    exact ⟨rfl, rfl⟩
theorem bad_any (w : World) (b : Bool) :
    Calls Try.prog 31 #[.bool b] w fun e w' => e = .returned (.int .i64 (badE b)) ∧ w = w' := by
  cases b
  all_goals
    go_enter Try.func31, Try.ntmps31
    go_wp2_with fail
    go_ret
    exact ⟨rfl, rfl⟩
theorem Room_any {w : World} {g : Nat} {D : DD} {vs : Vs} (h : DiskAt w g D vs) :
    Calls Try.prog 28 #[.pointer (some ⟨g, 0, none⟩)] w fun e w' => e = .returned (.int .i64 (D.room : Nat)) ∧ w = w' := by
  have hc := h.cRoom
  clear h
  go_enter Try.func28, Try.ntmps28
  go_wp2_with fail
  go_ret
  exact ⟨rfl, rfl⟩
theorem Count_any {w : World} {g : Nat} {D : DD} {vs : Vs} (h : DiskAt w g D vs) :
    Calls Try.prog 23 #[.pointer (some ⟨g, 0, none⟩)] w fun e w' => e = .returned (.int .i64 (D.done : Nat)) ∧ w = w' := by
  have hc := h.cDone
  clear h
  go_enter Try.func23, Try.ntmps23
  go_wp2_with fail
  go_ret
  exact ⟨rfl, rfl⟩
theorem Down_any {w : World} {g : Nat} {D : DD} {vs : Vs} (h : DiskAt w g D vs) :
    Calls Try.prog 17 #[.pointer (some ⟨g, 0, none⟩)] w fun e w' => e = .returned (.bool D.off) ∧ w = w' := by
  have hc := h.cOff
  clear h
  go_enter Try.func17, Try.ntmps17
  go_wp2_with fail
  go_ret
  exact ⟨rfl, rfl⟩
theorem Arm_any {w : World} {g : Nat} {D : DD} {vs : Vs} (h : DiskAt w g D vs) (n : Int) :
    Calls Try.prog 22 #[.pointer (some ⟨g, 0, none⟩), .int .i64 n] w fun e w' => e = .returned (.tuple #[]) ∧ Dstep g vs w w' (armD D n) := by
  have hc := h.cLeft
  have hz := h.frozen 68
  have H := Lib.hid h
  clear h
  go_enter Try.func22, Try.ntmps22
  by_cases hn : n ≤ -1
  · go_wp2_with fail
    go_end0
    have e : max (-1) n = -1 := by omega
    refine ⟨rfl, vs, ?_, Fr.of_set w g _ _ (.inl rfl), fun _ hk => .inl hk⟩
    unfold armD; rw [e]; exact H.out.setLeft (-1)
  · have hn' : -1 < n := by omega
    clear hn
    go_wp2_with fail
    go_end0
    have e : max (-1) n = n := by omega
    refine ⟨rfl, vs, ?_, Fr.of_set w g _ _ (.inl rfl), fun _ hk => .inl hk⟩
    unfold armD; rw [e]; exact H.out.setLeft n
def vs0 : Vs := List.replicate 33 (none, 0)
theorem build_disk (w : World) (n : Nat) : (Instr.build 62 #[(0, .int .i64 (n : Nat)), (3, .int .i64 (-1))]).run Try.prog w = .ok (.agg (dcells ⟨n, List.replicate 33 FF0, false, -1, 0⟩ vs0).toArray) w := by kernel_rfl
theorem DiskAt.new {w : World} {g n : Nat} (h : w.heap[g]? = some (.cells (dcells ⟨n, List.replicate 33 FF0, false, -1, 0⟩ vs0).toArray 62 (0, 0))) : DiskAt w g ⟨n, List.replicate 33 FF0, false, -1, 0⟩ vs0 := by
  have hA : ∀ f, vA vs0 f = none ∧ vC vs0 f = 0 := fun f => by
    unfold vA vC vs0
    rw [List.getD_eq_getElem?_getD, List.getElem?_replicate]
    split <;> exact ⟨rfl, rfl⟩
  refine ⟨h, rfl, rfl, fun f _ => ?_, fun f ad _ e => ?_, fun f f' ad ad' _ _ _ e => ?_⟩
  · rw [(hA f).1, (hA f).2]
    have : (DD.file ⟨n, List.replicate 33 FF0, false, -1, 0⟩ f) = FF0 := by
      unfold DD.file
      rw [List.getD_eq_getElem?_getD, List.getElem?_replicate]
      split <;> rfl
    rw [this]; exact FileAt.nil w
  · rw [(hA f).1] at e; cases e
  · rw [(hA f).1] at e; cases e
theorem vs0_foot {g k : Nat} (h : dfoot g vs0 k) : g ≤ k := by
  rcases h with rfl | ⟨f, ad, _, e, _⟩
  · exact Nat.le_refl _
  · have : vA vs0 f = none := by
      unfold vA vs0
      rw [List.getD_eq_getElem?_getD, List.getElem?_replicate]
      split <;> rfl
    rw [this] at e; cases e
set_option maxRecDepth 100000 in
theorem New_any (w : World) (r : Int) :
    Calls Try.prog 9 #[.int .i64 r] w fun e w' => ∃ g vs, e = .returned (.pointer (some ⟨g, 0, none⟩)) ∧ DiskAt w' g (newD r) vs ∧ Below w.heap.size w w' ∧ w.heap.size ≤ g ∧ ∀ k, dfoot g vs k → w.heap.size ≤ k := by
  obtain ⟨n, hn⟩ : ∃ n, n = (max 0 (min r 262144)).toNat := ⟨_, rfl⟩
  have Hn := Lib.hid hn
  have A1 : r ≤ 0 → ((0 : Nat) : Int) = 0 ∧ n = 0 := fun h => ⟨rfl, by omega⟩
  have hv : (r ≤ 0 ∧ n = 0) ∨ (0 < r ∧ r ≤ 262144 ∧ r = (n : Int)) ∨ (262144 < r ∧ n = 262144) := by omega
  clear hn A1
  rcases hv with ⟨h1, rfl⟩ | ⟨h1, h2, rfl⟩ | ⟨h1, rfl⟩
  · have h2 : r < 262144 := by omega
    go_enter Try.func9, Try.ntmps9
    go_wp2_with (
      (refine lst_build 62 _ #[(0, .int .i64 ((0 : Nat) : Int)), (3, .int .i64 (-1))] _ rfl (build_disk _ 0) ?_ ?_ ?_)
      (focus (simp only [List.map_toArray, List.map_cons, List.map_nil]; rfl))
      (focus rfl))
    go_ret
    refine ⟨w.heap.size, vs0, rfl, ?_, Below.al _ _, Nat.le_refl _, fun k hk => ?_⟩
    · have e : newD r = ⟨0, List.replicate 33 FF0, false, -1, 0⟩ := by unfold newD; rw [← Hn.out]
      rw [e]
      exact DiskAt.new (heap_alloc_new w _)
    · exact vs0_foot hk
  · have h3 : (0 : Int) ≤ (n : Int) := by omega
    go_enter Try.func9, Try.ntmps9
    go_wp2_with (
      (refine lst_build 62 _ #[(0, .int .i64 ((n : Nat) : Int)), (3, .int .i64 (-1))] _ rfl (build_disk _ n) ?_ ?_ ?_)
      (focus (simp only [List.map_toArray, List.map_cons, List.map_nil]; rfl))
      (focus rfl))
    go_ret
    refine ⟨w.heap.size, vs0, rfl, ?_, Below.al _ _, Nat.le_refl _, fun k hk => ?_⟩
    · have e : newD n = ⟨n, List.replicate 33 FF0, false, -1, 0⟩ := by unfold newD; rw [← Hn.out]
      rw [e]
      exact DiskAt.new (heap_alloc_new w _)
    · exact vs0_foot hk
  · have h3 : (0 : Int) ≤ r := by omega
    go_enter Try.func9, Try.ntmps9
    go_wp2_with (
      (refine lst_build 62 _ #[(0, .int .i64 ((262144 : Nat) : Int)), (3, .int .i64 (-1))] _ rfl (build_disk _ 262144) ?_ ?_ ?_)
      (focus (simp only [List.map_toArray, List.map_cons, List.map_nil]; rfl))
      (focus rfl))
    go_ret
    refine ⟨w.heap.size, vs0, rfl, ?_, Below.al _ _, Nat.le_refl _, fun k hk => ?_⟩
    · have e : newD r = ⟨262144, List.replicate 33 FF0, false, -1, 0⟩ := by unfold newD; rw [← Hn.out]
      rw [e]
      exact DiskAt.new (heap_alloc_new w _)
    · exact vs0_foot hk
end Go.Proofs.Ytjfnpndpigpaiaa
