/- The reference's ring: Make. -/
import Derived.Test.YtglbhoamknjdeaaRr1
import Derived.Test.YtglbhoamknjdeaaHas
namespace Go.Proofs.Ytglbhoamknjdeaa
open Go.RowKit
attribute [local go_sem] yld yldUpon_value

theorem Try.infoRow : (Try.prog.info? 65).map (fun i => (i.zero, i.size, i.bytes)) = some (some (.agg #[.string ⟨#[]⟩, .string ⟨#[]⟩, .int .i64 0, .int .i64 0, .bool false]), 5, 56) := by kernel_rfl
/-- what a step of the reference turns -/
abbrev RM (g : Nat) (A : Option Addr) (n c : Nat) : Nat → Prop := fun j => j = g ∨ (Value.slice A n c).ownBlock = some j
/-- the rows' slice is laid anew -/
theorem RefAt.put {w : World} {lo g : Nat} {A' : Option Addr} {n' c' : Nat} {L' : List (Wk × Hd)} {S : Value}
    (hb : w.heap[g]? = some (.cells #[S] 45 (0, 0))) (ho : w.ownsRow lo 65 5 (.slice A' n' c') n' (rcs L')) (hne : ∀ k, (Value.slice A' n' c').ownBlock = some k → k ≠ g) (hlo : lo ≤ g) :
    RefAt (w.setCell ⟨g, 0, none⟩ (.slice A' n' c')) lo g A' n' c' L' := by
  refine ⟨?_, own_fr ho (Fr.of_set (M := fun j => j = g) w g 0 _ rfl) (fun k hk e => hne k hk e), hne, hlo⟩
  rw [heap_setCell_same w g 0 _ _ _ hb]; rfl
set_option maxRecDepth 100000 in
set_option maxHeartbeats 4000000 in
theorem rMake_any {w : World} {lo g : Nat} {A : Option Addr} {n c : Nat} {L : List (Wk × Hd)} (h : RefAt w lo g A n c L) (hn : n ≤ 10000) (hlo : lo ≤ w.heap.size) (t s : ByteArray) (v : Int) :
    Calls Try.prog 22 #[.pointer (some ⟨g, 0, none⟩), .string t, .string s, .int .i64 v] w fun e w' => e = .returned (.int .i64 (makeR L (t, s) v).1) ∧ (∃ A' n' c', RefAt w' lo g A' n' c' (makeR L (t, s) v).2) ∧ Fr (RM g A n c) w w' := by
  have H := Lib.hid h
  have hcell := h.cell
  have HL := Lib.hid h.len
  clear h
  by_cases h1 : v < 1
  · have e1 : makeR L (t, s) v = (1, L) := by unfold makeR; rw [if_pos (.inl h1)]
    rw [e1]
    clear e1 hcell
    go_enter Try.func22, Try.ntmps22
    go_wp2_with fail
    go_ret
    exact ⟨rfl, ⟨_, _, _, H.out⟩, Fr.refl _ _⟩
  by_cases h2 : 64 < v
  · have e1 : makeR L (t, s) v = (1, L) := by unfold makeR; rw [if_pos (.inr h2)]
    rw [e1]
    clear e1 hcell
    go_enter Try.func22, Try.ntmps22
    go_wp2_with fail
    go_ret
    exact ⟨rfl, ⟨_, _, _, H.out⟩, Fr.refl _ _⟩
  have h12 : ¬ (v < 1 ∨ 64 < v) := by omega
  have H12 := Lib.hid h12
  clear h12
  go_enter Try.func22, Try.ntmps22
  go_wp2_with fail
  refine (at_any H.out (by omega) t s).mono ?_
  rintro e w' ⟨⟨r, rfl, hr⟩, rfl⟩
  rcases hr.h with ⟨rfl, hl⟩ | ⟨i, hi, rfl, _, hl⟩
  · have e1 : Hid (makeR L (t, s) v = (0, L ++ [((t, s), ⟨v, 0, false⟩)])) := by show _ = _; unfold makeR; rw [if_neg H12.out, hl]; simp [putR, hl]
    clear hr hl
    obtain ⟨iR, hiR, zR, sR, bR⟩ := info_parts Try.infoRow
    have HiR := Lib.hid hiR; have HzR := Lib.hid zR; have HsR := Lib.hid sR; have HbR := Lib.hid bR
    clear hiR zR sR bR
    have uR := Lib.hid Try.underlying43
    have hgl := Lib.hid (Array.getElem?_eq_some_iff.1 H.out.box).1
    have Hn : Hid (n ≤ 10000) := hn
    have Hlo : Hid (lo ≤ w.heap.size) := hlo
    clear hn hlo
    go_wp2_with (first
      | (at_builtin
         refine wpList_plain rfl fun _ hK => wp_append_rd _ (.tmp 24) (.tmp 30) 43 rfl lo 65 iR _ 5 56 uR.out HiR.out HzR.out HsR.out HbR.out rfl (by decide) (.slice A n c) n (rcs L) rfl (H.out.bel (Below.al w _)).own (some ⟨w.heap.size, 0, none⟩) 1 1 (rc ((t, s), ⟨v, 0, false⟩)) rfl rfl (Rd.of_block (heap_alloc_new w (.cells #[.string t, .string s, .int .i64 v, .int .i64 0, .bool false] 65))) (by intro u hu; simp [rc] at hu; rcases hu with rfl | rfl | rfl | rfl | rfl <;> rfl) (by have := Hn.out; unfold maxLen; omega) (by have := Hn.out; omega) (by have := Hlo.out; rw [World.size_alloc]; omega) fun A' c' w1 ho hg hor => hK _ _ ?_
         have O1 := Lib.hid ho; have G1 := Lib.hid hg; have R1 := Lib.hid hor
         have b1 := (G1.out.block g (by rw [World.size_alloc]; have := hgl.out; omega) (fun e => H.out.ne g e.symm rfl)).trans ((Below.al w (.cells #[.string t, .string s, .int .i64 v, .int .i64 0, .bool false] 65)).block g hgl.out |>.trans H.out.box)
         have B1 := Lib.hid b1
         have c1 : w1.cell? ⟨g, 0, none⟩ = some (.slice A n c) := by rw [cell_of_row w1 g 0 _ _ _ b1]; rfl
         have f1 := frozen_of_row w1 g 0 _ _ b1
         clear ho hg hor b1))
    go_ret
    rw [e1.out]
    have hne : ∀ k, (Value.slice A' (n + 1) c').ownBlock = some k → k ≠ g := fun k hk => by
      rcases R1.out with e | e
      · exact H.out.ne k (e.symm.trans hk)
      · rw [hk] at e; injection e with e; rw [World.size_alloc] at e; have := hgl.out; omega
    refine ⟨rfl, ⟨A', n + 1, c', RefAt.put B1.out (by rw [show rcs (L ++ [((t, s), ⟨v, 0, false⟩)]) = rcs L ++ rc ((t, s), ⟨v, 0, false⟩) by simp [rcs]]; exact O1.out) hne H.out.lo⟩, ?_⟩
    exact (((Fr.of_below (Below.al w _)).tr ((Fr.of_grown G1.out).mono (fun k _ e => .inr e.symm))).tr (Fr.of_set (M := RM g A n c) w1 g 0 _ (.inl rfl)))
  · have e1 : Hid (makeR L (t, s) v = (13, L)) := by show _ = _; unfold makeR; rw [if_neg H12.out, hl]
    have hi0 : (0 : Int) ≤ (i : Int) := by omega
    clear hr hl
    go_wp2_with fail
    go_ret
    rw [e1.out]
    exact ⟨rfl, ⟨_, _, _, H.out⟩, Fr.refl _ _⟩
end Go.Proofs.Ytglbhoamknjdeaa
