/- The disk in memory. -/
import Derived.Test.YtjfnpndpigpaiaaDk1
import Derived.Test.YtjfnpndpigpaiaaHas
namespace Go.Proofs.Ytjfnpndpigpaiaa
open Go.RowKit

/-- a file's bytes: the head of a block of their own, of which so many cells may be written -/
def FileAt (w : World) (l : List UInt8) (A : Option Addr) (c : Nat) : Prop :=
  ∃ C, c ≤ C ∧ l.length ≤ c ∧ w.ownsRow 0 5 1 (.slice A l.length C) l.length (bs l)
theorem FileAt.fr {w w' : World} {M : Nat → Prop} {l : List UInt8} {A : Option Addr} {c : Nat} (h : FileAt w l A c) (hf : Fr M w w') (hM : ∀ ad, A = some ad → ¬ M ad.block) : FileAt w' l A c := by
  obtain ⟨C, h1, h2, h3⟩ := h
  refine ⟨C, h1, h2, own_fr h3 hf (fun k hk => ?_)⟩
  cases A with
  | none => cases hk
  | some ad => injection hk with hk; subst hk; exact hM ad rfl
theorem FileAt.nil (w : World) : FileAt w [] none 0 := ⟨0, Nat.le_refl _, Nat.le_refl _, World.ownsRow_nil _ _ _ _⟩
theorem FileAt.form {w : World} {l : List UInt8} {A : Option Addr} {c : Nat} (h : FileAt w l A c) : (A = none ∧ c = 0 ∧ l = []) ∨ ∃ b, A = some ⟨b, 0, none⟩ ∧ b < w.heap.size := by
  obtain ⟨C, h1, h2, h3⟩ := h
  rcases h3.2 with ⟨hv, hn⟩ | ⟨g, cap, cur, hv, hb, hh, r⟩
  · injection hv with e1 e2 e3
    exact .inl ⟨e1, by omega, List.eq_nil_of_length_eq_zero hn⟩
  · injection hv with e1 e2 e3
    exact .inr ⟨g, e1, (Array.getElem?_eq_some_iff.1 hh).1⟩
theorem FileAt.lt {w : World} {l : List UInt8} {A : Option Addr} {c : Nat} (h : FileAt w l A c) : ∀ ad, A = some ad → ad.block < w.heap.size := by
  intro ad e
  rcases h.form with ⟨e2, _⟩ | ⟨b, e2, hb⟩
  · rw [e] at e2; cases e2
  · rw [e] at e2; injection e2 with e2; subst e2; exact hb
/-- a file's block -/
abbrev Blk (A : Option Addr) : Nat → Prop := fun k => ∃ ad, A = some ad ∧ ad.block = k
theorem FileAt.sl {w : World} {l : List UInt8} {A : Option Addr} {c : Nat} (h : FileAt w l A c) : Sl w (Blk A) A l.length c l := by
  have hf := h.form
  obtain ⟨C, h1, h2, h3⟩ := h
  refine ⟨rfl, h2, fun e => ?_, fun ad e _ => ⟨ad, e, rfl⟩, Rd.of_own h3⟩
  rcases hf with ⟨_, h, _⟩ | ⟨b, e2, _⟩
  · exact h
  · rw [e] at e2; cases e2
theorem FileAt.take {w : World} {l : List UInt8} {A : Option Addr} {c : Nat} (h : FileAt w l A c) {n : Nat} (hn : n ≤ l.length) : FileAt w (l.take n) A n := by
  obtain ⟨C, h1, h2, h3⟩ := h
  have hl : (l.take n).length = n := by rw [List.length_take]; omega
  refine ⟨C, by omega, by omega, ?_⟩
  rw [hl]
  refine ⟨by rw [bs_length, hl]; omega, ?_⟩
  rcases h3.2 with ⟨hv, h0⟩ | ⟨g, cap, cur, hv, hb, hh, hnc, hm, hs, ht⟩
  · injection hv with e1 e2 e3
    exact .inl ⟨by rw [e1, e3, show n = 0 by omega], by omega⟩
  · injection hv with e1 e2 e3
    refine .inr ⟨g, cap, cur, by rw [e1, e3], hb, hh, by omega, hm, hs, ?_⟩
    have : (cur.toList.take (l.length * 1)).take n = (bs l).take n := by rw [ht]
    rw [List.take_take, show min n (l.length * 1) = n * 1 by omega] at this
    rw [this]; simp [bs, List.map_take]
theorem FileAt.of_own {w : World} {base : Nat} {l : List UInt8} {A : Option Addr} {n c : Nat} (h : w.ownsRow base 5 1 (.slice A n c) n (bs l)) : FileAt w l A c := by
  have hl : l.length = n := by have := h.1; rw [bs_length] at this; omega
  subst hl
  refine ⟨c, Nat.le_refl _, ?_, own_mono h (Nat.zero_le _)⟩
  rcases h.2 with ⟨hv, h0⟩ | ⟨g, cap, cur, hv, _, _, hc, _⟩
  · omega
  · injection hv with _ _ hc'; omega
/-- append to a file's bytes -/
theorem FileAt.append {w : World} {l b : List UInt8} {A : Option Addr} {c : Nat} (h : FileAt w l A c) {F : Nat → Prop} {B : Option Addr} {m d : Nat} (hb : Sl w F B m d b) (hs : l.length + m ≤ 1000000000) (ty : TypeId) :
    ∃ A' c' w', (Builtin.append_ #[31, 31] ty #[.slice A l.length c, .slice B m d]).run Try.prog w = .ok (.slice A' (l.length + m) c') w' ∧ FileAt w' (l ++ b) A' c' ∧ FileAt w' l A c ∧ Fr (Blk A) w w' ∧
      (A' = A ∨ ∃ g, A' = some ⟨g, 0, none⟩ ∧ w.heap.size ≤ g) := by
  obtain ⟨i0, hi, hz0, hz1, hz2⟩ := info_parts Try.infoB
  have h0 := h
  obtain ⟨C, h1, h2, h3⟩ := h
  have hbl := hb.len
  by_cases hm : m = 0
  · have hbn : b = [] := List.eq_nil_of_length_eq_zero (by omega)
    subst hbn; subst hm
    refine ⟨A, c, w, ?_, by rw [List.append_nil]; exact h0, h0, Fr.refl _ _, .inl rfl⟩
    have hsz : (Try.prog.info? 5) = some i0 := hi
    have hc2 : l.length ≤ c := h2
    cases A <;> cases B <;> simp [Builtin.append_, run_underlying Try.underlying31, sizeOf, typeInfo, hsz, Builtin.lenOf, Builtin.firstCells, hc2, storeCells, Addr.add, hz1, run_loadCells_list (P := Try.prog) w _ [] (fun j v h => by simp at h)]
    all_goals first | rfl | (try simp [loadCells, storeCells])
  · obtain ⟨adB, rfl⟩ : ∃ ad, B = some ad := by
      cases B with
      | none => have := hb.zero rfl; omega
      | some ad => exact ⟨ad, rfl⟩
    have hcells : ∀ j u, (bs b)[j]? = some u → w.cell? (adB.add j) = some u := by
      intro j u hu
      obtain ⟨ad', e, hc⟩ := hb.rd j u hu
      injection e with e; subst e; exact hc
    have hbl1 : (bs b).length = m * 1 := by rw [bs_length]; omega
    rcases h3.2 with ⟨hv, hn⟩ | ⟨g, cap, cur, hv, hbg, hh, hnc, hcm, hcs, htk⟩
    · -- nothing there yet
      injection hv with e1 e2 e3
      subst e1
      have hc0 : c = 0 := by omega
      subst hc0
      have hln : l = [] := List.eq_nil_of_length_eq_zero hn
      subst hln
      obtain ⟨v', w', hrun, hown, hg, _, hor⟩ := run_append_own_at (P := Try.prog) w 0 31 ty 5 i0 (.int .u8 0) 1 1 Try.underlying31 hi hz0 hz1 hz2 rfl (by decide) (.slice none 0 0) 0 [] (World.ownsRow_nil _ _ _ _) adB m d (bs b) hbl1 hcells (bs_oneCell _) (by simp only [maxLen]; omega) (by omega) (Nat.zero_le _)
      obtain ⟨A', c', rfl⟩ := own_slice hown
      refine ⟨A', c', w', hrun, FileAt.of_own (l := [] ++ b) (by rw [List.nil_append]; exact hown), FileAt.nil _, (Fr.of_grown hg).mono (fun k _ e => by cases e), ?_⟩
      obtain ⟨g2, c2, e2, hg2, _⟩ := World.ownsRow.form hown (by omega)
      injection e2 with e2 _ _
      subst e2
      rcases hor with e | e
      · cases e
      · injection e with e
        exact .inr ⟨g2, rfl, Nat.le_of_eq e.symm⟩
    · injection hv with e1 e2 e3
      subst e1; subst e3
      have hrd : ∀ j u, (bs l)[j]? = some u → w.cell? ((⟨g, 0, none⟩ : Addr).add j) = some u := by
        intro j u hu
        obtain ⟨ad', e, hc⟩ := Rd.of_own h3 j u hu
        injection e with e; subst e; exact hc
      by_cases hr : l.length + m ≤ c
      · have hr2 : l.length + m ≤ C := by omega
        have hcell : ∀ j, j < (bs b).length → (w.cell? ⟨g, 0 + l.length * i0.size + j, none⟩).isSome = true := fun j hj => by
          rw [bs_length] at hj
          rw [hz1, cell_of_row w g _ _ _ _ hh, Array.getElem?_eq_getElem (by omega)]; rfl
        have hfroz : ∀ j, j < (bs b).length → w.frozen? ⟨g, 0 + l.length * i0.size + j, none⟩ = false := fun j hj => World.ownsRow.frozenAt h3 _
        have hrun := run_append_room_cells (P := Try.prog) w 31 ty 5 i0 Try.underlying31 hi g 0 l.length c adB m d (bs b) (by rw [hbl1, hz1]) hcells (bs_oneCell _) hr hcell hfroz
        have hrunC := run_append_room_cells (P := Try.prog) w 31 ty 5 i0 Try.underlying31 hi g 0 l.length C adB m d (bs b) (by rw [hbl1, hz1]) hcells (bs_oneCell _) hr2 hcell hfroz
        obtain ⟨v', w', hrun2, hown, hg, _, _⟩ := run_append_own_at (P := Try.prog) w 0 31 ty 5 i0 (.int .u8 0) 1 1 Try.underlying31 hi hz0 hz1 hz2 rfl (by decide) (.slice (some ⟨g, 0, none⟩) l.length C) l.length (bs l) h3 adB m d (bs b) hbl1 hcells (bs_oneCell _) (by simp only [maxLen]; omega) (by omega) (Nat.zero_le _)
        rw [hrunC] at hrun2
        injection hrun2 with ev ew
        subst ev; subst ew
        have hfr : Fr (Blk (some ⟨g, 0, none⟩)) w (w.setCells g (0 + l.length * i0.size) (bs b)) := (Fr.of_grown hg).mono (fun k _ e => ⟨_, rfl, by simp [Value.ownBlock] at e; exact e.symm⟩)
        refine ⟨_, c, _, hrun, ⟨C, h1, by rw [List.length_append]; omega, ?_⟩, ⟨C, h1, h2, ?_⟩, hfr, .inl rfl⟩
        · rw [bs_append, List.length_append, hbl]; exact hown
        · have := (FileAt.take (l := l ++ b) ⟨C, Nat.le_refl C, by rw [List.length_append]; omega, by rw [bs_append, List.length_append, hbl]; exact hown⟩ (n := l.length) (by simp))
          rw [List.take_left'  rfl] at this
          obtain ⟨C2, g1, g2, g3⟩ := this
          rcases g3.2 with ⟨hv, _⟩ | ⟨g', cap', cur', hv, hb', hh', q1, q2, q3, q4⟩
          · cases hv
          · injection hv with e1 e2 e3; injection e1 with e1; injection e1 with e1 _
            subst e1; subst e3
            rcases hown.2 with ⟨hv, _⟩ | ⟨g'', cap'', cur'', hv'', hb'', hh'', q1', q2', q3', q4'⟩
            · cases hv
            · injection hv'' with e1 e2 e3; injection e1 with e1; injection e1 with e1 _
              subst e1; subst e3
              rw [hh''] at hh'
              injection hh' with hh'; injection hh' with hh' _
              subst hh'
              exact ⟨by rw [bs_length]; omega, .inr ⟨g, C, cur'', rfl, Nat.zero_le _, hh'', by omega, q2', q3', q4⟩⟩
      · obtain ⟨v', w', hrun, hown, hg⟩ := run_append_arg_grows (P := Try.prog) w 31 ty 5 i0 (.int .u8 0) 1 1 Try.underlying31 hi hz0 hz1 hz2 rfl (by decide) ⟨g, 0, none⟩ l.length c (bs l) (by rw [bs_length]; omega) hrd adB m d (bs b) hbl1 hcells (by omega) (by simp only [maxLen]; omega) (by omega)
        obtain ⟨A', c', rfl⟩ := own_slice hown
        have hfr : Fr (Blk (some ⟨g, 0, none⟩)) w w' := Fr.of_none hg _
        refine ⟨A', c', w', hrun, FileAt.of_own (l := l ++ b) (by rw [bs_append]; exact hown), h0.fr (Fr.of_none hg NoB) (fun _ _ e => e), hfr, ?_⟩
        obtain ⟨g2, c2, e2, hg2, _⟩ := World.ownsRow.form hown (by omega)
        injection e2 with e2 _ _
        exact .inr ⟨g2, e2, hg2⟩
end Go.Proofs.Ytjfnpndpigpaiaa
