/- The reference's disk in memory. -/
import Derived.Test.YtjfnpndpigpaiaaDk14
namespace Go.Proofs.Ytjfnpndpigpaiaa
open Go.RowKit

def rlen (D : DD) (j : Nat) : Nat := if j % 2 = 0 then (D.file (j / 2)).k else (D.file (j / 2)).d.length - (D.file (j / 2)).k
def rbytes (D : DD) (j : Nat) : List UInt8 := if j % 2 = 0 then (D.file (j / 2)).d.take (D.file (j / 2)).k else (D.file (j / 2)).d.drop (D.file (j / 2)).k
def rval (D : DD) (L : Int) (vs : Vs) (i : Nat) : Value :=
  if i = 0 then .int .i64 (D.room : Nat) else if i = 67 then .bool D.off else if i = 68 then .bool (decide (0 ≤ D.left)) else if i = 69 then .int .i64 L else if i = 70 then .int .i64 (D.done : Nat)
  else .slice (vA vs (i - 1)) (rlen D (i - 1)) (vC vs (i - 1))
def rcells (D : DD) (L : Int) (vs : Vs) : List Value := (List.range 71).map (rval D L vs)
theorem rcells_len (D : DD) (L : Int) (vs : Vs) : (rcells D L vs).length = 71 := by simp [rcells]
theorem rcells_get (D : DD) (L : Int) (vs : Vs) (i : Nat) (h : i < 71) : (rcells D L vs)[i]? = some (rval D L vs i) := by simp [rcells, h]
theorem rcells_set {D D' : DD} {L L' : Int} {vs vs' : Vs} {i : Nat} {v : Value} (h : ∀ j, j < 71 → rval D' L' vs' j = if j = i then v else rval D L vs j) : (rcells D L vs).set i v = rcells D' L' vs' := by
  apply List.ext_getElem
  · simp [rcells]
  · intro j h1 h2
    have hj : j < 71 := by simpa [rcells] using h2
    rw [List.getElem_set]
    simp only [rcells, List.getElem_map, List.getElem_range]
    rw [h j hj]
    by_cases e : i = j
    · rw [if_pos e, if_pos e.symm]
    · rw [if_neg e, if_neg (fun x => e x.symm)]
structure RefAt (w : World) (g : Nat) (D : DD) (L : Int) (vs : Vs) (R : Nat → Prop) : Prop where
  heap : w.heap[g]? = some (.cells (rcells D L vs).toArray 74 (0, 0))
  len : D.fs.length = 33
  vlen : vs.length = 66
  sl : ∀ j, j < 66 → Sl w R (vA vs j) (rlen D j) (vC vs j) (rbytes D j)
  rlt : ∀ k, R k → k < w.heap.size ∧ k ≠ g
  left : 0 ≤ D.left → L = D.left
theorem RefAt.gt {w : World} {g : Nat} {D : DD} {L : Int} {vs : Vs} {R : Nat → Prop} (h : RefAt w g D L vs R) : g < w.heap.size := (Array.getElem?_eq_some_iff.1 h.heap).1
theorem RefAt.fr {w w' : World} {g : Nat} {D : DD} {L : Int} {vs : Vs} {R M : Nat → Prop} (h : RefAt w g D L vs R) (hf : Fr M w w') (hM : ¬ M g ∧ ∀ k, R k → ¬ M k) : RefAt w' g D L vs R :=
  ⟨(hf.block g h.gt hM.1).trans h.heap, h.len, h.vlen, fun j hj => (h.sl j hj).fr hf (fun k hk => ⟨(h.rlt k hk).1, hM.2 k hk⟩), fun k hk => ⟨Nat.lt_of_lt_of_le (h.rlt k hk).1 hf.size, (h.rlt k hk).2⟩, h.left⟩
theorem RefAt.bel {w w' : World} {g : Nat} {D : DD} {L : Int} {vs : Vs} {R : Nat → Prop} (h : RefAt w g D L vs R) (hb : Below w.heap.size w w') : RefAt w' g D L vs R := h.fr (Fr.of_below (M := NoB) hb) ⟨id, fun _ _ e => e⟩
theorem RefAt.cell {w : World} {g : Nat} {D : DD} {L : Int} {vs : Vs} {R : Nat → Prop} (h : RefAt w g D L vs R) (i : Nat) (hi : i < 71) : w.cell? ⟨g, i, none⟩ = some (rval D L vs i) := by
  rw [cell_of_row w g i _ _ _ h.heap]
  simpa using rcells_get D L vs i hi
theorem RefAt.frozen {w : World} {g : Nat} {D : DD} {L : Int} {vs : Vs} {R : Nat → Prop} (h : RefAt w g D L vs R) (i : Nat) : w.frozen? ⟨g, i, none⟩ = false := by
  simp [World.frozen?, h.heap]
section
variable {w : World} {g : Nat} {D : DD} {L : Int} {vs : Vs} {R : Nat → Prop} (h : RefAt w g D L vs R)
include h
theorem RefAt.cRoom : w.cell? ⟨g, 0, none⟩ = some (.int .i64 (D.room : Nat)) := h.cell 0 (by decide)
theorem RefAt.cOff : w.cell? ⟨g, 67, none⟩ = some (.bool D.off) := h.cell 67 (by decide)
theorem RefAt.cArmed : w.cell? ⟨g, 68, none⟩ = some (.bool (decide (0 ≤ D.left))) := h.cell 68 (by decide)
theorem RefAt.cLeft : w.cell? ⟨g, 69, none⟩ = some (.int .i64 L) := h.cell 69 (by decide)
theorem RefAt.cDone : w.cell? ⟨g, 70, none⟩ = some (.int .i64 (D.done : Nat)) := h.cell 70 (by decide)
theorem RefAt.cSl (j : Nat) (hj : j < 66) : w.cell? ⟨g, 1 + j, none⟩ = some (.slice (vA vs j) (rlen D j) (vC vs j)) := by
  rw [h.cell _ (by omega)]
  unfold rval
  rw [if_neg (by omega), if_neg (by omega), if_neg (by omega), if_neg (by omega), if_neg (by omega), show 1 + j - 1 = j by omega]
theorem RefAt.cLasts (f : Nat) (hf : f < 33) : w.cell? ⟨g, 1 + f * 2, none⟩ = some (.slice (vA vs (2 * f)) (D.file f).k (vC vs (2 * f))) := by
  rw [show 1 + f * 2 = 1 + 2 * f by omega, h.cSl _ (by omega)]
  unfold rlen
  rw [if_pos (by omega), show 2 * f / 2 = f by omega]
theorem RefAt.cLoose (f : Nat) (hf : f < 33) : w.cell? ⟨g, 1 + f * 2 + 1, none⟩ = some (.slice (vA vs (2 * f + 1)) ((D.file f).d.length - (D.file f).k) (vC vs (2 * f + 1))) := by
  rw [show 1 + f * 2 + 1 = 1 + (2 * f + 1) by omega, h.cSl _ (by omega)]
  unfold rlen
  rw [if_neg (by omega), show (2 * f + 1) / 2 = f by omega]
theorem RefAt.slLasts (f : Nat) (hf : f < 33) : Sl w R (vA vs (2 * f)) (D.file f).k (vC vs (2 * f)) ((D.file f).d.take (D.file f).k) := by
  have h1 := h.sl (2 * f) (by omega)
  unfold rlen rbytes at h1
  rw [if_pos (by omega), if_pos (by omega), show 2 * f / 2 = f by omega] at h1
  exact h1
theorem RefAt.slLoose (f : Nat) (hf : f < 33) : Sl w R (vA vs (2 * f + 1)) ((D.file f).d.length - (D.file f).k) (vC vs (2 * f + 1)) ((D.file f).d.drop (D.file f).k) := by
  have h1 := h.sl (2 * f + 1) (by omega)
  unfold rlen rbytes at h1
  rw [if_neg (by omega), if_neg (by omega), show (2 * f + 1) / 2 = f by omega] at h1
  exact h1
/-- a cell of the struct's that is no slice is written -/
theorem RefAt.poke {D' : DD} {L' : Int} (i : Nat) (v : Value) (hf : D'.fs = D.fs) (hv : ∀ j, j < 71 → rval D' L' vs j = if j = i then v else rval D L vs j) (hl : 0 ≤ D'.left → L' = D'.left) : RefAt (w.setCell ⟨g, i, none⟩ v) g D' L' vs R := by
  have hfr : Fr (fun k => k = g) w (w.setCell ⟨g, i, none⟩ v) := Fr.of_set w g i v rfl
  refine ⟨by rw [heap_setCell h.heap, rcells_set hv], by rw [hf]; exact h.len, h.vlen, fun j hj => ?_, fun k hk => ⟨Nat.lt_of_lt_of_le (h.rlt k hk).1 hfr.size, (h.rlt k hk).2⟩, hl⟩
  have e : ∀ f, D'.file f = D.file f := fun f => by unfold DD.file; rw [hf]
  have e1 : rlen D' j = rlen D j := by unfold rlen; simp only [e]
  have e2 : rbytes D' j = rbytes D j := by unfold rbytes; simp only [e]
  rw [e1, e2]
  exact (h.sl j hj).fr hfr (fun k hk => ⟨(h.rlt k hk).1, (h.rlt k hk).2⟩)
theorem RefAt.setOff (b : Bool) : RefAt (w.setCell ⟨g, 67, none⟩ (.bool b)) g { D with off := b } L vs R :=
  h.poke 67 _ rfl (fun j hj => by
    by_cases e : j = 67
    · subst e; rfl
    · rw [if_neg e]; unfold rval rlen DD.file; simp only [if_neg e]) h.left
theorem RefAt.setDone (b : Nat) : RefAt (w.setCell ⟨g, 70, none⟩ (.int .i64 (b : Nat))) g { D with done := b } L vs R :=
  h.poke 70 _ rfl (fun j hj => by
    by_cases e : j = 70
    · subst e; rfl
    · rw [if_neg e]; unfold rval rlen DD.file; simp only [if_neg e]) h.left
/-- disarmed -/
theorem RefAt.disarm : RefAt (w.setCell ⟨g, 68, none⟩ (.bool false)) g { D with left := -1 } L vs R :=
  h.poke 68 _ rfl (fun j hj => by
    by_cases e : j = 68
    · subst e; rfl
    · rw [if_neg e]; unfold rval rlen DD.file; simp only [if_neg e]) (fun e => absurd (show (0 : Int) ≤ -1 from e) (by decide))
/-- counted down -/
theorem RefAt.setLeft (n : Int) (h0 : 0 ≤ D.left) (hn : 0 ≤ n) : RefAt (w.setCell ⟨g, 69, none⟩ (.int .i64 n)) g { D with left := n } n vs R :=
  h.poke 69 _ rfl (fun j hj => by
    by_cases e : j = 69
    · subst e; rfl
    · rw [if_neg e]; unfold rval rlen DD.file
      have h1 : decide (0 ≤ n) = decide (0 ≤ D.left) := by rw [decide_eq_true hn, decide_eq_true h0]
      simp only [if_neg e, h1]) (fun _ => rfl)
/-- armed, or not, and so many left -/
theorem RefAt.arm (n : Int) : RefAt ((w.setCell ⟨g, 68, none⟩ (.bool (decide (0 ≤ n)))).setCell ⟨g, 69, none⟩ (.int .i64 n)) g { D with left := max (-1) n } n vs R := by
  have hfr : Fr (fun k => k = g) w ((w.setCell ⟨g, 68, none⟩ (.bool (decide (0 ≤ n)))).setCell ⟨g, 69, none⟩ (.int .i64 n)) := (Fr.of_set (M := fun k => k = g) w g 68 _ rfl).setCell (p := ⟨g, 69, none⟩) (.inl rfl) _
  refine ⟨?_, h.len, h.vlen, fun j hj => (h.sl j hj).fr hfr (fun k hk => ⟨(h.rlt k hk).1, (h.rlt k hk).2⟩), fun k hk => ⟨Nat.lt_of_lt_of_le (h.rlt k hk).1 hfr.size, (h.rlt k hk).2⟩, fun e => ?_⟩
  · rw [heap_setCell (heap_setCell h.heap _)]
    congr 3
    apply List.ext_getElem
    · simp [rcells]
    · intro j h1 h2
      have hj : j < 71 := by simpa [rcells] using h2
      rw [List.getElem_set, List.getElem_set]
      simp only [rcells, List.getElem_map, List.getElem_range]
      by_cases e : j = 69
      · subst e; rfl
      · rw [if_neg (fun x => e x.symm)]
        by_cases e2 : j = 68
        · subst e2
          have h1 : decide (0 ≤ n) = decide (0 ≤ max (-1) n) := by congr 1; apply propext; omega
          rw [if_pos rfl, h1]; rfl
        · rw [if_neg (fun x => e2 x.symm)]
          unfold rval rlen DD.file; simp only [if_neg e, if_neg e2]
  · have e' : 0 ≤ max (-1) n := e
    show n = max (-1) n; omega
/-- a file is written anew: both its slices -/
theorem RefAt.put {w' : World} {f : Nat} (hf : f < 33) (x : FF) (p1 p2 : Option Addr × Nat) {R' : Nat → Prop}
    (hh : w'.heap[g]? = some (.cells (((rcells D L vs).set (1 + f * 2) (.slice p1.1 x.k p1.2)).set (1 + f * 2 + 1) (.slice p2.1 (x.d.length - x.k) p2.2)).toArray 74 (0, 0)))
    (hfr : Fr (fun k => k = g) w w') (s1 : Sl w' R' p1.1 x.k p1.2 (x.d.take x.k)) (s2 : Sl w' R' p2.1 (x.d.length - x.k) p2.2 (x.d.drop x.k)) (hR : ∀ k, R k → R' k) (hR' : ∀ k, R' k → k < w'.heap.size ∧ k ≠ g) :
    RefAt w' g (D.put f x) L ((vs.set (2 * f) p1).set (2 * f + 1) p2) R' := by
  have hl : f < D.fs.length := by rw [h.len]; exact hf
  have hv1 : 2 * f < vs.length := by rw [h.vlen]; omega
  have hv2 : 2 * f + 1 < (vs.set (2 * f) p1).length := by rw [List.length_set, h.vlen]; omega
  have hvA : ∀ j, vA ((vs.set (2 * f) p1).set (2 * f + 1) p2) j = if j = 2 * f + 1 then p2.1 else if j = 2 * f then p1.1 else vA vs j := fun j => by
    rw [show p2 = (p2.1, p2.2) from rfl, (vA_set hv2 j).1, show p1 = (p1.1, p1.2) from rfl, (vA_set hv1 j).1]
  have hvC : ∀ j, vC ((vs.set (2 * f) p1).set (2 * f + 1) p2) j = if j = 2 * f + 1 then p2.2 else if j = 2 * f then p1.2 else vC vs j := fun j => by
    rw [show p2 = (p2.1, p2.2) from rfl, (vA_set hv2 j).2, show p1 = (p1.1, p1.2) from rfl, (vA_set hv1 j).2]
  have hrl : ∀ j, rlen (D.put f x) j = if j = 2 * f + 1 then x.d.length - x.k else if j = 2 * f then x.k else rlen D j := fun j => by
    unfold rlen
    rw [file_put hl]
    by_cases e1 : j = 2 * f + 1
    · subst e1; rw [if_neg (by omega), if_pos (by omega), if_pos rfl]
    · by_cases e2 : j = 2 * f
      · subst e2; rw [if_pos (by omega), if_pos (by omega), if_neg e1, if_pos rfl]
      · rw [if_neg (show ¬ j / 2 = f by omega), if_neg e1, if_neg e2]
  have hrb : ∀ j, rbytes (D.put f x) j = if j = 2 * f + 1 then x.d.drop x.k else if j = 2 * f then x.d.take x.k else rbytes D j := fun j => by
    unfold rbytes
    rw [file_put hl]
    by_cases e1 : j = 2 * f + 1
    · subst e1; rw [if_neg (by omega), if_pos (by omega), if_pos rfl]
    · by_cases e2 : j = 2 * f
      · subst e2; rw [if_pos (by omega), if_pos (by omega), if_neg e1, if_pos rfl]
      · rw [if_neg (show ¬ j / 2 = f by omega), if_neg e1, if_neg e2]
  refine ⟨?_, by simp [DD.put, h.len], by simp [h.vlen], fun j hj => ?_, hR', h.left⟩
  · rw [hh]
    congr 3
    apply List.ext_getElem
    · simp [rcells]
    · intro j h1 h2
      have hj : j < 71 := by simpa [rcells] using h2
      rw [List.getElem_set, List.getElem_set]
      simp only [rcells, List.getElem_map, List.getElem_range]
      unfold rval
      rw [hrl, hvA, hvC]
      by_cases e1 : j = 1 + f * 2 + 1
      · subst e1
        rw [if_pos rfl, if_neg (by omega), if_neg (by omega), if_neg (by omega), if_neg (by omega), if_neg (by omega), if_pos (by omega), if_pos (by omega), if_pos (by omega)]
      · rw [if_neg (fun x => e1 x.symm)]
        by_cases e2 : j = 1 + f * 2
        · subst e2
          rw [if_pos rfl, if_neg (by omega), if_neg (by omega), if_neg (by omega), if_neg (by omega), if_neg (by omega), if_neg (by omega), if_pos (by omega), if_neg (by omega), if_pos (by omega), if_neg (by omega), if_pos (by omega)]
        · rw [if_neg (fun x => e2 x.symm)]
          by_cases e0 : j = 0
          · subst e0; rfl
          · rw [if_neg e0, if_neg e0, if_neg (show ¬ j - 1 = 2 * f + 1 by omega), if_neg (show ¬ j - 1 = 2 * f by omega), if_neg (show ¬ j - 1 = 2 * f + 1 by omega), if_neg (show ¬ j - 1 = 2 * f by omega), if_neg (show ¬ j - 1 = 2 * f + 1 by omega), if_neg (show ¬ j - 1 = 2 * f by omega)]
            rfl
  · rw [hrl, hrb, hvA, hvC]
    by_cases e1 : j = 2 * f + 1
    · rw [if_pos e1, if_pos e1, if_pos e1, if_pos e1]; exact s2
    · rw [if_neg e1, if_neg e1, if_neg e1, if_neg e1]
      by_cases e2 : j = 2 * f
      · rw [if_pos e2, if_pos e2, if_pos e2, if_pos e2]; exact s1
      · rw [if_neg e2, if_neg e2, if_neg e2, if_neg e2]
        exact ((h.sl j hj).fr hfr (fun k hk => ⟨(h.rlt k hk).1, (h.rlt k hk).2⟩)).mono hR
end
/-- the reference's disk, its blocks R and its struct -/
def Ref (w : World) (g : Nat) (D : DD) (R : Nat → Prop) : Prop := ∃ L vs, RefAt w g D L vs R
/-- a step of the reference's disk -/
def Rstep (g : Nat) (R : Nat → Prop) (w w' : World) (D' : DD) : Prop := ∃ R', Ref w' g D' R' ∧ Fr (fun k => k = g) w w' ∧ (∀ k, R k → R' k) ∧ ∀ k, R' k → R k ∨ w.heap.size ≤ k
theorem Rstep.refl {w : World} {g : Nat} {D : DD} {R : Nat → Prop} (h : Ref w g D R) : Rstep g R w w D := ⟨R, h, Fr.refl _ _, fun _ hk => hk, fun _ hk => .inl hk⟩
theorem Ref.fr {w w' : World} {g : Nat} {D : DD} {R M : Nat → Prop} (h : Ref w g D R) (hf : Fr M w w') (hM : ¬ M g ∧ ∀ k, R k → ¬ M k) : Ref w' g D R := by
  obtain ⟨L, vs, h⟩ := h; exact ⟨L, vs, h.fr hf hM⟩
theorem Ref.bel {w w' : World} {g : Nat} {D : DD} {R : Nat → Prop} (h : Ref w g D R) (hb : Below w.heap.size w w') : Ref w' g D R := by
  obtain ⟨L, vs, h⟩ := h; exact ⟨L, vs, h.bel hb⟩
theorem Rstep.old {g : Nat} {R : Nat → Prop} {w w1 w' : World} {D' : DD} (hb : Below w.heap.size w w1) (h : Rstep g R w1 w' D') : Rstep g R w w' D' := by
  obtain ⟨R', h1, h2, h3, h4⟩ := h
  refine ⟨R', h1, (Fr.of_below hb).trans h2 (fun _ _ e => e), h3, fun k hk => ?_⟩
  rcases h4 k hk with hk | hk
  · exact .inl hk
  · exact .inr (Nat.le_trans hb.size hk)
theorem Rstep.then {g : Nat} {R : Nat → Prop} {w w1 w' : World} {D' D2 : DD} (h : Rstep g R w w1 D2) (k : ∀ R', Ref w1 g D2 R' → Rstep g R' w1 w' D') : Rstep g R w w' D' := by
  obtain ⟨R1, h1, h2, h3, h4⟩ := h
  obtain ⟨R2, k1, k2, k3, k4⟩ := k R1 h1
  refine ⟨R2, k1, h2.trans k2 (fun _ _ e => e), fun j hj => k3 j (h3 j hj), fun j hj => ?_⟩
  rcases k4 j hj with hj | hj
  · exact h4 j hj
  · exact .inr (Nat.le_trans h2.size hj)
end Go.Proofs.Ytjfnpndpigpaiaa
