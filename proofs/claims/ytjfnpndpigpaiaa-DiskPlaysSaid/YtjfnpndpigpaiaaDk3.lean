/- The disk in memory: its struct. -/
import Derived.Test.YtjfnpndpigpaiaaDk2
namespace Go.Proofs.Ytjfnpndpigpaiaa
open Go.RowKit

abbrev Vs : Type := List (Option Addr × Nat)
def vA (vs : Vs) (f : Nat) : Option Addr := (vs.getD f (none, 0)).1
def vC (vs : Vs) (f : Nat) : Nat := (vs.getD f (none, 0)).2
def dval (D : DD) (vs : Vs) (i : Nat) : Value :=
  if i = 0 then .int .i64 (D.room : Nat) else if i = 67 then .bool D.off else if i = 68 then .int .i64 D.left else if i = 69 then .int .i64 (D.done : Nat)
  else if i % 2 = 1 then .slice (vA vs (i / 2)) (D.file (i / 2)).d.length (vC vs (i / 2)) else .int .i64 ((D.file (i / 2 - 1)).k : Nat)
def dcells (D : DD) (vs : Vs) : List Value := (List.range 70).map (dval D vs)
theorem dcells_len (D : DD) (vs : Vs) : (dcells D vs).length = 70 := by simp [dcells]
theorem dcells_get (D : DD) (vs : Vs) (i : Nat) (h : i < 70) : (dcells D vs)[i]? = some (dval D vs i) := by simp [dcells, h]
theorem dcells_set {D D' : DD} {vs vs' : Vs} {i : Nat} {v : Value} (h : ∀ j, j < 70 → dval D' vs' j = if j = i then v else dval D vs j) : (dcells D vs).set i v = dcells D' vs' := by
  apply List.ext_getElem
  · simp [dcells]
  · intro j h1 h2
    have hj : j < 70 := by simpa [dcells] using h2
    rw [List.getElem_set]
    simp only [dcells, List.getElem_map, List.getElem_range]
    rw [h j hj]
    by_cases e : i = j
    · rw [if_pos e, if_pos e.symm]
    · rw [if_neg e, if_neg (fun x => e x.symm)]
structure DiskAt (w : World) (g : Nat) (D : DD) (vs : Vs) : Prop where
  heap : w.heap[g]? = some (.cells (dcells D vs).toArray 62 (0, 0))
  len : D.fs.length = 33
  vlen : vs.length = 33
  file : ∀ f, f < 33 → FileAt w (D.file f).d (vA vs f) (vC vs f)
  ne : ∀ f ad, f < 33 → vA vs f = some ad → ad.block ≠ g
  sep : ∀ f f' ad ad', f < 33 → f' < 33 → f ≠ f' → vA vs f = some ad → vA vs f' = some ad' → ad.block ≠ ad'.block
/-- the blocks that are a disk's -/
def dfoot (g : Nat) (vs : Vs) (k : Nat) : Prop := k = g ∨ ∃ f ad, f < 33 ∧ vA vs f = some ad ∧ ad.block = k
theorem DiskAt.gt {w : World} {g : Nat} {D : DD} {vs : Vs} (h : DiskAt w g D vs) : g < w.heap.size := (Array.getElem?_eq_some_iff.1 h.heap).1
theorem DiskAt.foot_lt {w : World} {g : Nat} {D : DD} {vs : Vs} (h : DiskAt w g D vs) {k : Nat} (hk : dfoot g vs k) : k < w.heap.size := by
  rcases hk with rfl | ⟨f, ad, hf, he, rfl⟩
  · exact h.gt
  · exact (h.file f hf).lt ad he
theorem DiskAt.fr {w w' : World} {g : Nat} {D : DD} {vs : Vs} {M : Nat → Prop} (h : DiskAt w g D vs) (hf : Fr M w w') (hM : ∀ k, dfoot g vs k → ¬ M k) : DiskAt w' g D vs :=
  ⟨(hf.block g h.gt (hM g (.inl rfl))).trans h.heap, h.len, h.vlen, fun f hl => (h.file f hl).fr hf (fun ad e => hM _ (.inr ⟨f, ad, hl, e, rfl⟩)), h.ne, h.sep⟩
theorem DiskAt.bel {w w' : World} {g : Nat} {D : DD} {vs : Vs} (h : DiskAt w g D vs) (hb : Below w.heap.size w w') : DiskAt w' g D vs := h.fr (Fr.of_below (M := NoB) hb) (fun _ _ e => e)
theorem DiskAt.cell {w : World} {g : Nat} {D : DD} {vs : Vs} (h : DiskAt w g D vs) (i : Nat) (hi : i < 70) : w.cell? ⟨g, i, none⟩ = some (dval D vs i) := by
  rw [cell_of_row w g i _ _ _ h.heap]
  simpa using dcells_get D vs i hi
theorem DiskAt.frozen {w : World} {g : Nat} {D : DD} {vs : Vs} (h : DiskAt w g D vs) (i : Nat) : w.frozen? ⟨g, i, none⟩ = false := by
  simp [World.frozen?, h.heap]
theorem DiskAt.cRoom {w : World} {g : Nat} {D : DD} {vs : Vs} (h : DiskAt w g D vs) : w.cell? ⟨g, 0, none⟩ = some (.int .i64 (D.room : Nat)) := h.cell 0 (by decide)
theorem DiskAt.cOff {w : World} {g : Nat} {D : DD} {vs : Vs} (h : DiskAt w g D vs) : w.cell? ⟨g, 67, none⟩ = some (.bool D.off) := h.cell 67 (by decide)
theorem DiskAt.cLeft {w : World} {g : Nat} {D : DD} {vs : Vs} (h : DiskAt w g D vs) : w.cell? ⟨g, 68, none⟩ = some (.int .i64 D.left) := h.cell 68 (by decide)
theorem DiskAt.cDone {w : World} {g : Nat} {D : DD} {vs : Vs} (h : DiskAt w g D vs) : w.cell? ⟨g, 69, none⟩ = some (.int .i64 (D.done : Nat)) := h.cell 69 (by decide)
theorem dval_data (D : DD) (vs : Vs) (f : Nat) (hf : f < 33) : dval D vs (1 + f * 2) = .slice (vA vs f) (D.file f).d.length (vC vs f) := by
  unfold dval
  rw [if_neg (by omega), if_neg (by omega), if_neg (by omega), if_neg (by omega), if_pos (by omega), show (1 + f * 2) / 2 = f by omega]
theorem dval_last (D : DD) (vs : Vs) (f : Nat) (hf : f < 33) : dval D vs (1 + f * 2 + 1) = .int .i64 ((D.file f).k : Nat) := by
  unfold dval
  rw [if_neg (by omega), if_neg (by omega), if_neg (by omega), if_neg (by omega), if_neg (by omega), show (1 + f * 2 + 1) / 2 - 1 = f by omega]
theorem DiskAt.cData {w : World} {g : Nat} {D : DD} {vs : Vs} (h : DiskAt w g D vs) (f : Nat) (hf : f < 33) : w.cell? ⟨g, 1 + f * 2, none⟩ = some (.slice (vA vs f) (D.file f).d.length (vC vs f)) := by
  rw [h.cell _ (by omega), dval_data D vs f hf]
theorem DiskAt.cLast {w : World} {g : Nat} {D : DD} {vs : Vs} (h : DiskAt w g D vs) (f : Nat) (hf : f < 33) : w.cell? ⟨g, 1 + f * 2 + 1, none⟩ = some (.int .i64 ((D.file f).k : Nat)) := by
  rw [h.cell _ (by omega), dval_last D vs f hf]
theorem heap_setCell {w : World} {g i : Nat} {cs : List Value} {T : Nat} {fr : Nat × Nat} (h : w.heap[g]? = some (.cells cs.toArray T fr)) (v : Value) : (w.setCell ⟨g, i, none⟩ v).heap[g]? = some (.cells (cs.set i v).toArray T fr) := by
  simp [World.setCell, Array.getElem?_modify, h]
/-- a number of the struct's is written -/
theorem DiskAt.poke {w : World} {g : Nat} {D D' : DD} {vs : Vs} (h : DiskAt w g D vs) (i : Nat) (v : Value) (hf : D'.fs = D.fs) (hv : ∀ j, j < 70 → dval D' vs j = if j = i then v else dval D vs j) : DiskAt (w.setCell ⟨g, i, none⟩ v) g D' vs := by
  have hfr : Fr (fun k => k = g) w (w.setCell ⟨g, i, none⟩ v) := Fr.of_set w g i v rfl
  refine ⟨by rw [heap_setCell h.heap, dcells_set hv], by rw [hf]; exact h.len, h.vlen, fun f hl => ?_, h.ne, h.sep⟩
  have e : D'.file f = D.file f := by unfold DD.file; rw [hf]
  rw [e]
  exact (h.file f hl).fr hfr (fun ad ha => h.ne f ad hl ha)
theorem DiskAt.setOff {w : World} {g : Nat} {D : DD} {vs : Vs} (h : DiskAt w g D vs) (b : Bool) : DiskAt (w.setCell ⟨g, 67, none⟩ (.bool b)) g { D with off := b } vs :=
  h.poke 67 _ rfl (fun j hj => by
    by_cases e : j = 67
    · subst e; rfl
    · rw [if_neg e]; unfold dval DD.file; simp only [if_neg e])
theorem DiskAt.setLeft {w : World} {g : Nat} {D : DD} {vs : Vs} (h : DiskAt w g D vs) (b : Int) : DiskAt (w.setCell ⟨g, 68, none⟩ (.int .i64 b)) g { D with left := b } vs :=
  h.poke 68 _ rfl (fun j hj => by
    by_cases e : j = 68
    · subst e; rfl
    · rw [if_neg e]; unfold dval DD.file; simp only [if_neg e])
theorem DiskAt.setDone {w : World} {g : Nat} {D : DD} {vs : Vs} (h : DiskAt w g D vs) (b : Nat) : DiskAt (w.setCell ⟨g, 69, none⟩ (.int .i64 (b : Nat))) g { D with done := b } vs :=
  h.poke 69 _ rfl (fun j hj => by
    by_cases e : j = 69
    · subst e; rfl
    · rw [if_neg e]; unfold dval DD.file; simp only [if_neg e])
theorem file_put {D : DD} {f : Nat} {x : FF} (hf : f < D.fs.length) (f' : Nat) : (D.put f x).file f' = if f' = f then x else D.file f' := by
  unfold DD.put DD.file
  simp only [List.getD_eq_getElem?_getD, List.getElem?_set]
  by_cases e : f = f'
  · subst e; rw [if_pos rfl, if_pos rfl, if_pos hf]; rfl
  · rw [if_neg e, if_neg (fun x => e x.symm)]
theorem vA_set {vs : Vs} {f : Nat} {A : Option Addr} {c : Nat} (hf : f < vs.length) (f' : Nat) : vA (vs.set f (A, c)) f' = (if f' = f then A else vA vs f') ∧ vC (vs.set f (A, c)) f' = (if f' = f then c else vC vs f') := by
  unfold vA vC
  simp only [List.getD_eq_getElem?_getD, List.getElem?_set]
  by_cases e : f = f'
  · subst e; rw [if_pos rfl, if_pos rfl, if_pos rfl, if_pos hf]; exact ⟨rfl, rfl⟩
  · rw [if_neg e, if_neg (fun x => e x.symm), if_neg (fun x => e x.symm)]; exact ⟨rfl, rfl⟩
/-- how many bytes of a file last is written -/
theorem DiskAt.setLast {w : World} {g : Nat} {D : DD} {vs : Vs} (h : DiskAt w g D vs) {f : Nat} (hf : f < 33) (k : Nat) : DiskAt (w.setCell ⟨g, 1 + f * 2 + 1, none⟩ (.int .i64 (k : Nat))) g (D.put f ⟨(D.file f).d, k⟩) vs := by
  have hfr : Fr (fun k => k = g) w (w.setCell ⟨g, 1 + f * 2 + 1, none⟩ (.int .i64 (k : Nat))) := Fr.of_set w g _ _ rfl
  have hl : f < D.fs.length := by rw [h.len]; exact hf
  have hd : ∀ f', ((D.put f ⟨(D.file f).d, k⟩).file f').d = (D.file f').d := fun f' => by
    rw [file_put hl]; split
    · rename_i e; rw [e]
    · rfl
  refine ⟨?_, by simp [DD.put, h.len], h.vlen, fun f' hl' => ?_, h.ne, h.sep⟩
  · rw [heap_setCell h.heap, dcells_set (D' := D.put f ⟨(D.file f).d, k⟩) (vs' := vs)]
    intro j hj
    by_cases e : j = 1 + f * 2 + 1
    · subst e; rw [if_pos rfl, dval_last _ _ f hf, file_put hl, if_pos rfl]
    · rw [if_neg e]
      unfold dval
      have hne : j % 2 ≠ 1 → j ≠ 0 → ((D.put f ⟨(D.file f).d, k⟩).file (j / 2 - 1)) = D.file (j / 2 - 1) := fun h1 h2 => by
        rw [file_put hl, if_neg (by omega)]
      by_cases h0 : j = 0
      · subst h0; rfl
      · rw [if_neg h0, if_neg h0, hd]
        by_cases h1 : j % 2 = 1
        · simp only [if_pos h1]; rfl
        · rw [hne h1 h0]; rfl
  · rw [hd]
    exact (h.file f' hl').fr hfr (fun ad ha => h.ne f' ad hl' ha)
/-- a file's bytes are written -/
theorem DiskAt.setData {w : World} {g : Nat} {D : DD} {vs : Vs} (h : DiskAt w g D vs) {f : Nat} (hf : f < 33) {l : List UInt8} {A : Option Addr} {c : Nat} (hF : FileAt w l A c) (hg : ∀ ad, A = some ad → ad.block ≠ g)
    (hs : ∀ f' ad ad', f' < 33 → f' ≠ f → A = some ad → vA vs f' = some ad' → ad.block ≠ ad'.block) :
    DiskAt (w.setCell ⟨g, 1 + f * 2, none⟩ (.slice A l.length c)) g (D.put f ⟨l, (D.file f).k⟩) (vs.set f (A, c)) := by
  have hfr : Fr (fun k => k = g) w (w.setCell ⟨g, 1 + f * 2, none⟩ (.slice A l.length c)) := Fr.of_set w g _ _ rfl
  have hl : f < D.fs.length := by rw [h.len]; exact hf
  have hv : f < vs.length := by rw [h.vlen]; exact hf
  have hk : ∀ f', ((D.put f ⟨l, (D.file f).k⟩).file f').k = (D.file f').k := fun f' => by
    rw [file_put hl]; split
    · rename_i e; rw [e]
    · rfl
  refine ⟨?_, by simp [DD.put, h.len], by simp [h.vlen], fun f' hl' => ?_, fun f' ad hl' ha => ?_, fun f1 f2 ad1 ad2 h1 h2 hne e1 e2 => ?_⟩
  · rw [heap_setCell h.heap, dcells_set (D' := D.put f ⟨l, (D.file f).k⟩) (vs' := vs.set f (A, c))]
    intro j hj
    by_cases e : j = 1 + f * 2
    · subst e; rw [if_pos rfl, dval_data _ _ f hf, file_put hl, if_pos rfl, (vA_set hv f).1, (vA_set hv f).2, if_pos rfl, if_pos rfl]
    · rw [if_neg e]
      unfold dval
      rw [hk, (vA_set hv _).1, (vA_set hv _).2]
      by_cases h1 : j % 2 = 1
      · have hne : j / 2 ≠ f := by omega
        rw [if_pos h1, if_pos h1, if_neg hne, if_neg hne, file_put hl, if_neg hne]; rfl
      · rw [if_neg h1, if_neg h1]; rfl
  · rw [file_put hl, (vA_set hv f').1, (vA_set hv f').2]
    by_cases e : f' = f
    · rw [if_pos e, if_pos e, if_pos e]; exact hF.fr hfr (fun ad ha => hg ad ha)
    · rw [if_neg e, if_neg e, if_neg e]; exact (h.file f' hl').fr hfr (fun ad ha => h.ne f' ad hl' ha)
  · rw [(vA_set hv f').1] at ha
    by_cases e : f' = f
    · rw [if_pos e] at ha; exact hg ad ha
    · rw [if_neg e] at ha; exact h.ne f' ad hl' ha
  · rw [(vA_set hv f1).1] at e1
    rw [(vA_set hv f2).1] at e2
    by_cases c1 : f1 = f
    · rw [if_pos c1] at e1
      rw [if_neg (by omega)] at e2
      exact hs f2 ad1 ad2 h2 (by omega) e1 e2
    · rw [if_neg c1] at e1
      by_cases c2 : f2 = f
      · rw [if_pos c2] at e2
        exact (hs f1 ad2 ad1 h1 c1 e2 e1).symm
      · rw [if_neg c2] at e2
        exact h.sep f1 f2 ad1 ad2 h1 h2 hne e1 e2
theorem put_same {D : DD} {f : Nat} (hf : f < D.fs.length) : D.put f (D.file f) = D := by
  unfold DD.put DD.file
  rw [List.getD_eq_getElem?_getD, List.getElem?_eq_getElem hf, Option.getD_some, List.set_getElem_self]
/-- the bytes of one file turn in their own block -/
theorem DiskAt.turn {w w' : World} {g : Nat} {D : DD} {vs : Vs} (h : DiskAt w g D vs) {f : Nat} (hf : f < 33) (hfr : Fr (Blk (vA vs f)) w w') {l : List UInt8} (hF : FileAt w' l (vA vs f) (vC vs f)) (hl : l.length = (D.file f).d.length) :
    DiskAt w' g (D.put f ⟨l, (D.file f).k⟩) vs := by
  have hl2 : f < D.fs.length := by rw [h.len]; exact hf
  have hc : dcells (D.put f ⟨l, (D.file f).k⟩) vs = dcells D vs := by
    unfold dcells
    apply List.map_congr_left
    intro j hj
    unfold dval
    have h1 : ((D.put f ⟨l, (D.file f).k⟩).file (j / 2)).d.length = (D.file (j / 2)).d.length := by
      rw [file_put hl2]; split
      · rename_i e; rw [e]; exact hl
      · rfl
    have h2 : ((D.put f ⟨l, (D.file f).k⟩).file (j / 2 - 1)).k = (D.file (j / 2 - 1)).k := by
      rw [file_put hl2]; split
      · rename_i e; rw [e]
      · rfl
    rw [h1, h2]; rfl
  refine ⟨?_, by simp [DD.put, h.len], h.vlen, fun f' hl' => ?_, h.ne, h.sep⟩
  · rw [hc]
    exact (hfr.block g h.gt (fun ⟨ad, e, hb⟩ => h.ne f ad hf e hb)).trans h.heap
  · rw [file_put hl2]
    by_cases e : f' = f
    · rw [if_pos e, e]; exact hF
    · rw [if_neg e]
      exact (h.file f' hl').fr hfr (fun ad ha ⟨ad', e', hb⟩ => h.sep f f' ad' ad hf hl' (fun x => e x.symm) e' ha hb)
/-- a step of a disk's: what it is then, and what may have turned -/
def Dstep (g : Nat) (vs : Vs) (w w' : World) (D' : DD) : Prop := ∃ vs', DiskAt w' g D' vs' ∧ Fr (dfoot g vs) w w' ∧ ∀ k, dfoot g vs' k → dfoot g vs k ∨ w.heap.size ≤ k
theorem Dstep.refl {w : World} {g : Nat} {D : DD} {vs : Vs} (h : DiskAt w g D vs) : Dstep g vs w w D := ⟨vs, h, Fr.refl _ _, fun _ hk => .inl hk⟩
theorem dfoot_set {g : Nat} {vs : Vs} {f : Nat} {A : Option Addr} {c : Nat} (hv : f < vs.length) {k : Nat} (hk : dfoot g (vs.set f (A, c)) k) : dfoot g vs k ∨ ∃ ad, A = some ad ∧ ad.block = k := by
  rcases hk with rfl | ⟨f', ad, hf', he, rfl⟩
  · exact .inl (.inl rfl)
  · rw [(vA_set hv f').1] at he
    by_cases e : f' = f
    · rw [if_pos e] at he; exact .inr ⟨ad, he, rfl⟩
    · rw [if_neg e] at he; exact .inl (.inr ⟨f', ad, hf', he, rfl⟩)
end Go.Proofs.Ytjfnpndpigpaiaa
