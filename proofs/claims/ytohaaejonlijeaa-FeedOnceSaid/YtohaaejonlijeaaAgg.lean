/- Building a struct out of parts that may be long. -/
import Derived.Test.YtohaaejonlijeaaOrd
namespace Go.Proofs.Ytohaaejonlijeaa
open Go.RowKit

theorem fold_set : ∀ (cs : List Value) (k : Nat) (pre rest : List Value), cs.length ≤ rest.length →
    (cs.zipIdx k).foldl (fun (a : Array Value) (x : Value × Nat) => a.setIfInBounds (pre.length - k + x.2) x.1) (pre ++ rest).toArray = (pre ++ (cs ++ rest.drop cs.length)).toArray ∨ pre.length < k
  | [], k, pre, rest, _ => by simp
  | c :: cs, k, pre, r0 :: rest, h => by
    rcases Nat.lt_or_ge pre.length k with hk | hk
    · exact .inr hk
    · left
      simp only [List.zipIdx_cons, List.foldl_cons]
      have e1 : (pre ++ r0 :: rest).toArray.setIfInBounds (pre.length - k + k) c = ((pre ++ [c]) ++ rest).toArray := by
        rw [Nat.sub_add_cancel hk, List.setIfInBounds_toArray, List.set_append_right _ _ (Nat.le_refl _), Nat.sub_self]
        simp
      rw [e1]
      have h2 := fold_set cs (k + 1) (pre ++ [c]) rest (by simpa using h)
      have e2 : (pre ++ [c]).length - (k + 1) = pre.length - k := by simp
      rw [e2] at h2
      rcases h2 with h2 | h2
      · rw [h2]; simp
      · simp at h2; omega
  | c :: cs, k, pre, [], h => by simp at h

/-- the places are one behind the other -/
def FillSeq (place : Nat → Option (Nat × Nat)) : List (Nat × Value) → Nat → Prop
  | [], _ => True
  | (i, v) :: r, off => place i = some (off, v.cells.size) ∧ FillSeq place r (off + v.cells.size)
def partCells (l : List (Nat × Value)) : List Value := l.flatMap fun x => x.2.cells.toList

theorem fill_seq (place : Nat → Option (Nat × Nat)) : ∀ (vs : List (Nat × Value)) (pre rest : List Value), FillSeq place vs pre.length → (partCells vs).length = rest.length →
    Instr.fill place (pre ++ rest).toArray vs = some (pre ++ partCells vs).toArray
  | [], pre, rest, _, h => by
    have : rest = [] := List.eq_nil_of_length_eq_zero (by simpa [partCells] using h.symm)
    subst this
    simp [Instr.fill, partCells]
  | (i, v) :: vs, pre, rest, ⟨hp, hr⟩, h => by
    have hl : v.cells.size + (partCells vs).length = rest.length := by simpa [partCells] using h
    have hfold := fold_set v.cells.toList 0 pre rest (by rw [Array.length_toList]; omega)
    have hz : v.cells.zipIdx.foldl (fun cs (x : Value × Nat) => cs.setIfInBounds (pre.length + x.2) x.1) (pre ++ rest).toArray = (pre ++ (v.cells.toList ++ rest.drop v.cells.size)).toArray := by
      rcases hfold with hf | hf
      · rw [← Array.foldl_toList, Array.toList_zipIdx]
        simpa using hf
      · omega
    rw [Instr.fill, hp]
    simp only [ne_eq, not_true_eq_false, decide_false, Bool.false_or, decide_eq_true_eq]
    rw [if_neg (by simp; omega), hz, ← List.append_assoc]
    have h3 := fill_seq place vs (pre ++ v.cells.toList) (rest.drop v.cells.size) (by simpa using hr) (by rw [List.length_drop]; omega)
    rw [h3]
    simp [partCells]

theorem run_places {P : Program} (w : World) : ∀ fs : List Field, (fs.all fun f => (P.info? f.type).isSome) = true →
    (fs.mapM (m := Sem) fun f => Prod.mk f.offset <$> sizeOf f.type).run P w = .ok (fs.map fun f => (f.offset, P.cellsOf f.type)) w
  | [], _ => by simp
  | f :: fs, h => by
    simp only [List.all_cons, Bool.and_eq_true] at h
    obtain ⟨i, hi⟩ := Option.isSome_iff_exists.1 h.1
    have ih := run_places (P := P) w fs h.2
    simp [List.mapM_cons, sizeOf, typeInfo, hi, Program.cellsOf] at ih ⊢
    simp [ih]
theorem run_build_struct {P : Program} (w : World) (t : TypeId) (fs : Array Field) (i : TypeInfo) (z : Value) (pl : Array (Nat × Nat)) (ht : P.underlying t = some (.struct fs)) (hi : P.info? t = some i) (hz : i.zero = some z)
    (hall : (fs.toList.all fun f => (P.info? f.type).isSome) = true) (hpl : (fs.toList.map fun f => (f.offset, P.cellsOf f.type)).toArray = pl) (parts : Array (Nat × Value))
    (hseq : FillSeq (pl[·]?) parts.toList 0) (hlen : (partCells parts.toList).length = z.cells.size) :
    (Instr.build t parts).run P w = .ok (.agg (partCells parts.toList).toArray) w := by
  have h := fill_seq (pl[·]?) parts.toList [] z.cells.toList hseq (by simpa using hlen)
  simp only [List.nil_append, Array.toArray_toList] at h
  have hp := run_places (P := P) w fs.toList hall
  have hp2 : (fs.mapM (m := Sem) fun f => Prod.mk f.offset <$> sizeOf f.type).run P w = .ok pl w := by
    rw [Array.mapM_eq_mapM_toList]
    simp [hp, hpl]
  unfold Instr.build
  simp [zeroValue, typeInfo, hi, hz, run_underlying ht, hp2, h]

theorem wp_build {P : Program} {o : Oper} {a : Act} {w : World} {K : Act → World → Prop} {Q : Exit → Act → World → Prop} (t : TypeId) (parts : Array (Nat × Operand)) (pv : Array (Nat × Value)) (v : Value) (ho : o.op = .build t parts)
    (hpv : (parts.map fun (x : Nat × Operand) => (x.1, a.eval x.2)) = pv) (hrun : (Instr.build t pv).run P w = .ok v w) (h : K (a.put o.dst v) w) : o.wp P a w K Q := by
  unfold Oper.wp execOp
  simp only [ho, hpv, Sem.run_bind, hrun, Result.andThen_ok, Sem.run_pure]
  exact h
/-- a slice of one element, which may be a long struct -/
theorem run_buildSlice_one {P : Program} (w : World) (t e : TypeId) (i : TypeInfo) (z v : Value) (ht : P.underlying t = some (.slice e)) (hi : P.info? e = some i) (hz : i.zero = some z)
    (hv : v.cells.size = i.size) (hs : z.cells.size = i.size) (h0 : 0 < i.size) (h1 : i.size ≤ 16777216) :
    (Instr.buildSlice t 1 #[(0, v)]).run P w = .ok (.slice (some ⟨w.heap.size, 0, none⟩) 1 1) (w.alloc (.cells v.cells e)) := by
  have hf := fill_seq (fun k => some (k * i.size, i.size)) [(0, v)] [] ((Array.range (1 * i.size)).map (z.cells[· % z.cells.size]!)).toList
    (by simp [FillSeq, hv]) (by simp [partCells, hv])
  have hf2 : Instr.fill (fun k => some (k * i.size, i.size)) (Array.map (fun x => z.cells[x % i.size]!) (Array.range i.size)) [(0, v)] = some v.cells := by
    simp only [List.nil_append, Array.toArray_toList, Nat.one_mul, hs] at hf
    rw [hf]
    simp [partCells]
  unfold Instr.buildSlice
  simp [run_underlying ht, sizeOf, typeInfo, hi, zeroValue, hz, hs, show ¬ 16777216 < i.size by omega, show ¬ i.size = 0 by omega, hf2, newRow]
theorem wp_buildSlice_one {P : Program} {o : Oper} {a : Act} {w : World} {K : Act → World → Prop} {Q : Exit → Act → World → Prop} (t e : TypeId) (x : Operand) (i : TypeInfo) (z v : Value) (ho : o.op = .buildSlice t 1 #[(0, x)])
    (hx : a.eval x = v) (ht : P.underlying t = some (.slice e)) (hi : P.info? e = some i) (hz : i.zero = some z)
    (hv : v.cells.size = i.size) (hs : z.cells.size = i.size) (h0 : 0 < i.size) (h1 : i.size ≤ 16777216)
    (h : K (a.put o.dst (.slice (some ⟨w.heap.size, 0, none⟩) 1 1)) (w.alloc (.cells v.cells e))) : o.wp P a w K Q := by
  have hrun := run_buildSlice_one (P := P) w t e i z v ht hi hz hv hs h0 h1
  unfold Oper.wp execOp
  simp only [ho, List.map_toArray, List.map_cons, List.map_nil, hx, Sem.run_bind, hrun, Result.andThen_ok, Sem.run_pure]
  exact h
theorem Rd.of_block {w : World} {g : Nat} {cs : Array Value} {t : TypeId} {fr : Nat × Nat} (h : w.heap[g]? = some (.cells cs t fr)) : Rd w (some ⟨g, 0, none⟩) cs.toList := by
  intro j x hx
  refine ⟨_, rfl, ?_⟩
  rw [addr_add_zero, Nat.zero_add, cell_of_row w g j cs t fr h]
  simpa using hx
end Go.Proofs.Ytohaaejonlijeaa
