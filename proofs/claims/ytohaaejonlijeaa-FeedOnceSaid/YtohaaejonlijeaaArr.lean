/- Arrays of bytes held against one another; whole variables of long types. -/
import Derived.Test.YtohaaejonlijeaaAgg
import Derived.ChangeKeysEq
import Derived.Laws.StructEq
import Derived.Deep.WholeRow
namespace Go.Proofs.Ytohaaejonlijeaa
open Go.RowKit

theorem run_part_byte (w : World) (l : List UInt8) (k : Nat) (h : k < l.length) : (part 5 (bs l).toArray (k * 1)).run Try.prog w = .ok (bv l[k]) w := by
  have e : (bs l).toArray[k * 1]? = some (bv l[k]) := by
    rw [Nat.mul_one]; simpa using bs_get l k h
  have hu : (isAgg 5).run Try.prog w = .ok false w := by
    unfold isAgg
    simp [run_underlying Try.underlying5]
  unfold part
  simp only [Sem.run_bind, hu, Result.andThen_ok, e]
  simp
theorem run_eqItems_bytes (w : World) (d : Nat) (l l' : List UInt8) (hl : l.length = l'.length) : ∀ (m k : Nat), k + m = l.length →
    (Op.eqItems (d + 1) 5 1 (bs l).toArray (bs l').toArray (List.range' k m)).run Try.prog w = .ok (l.drop k == l'.drop k) w
  | 0, k, h => by
    rw [List.drop_of_length_le (by omega), List.drop_of_length_le (by omega)]
    simp [Op.eqItems]
  | m + 1, k, h => by
    have hk : k < l.length := by omega
    have hk' : k < l'.length := by omega
    have h1 := run_part_byte w l k hk
    have h2 := run_part_byte w l' k hk'
    have h3 : (Op.equalIn (d + 1) 5 (bv l[k]) (bv l'[k])).run Try.prog w = .ok (l[k] == l'[k]) w := by
      unfold bv
      rw [run_equalIn_int w d 5 .u8 .u8 _ _ Try.underlying5, byte_eq]
    have ih := run_eqItems_bytes w d l l' hl m (k + 1) (by omega)
    rw [List.range'_succ]
    simp only [Op.eqItems, Sem.run_bind, h1, h2, h3, Result.andThen_ok]
    rw [List.drop_eq_getElem_cons hk, List.drop_eq_getElem_cons hk', List.cons_beq_cons]
    cases hb : l[k] == l'[k]
    · simp
    · simpa using ih
theorem run_eq_arr (w : World) (T n : Nat) (l l' : List UInt8) (hu : Try.prog.underlying T = some (.array n 5)) (h : l.length = n) (h' : l'.length = n) :
    (Op.equal T (.agg (bs l).toArray) (.agg (bs l').toArray)).run Try.prog w = .ok (l == l') w := by
  obtain ⟨i0, hi, hz0, hz1, hz2⟩ := info_parts Try.infoB
  have hc : Try.prog.cellsOf 5 = 1 := by simp [Program.cellsOf, hi, hz1]
  unfold Op.equal Op.maxDepth
  rw [run_equalIn_array w 9999 _ _ hu hi, hc, List.range_eq_range']
  have := run_eqItems_bytes w 9998 l l' (by omega) n 0 (by omega)
  simpa using this
theorem wp_neq_arr {o : Oper} {a : Act} {w : World} {K : Act → World → Prop} {Q : Exit → Act → World → Prop} (T : TypeId) (x y : Operand) (T' : TypeId) (ho : o.op = .binOp .neq T x y T') (n : Nat) (l l' : List UInt8)
    (hx : a.eval x = .agg (bs l).toArray) (hy : a.eval y = .agg (bs l').toArray) (hu : Try.prog.underlying T = some (.array n 5)) (hg : Try.prog.eqGuardType Try.prog.depth T = false)
    (h : l.length = n) (h' : l'.length = n) (c : Bool) (hc : (l != l') = c) (hk : K (a.put o.dst (.bool c)) w) : o.wp Try.prog a w K Q := by
  have h1 := run_eq_arr w T n l l' hu h h'
  have h2 := run_eqGuard_agg (P := Try.prog) w .neq T x y (bs l).toArray (bs l').toArray hg
  subst hc
  unfold Oper.wp execOp
  simp only [ho, hx, hy, Sem.run_bind, h2, Result.andThen_ok, binOp, h1, Sem.run_pure]
  exact hk
theorem wp_eql_arr {o : Oper} {a : Act} {w : World} {K : Act → World → Prop} {Q : Exit → Act → World → Prop} (T : TypeId) (x y : Operand) (T' : TypeId) (ho : o.op = .binOp .eql T x y T') (n : Nat) (l l' : List UInt8)
    (hx : a.eval x = .agg (bs l).toArray) (hy : a.eval y = .agg (bs l').toArray) (hu : Try.prog.underlying T = some (.array n 5)) (hg : Try.prog.eqGuardType Try.prog.depth T = false)
    (h : l.length = n) (h' : l'.length = n) (c : Bool) (hc : (l == l') = c) (hk : K (a.put o.dst (.bool c)) w) : o.wp Try.prog a w K Q := by
  have h1 := run_eq_arr w T n l l' hu h h'
  have h2 := run_eqGuard_agg (P := Try.prog) w .eql T x y (bs l).toArray (bs l').toArray hg
  subst hc
  unfold Oper.wp execOp
  simp only [ho, hx, hy, Sem.run_bind, h2, Result.andThen_ok, binOp, h1, Sem.run_pure]
  exact hk
/-- a new variable of a long type; the world behind it a letter -/
theorem wp_alloc_abs {P : Program} {o : Oper} {a : Act} {w : World} {K : Act → World → Prop} {Q : Exit → Act → World → Prop} (T : TypeId) (ho : o.op = .alloc T) (i : TypeInfo) (z : Value) (hi : P.info? T = some i) (hz : i.zero = some z)
    (hk : ∀ g w', Hid (g = w.heap.size ∧ w'.heap.size = w.heap.size + 1) → Hid (w'.heap[g]? = some (.cells z.cells T (0, 0))) → Below w.heap.size w w' → K (a.put o.dst (.pointer (some ⟨g, 0, none⟩))) w') : o.wp P a w K Q := by
  unfold Oper.wp execOp
  simp [ho, Instr.alloc, zeroValue, typeInfo, hi, hz, newVar, newRow]
  exact hk w.heap.size (w.alloc (.cells z.cells T)) (Lib.hid ⟨rfl, by simp⟩) (Lib.hid (heap_alloc_new w _)) ((Below.refl _ _).alloc (Nat.le_refl _) _)
/-- a store into a whole block -/
theorem wp_store_abs {P : Program} {o : Oper} {a : Act} {w : World} {K : Act → World → Prop} {Q : Exit → Act → World → Prop} (T : TypeId) (x y : Operand) (ho : o.op = .store T x y) (g : Nat) (t : TypeId) (c c' : Array Value)
    (hx : a.eval x = .pointer (some ⟨g, 0, none⟩)) (hy : a.eval y = .agg c') (hg : w.heap[g]? = some (.cells c t (0, 0))) (hi : (P.info? T).map (·.size) = some c'.size) (hc : c.size = c'.size) (h1 : c'.all (·.oneCell') = true)
    (hk : ∀ w', Hid (w'.heap[g]? = some (.cells c' t (0, 0))) → w.grownBy w' (some g) → K (a.put o.dst undef) w') : o.wp P a w K Q := by
  have := run_storeVar_row (P := P) w g t T c c' hg hi hc h1
  unfold Oper.wp execOp
  simp only [ho, hx, hy, Sem.run_bind, Instr.storeAt, Instr.sureAddr, Sem.run_pure, this, Result.andThen_ok]
  exact hk _ (Lib.hid (setRow_heap w g c c' t _ hg)) ⟨rfl, rfl, rfl, by simp, fun k _ hk => setRow_other w g k _ (fun e => hk (by rw [e]))⟩

/-! The same at a list of operations, guarded or not. -/
section
variable {P : Program} {ops : Array Oper} {rest : List Oper} {o : Oper} {a : Act} {w : World} {Q : Exit → Act → World → Prop}
theorem lst_load_mid (T : TypeId) (x : Operand) (ho : o.op = .load T x) (b off : Nat) (hx : a.eval x = .pointer (some ⟨b, off, none⟩)) (cs : List Value) (d : TypeDesc) (hc : w.rangeAt b off cs)
    (hu : P.underlying T = some d) (hd : d.isRow = true) (hi : (P.info? T).map (·.size) = some cs.length) (hw : Region.wanted o (yielded ops a.tmps) = true)
    (h : wpList P ops Q rest (a.put o.dst (.agg cs.toArray)) w) : wpList P ops Q (o :: rest) a w :=
  BigFrame.wpList_want hw fun _ hK => wp_load_mid T x ho b off hx cs d hc hu hd hi (hK _ _ h)
theorem lst_alloc_abs (T : TypeId) (ho : o.op = .alloc T) (i : TypeInfo) (z : Value) (hi : P.info? T = some i) (hz : i.zero = some z) (hw : Region.wanted o (yielded ops a.tmps) = true)
    (hk : ∀ g w', Hid (g = w.heap.size ∧ w'.heap.size = w.heap.size + 1) → Hid (w'.heap[g]? = some (.cells z.cells T (0, 0))) → Below w.heap.size w w' → wpList P ops Q rest (a.put o.dst (.pointer (some ⟨g, 0, none⟩))) w') : wpList P ops Q (o :: rest) a w :=
  BigFrame.wpList_want hw fun _ hK => wp_alloc_abs T ho i z hi hz fun g w' h1 h2 h3 => hK _ _ (hk g w' h1 h2 h3)
theorem lst_store_abs (T : TypeId) (x y : Operand) (ho : o.op = .store T x y) (g : Nat) (t : TypeId) (c c' : Array Value)
    (hx : a.eval x = .pointer (some ⟨g, 0, none⟩)) (hy : a.eval y = .agg c') (hg : w.heap[g]? = some (.cells c t (0, 0))) (hi : (P.info? T).map (·.size) = some c'.size) (hc : c.size = c'.size) (h1 : c'.all (·.oneCell') = true)
    (hw : Region.wanted o (yielded ops a.tmps) = true)
    (hk : ∀ w', Hid (w'.heap[g]? = some (.cells c' t (0, 0))) → w.grownBy w' (some g) → wpList P ops Q rest (a.put o.dst undef) w') : wpList P ops Q (o :: rest) a w :=
  BigFrame.wpList_want hw fun _ hK => wp_store_abs T x y ho g t c c' hx hy hg hi hc h1 fun w' h2 h3 => hK _ _ (hk w' h2 h3)
end
theorem lst_neq_arr {ops : Array Oper} {rest : List Oper} {o : Oper} {a : Act} {w : World} {Q : Exit → Act → World → Prop} (T : TypeId) (x y : Operand) (T' : TypeId) (ho : o.op = .binOp .neq T x y T') (n : Nat) (l l' : List UInt8)
    (hx : a.eval x = .agg (bs l).toArray) (hy : a.eval y = .agg (bs l').toArray) (hu : Try.prog.underlying T = some (.array n 5)) (hg : Try.prog.eqGuardType Try.prog.depth T = false)
    (h : l.length = n) (h' : l'.length = n) (c : Bool) (hc : (l != l') = c) (hw : Region.wanted o (yielded ops a.tmps) = true) (hk : wpList Try.prog ops Q rest (a.put o.dst (.bool c)) w) : wpList Try.prog ops Q (o :: rest) a w :=
  BigFrame.wpList_want hw fun _ hK => wp_neq_arr T x y T' ho n l l' hx hy hu hg h h' c hc (hK _ _ hk)
theorem lst_eql_arr {ops : Array Oper} {rest : List Oper} {o : Oper} {a : Act} {w : World} {Q : Exit → Act → World → Prop} (T : TypeId) (x y : Operand) (T' : TypeId) (ho : o.op = .binOp .eql T x y T') (n : Nat) (l l' : List UInt8)
    (hx : a.eval x = .agg (bs l).toArray) (hy : a.eval y = .agg (bs l').toArray) (hu : Try.prog.underlying T = some (.array n 5)) (hg : Try.prog.eqGuardType Try.prog.depth T = false)
    (h : l.length = n) (h' : l'.length = n) (c : Bool) (hc : (l == l') = c) (hw : Region.wanted o (yielded ops a.tmps) = true) (hk : wpList Try.prog ops Q rest (a.put o.dst (.bool c)) w) : wpList Try.prog ops Q (o :: rest) a w :=
  BigFrame.wpList_want hw fun _ hK => wp_eql_arr T x y T' ho n l l' hx hy hu hg h h' c hc (hK _ _ hk)
theorem lst_build {P : Program} {ops : Array Oper} {rest : List Oper} {o : Oper} {a : Act} {w : World} {Q : Exit → Act → World → Prop} (t : TypeId) (parts : Array (Nat × Operand)) (pv : Array (Nat × Value)) (v : Value) (ho : o.op = .build t parts)
    (hrun : (Instr.build t pv).run P w = .ok v w) (hpv : (parts.map fun (x : Nat × Operand) => (x.1, a.eval x.2)) = pv) (hw : Region.wanted o (yielded ops a.tmps) = true) (h : wpList P ops Q rest (a.put o.dst v) w) : wpList P ops Q (o :: rest) a w :=
  BigFrame.wpList_want hw fun _ hK => wp_build t parts pv v ho hpv hrun (hK _ _ h)
theorem lst_buildSlice_one {P : Program} {ops : Array Oper} {rest : List Oper} {o : Oper} {a : Act} {w : World} {Q : Exit → Act → World → Prop} (t e : TypeId) (x : Operand) (i : TypeInfo) (z v : Value) (ho : o.op = .buildSlice t 1 #[(0, x)])
    (hx : a.eval x = v) (ht : P.underlying t = some (.slice e)) (hi : P.info? e = some i) (hz : i.zero = some z)
    (hv : v.cells.size = i.size) (hs : z.cells.size = i.size) (h0 : 0 < i.size) (h1 : i.size ≤ 16777216) (hw : Region.wanted o (yielded ops a.tmps) = true)
    (h : wpList P ops Q rest (a.put o.dst (.slice (some ⟨w.heap.size, 0, none⟩) 1 1)) (w.alloc (.cells v.cells e))) : wpList P ops Q (o :: rest) a w :=
  BigFrame.wpList_want hw fun _ hK => wp_buildSlice_one t e x i z v ho hx ht hi hz hv hs h0 h1 (hK _ _ h)
theorem Sl.of_block {w : World} {g : Nat} {l : List UInt8} {cs : Array Value} {t : TypeId} {fr : Nat × Nat} (h : w.heap[g]? = some (.cells cs t fr)) (hc : cs = (bs l).toArray) (n : Nat) (hn : l.length = n) : Sl w (fun k => k = g) (some ⟨g, 0, none⟩) n n l :=
  ⟨hn, Nat.le_refl _, (fun e => by cases e), (fun ad e _ => by injection e with e; subst e; rfl), by
    have := Rd.of_block h
    rw [hc] at this; simpa using this⟩
end Go.Proofs.Ytohaaejonlijeaa
