/- Arms of the walk within a fence: long loads, stores, allocs, indices. -/
import Derived.Test.YtklclbppdoahjaaRgF
import Derived.Test.YtklclbppdoahjaaArr
import Derived.BigFrameIn
namespace Go.Proofs.Ytklclbppdoahjaa
set_option maxRecDepth 100000
open Go.RowKit
abbrev WideF (F : Fence) : Prop := F = Fence.wide ∨ ∃ l, F = Fence.wide.inRound l
section
variable {P : Program} {Q : Exit → Act → World → Prop} {F : Fence} {n : Nat}
theorem op_in0 {o : Oper} {a : Act} {w : World} {K : Act → World → Prop} (h : o.wp P a w K Q) : o.wpIn Fence.wide n P a w K Q := by
  refine ⟨fun f _ => trivial, ?_⟩
  show o.uponIn _ n P a K Q ((Oper.semAt none a.eval o).run P w)
  have e : Oper.semAt none a.eval o = execOp a.eval o := by simp [Oper.semAt]
  rw [e]
  unfold Oper.wp at h
  generalize (execOp a.eval o).run P w = r at h
  cases r with
  | ok x w' =>
    cases x <;> simp only [Oper.upon] at h <;> simp only [Oper.uponIn] <;> first
      | exact h
      | exact ⟨fun h => (by cases h), callsIn_wide.2 h⟩
      | exact ⟨fun h => (by cases h), fun c cs _ => (by
          obtain ⟨v, w2, hr, hs⟩ := h c cs
          exact ⟨v, w2, hr, stepsIn_wide.2 hs⟩)⟩
  | halt x w' => cases x <;> simp only [Oper.upon] at h <;> simp only [Oper.uponIn] <;> exact h
theorem op_inW (hF : WideF F) {o : Oper} {a : Act} {w : World} {K : Act → World → Prop} (hd : ∀ c, o.op ≠ .defer c) (h : o.wp P a w K Q) : o.wpIn F n P a w K Q := by
  rcases hF with rfl | ⟨l, rfl⟩
  · exact op_in0 h
  · exact op_in hd h
variable {ops : Array Oper} {rest : List Oper} {o : Oper} {a : Act} {w : World}
theorem lin_load_mid (hF : WideF F) (T : TypeId) (x : Operand) (ho : o.op = .load T x) (b off : Nat) (hx : a.eval x = .pointer (some ⟨b, off, none⟩)) (cs : List Value) (d : TypeDesc) (hc : w.rangeAt b off cs)
    (hu : P.underlying T = some d) (hd : d.isRow = true) (hi : (P.info? T).map (·.size) = some cs.length) (hw : Region.wanted o (yielded ops a.tmps) = true)
    (h : wpListIn F n P ops Q rest (a.put o.dst (.agg cs.toArray)) w) : wpListIn F n P ops Q (o :: rest) a w :=
  BigFrame.wpListIn_want hw fun _ hK => op_inW hF (by rw [ho]; intro c e; cases e) (wp_load_mid T x ho b off hx cs d hc hu hd hi (hK _ _ h))
theorem lin_alloc_d (hF : WideF F) (d : Nat) (hd : o.dst = some d) (T : TypeId) (ho : o.op = .alloc T) (i : TypeInfo) (z : Value) (hi : P.info? T = some i) (hz : i.zero = some z) (hw : Region.wanted o (yielded ops a.tmps) = true)
    (hk : ∀ g w', Hid (g = w.heap.size ∧ w'.heap.size = w.heap.size + 1) → Hid (w'.heap[g]? = some (.cells z.cells T (0, 0))) → Below w.heap.size w w' → wpListIn F n P ops Q rest (a.put (some d) (.pointer (some ⟨g, 0, none⟩))) w') : wpListIn F n P ops Q (o :: rest) a w :=
  BigFrame.wpListIn_want hw fun _ hK => op_inW hF (by rw [ho]; intro c e; cases e) (wp_alloc_abs T ho i z hi hz fun g w' h1 h2 h3 => hK _ _ (by rw [hd]; exact hk g w' h1 h2 h3))
theorem lin_store_abs (hF : WideF F) (T : TypeId) (x y : Operand) (ho : o.op = .store T x y) (g : Nat) (t : TypeId) (c c' : Array Value)
    (hx : a.eval x = .pointer (some ⟨g, 0, none⟩)) (hy : a.eval y = .agg c') (hg : w.heap[g]? = some (.cells c t (0, 0))) (hi : (P.info? T).map (·.size) = some c'.size) (hc : c.size = c'.size) (h1 : c'.all (·.oneCell') = true)
    (hw : Region.wanted o (yielded ops a.tmps) = true)
    (hk : ∀ w', Hid (w'.heap[g]? = some (.cells c' t (0, 0))) → w.grownBy w' (some g) → wpListIn F n P ops Q rest (a.put o.dst undef) w') : wpListIn F n P ops Q (o :: rest) a w :=
  BigFrame.wpListIn_want hw fun _ hK => op_inW hF (by rw [ho]; intro c e; cases e) (wp_store_abs T x y ho g t c c' hx hy hg hi hc h1 fun w' h2 h3 => hK _ _ (hk w' h2 h3))
theorem lin_index (hF : WideF F) (T : TypeId) (x y : Operand) (ho : o.op = .index T x y) (X Y v : Value) (hx : a.eval x = X) (hy : a.eval y = Y)
    (hr : (Instr.index T X Y).run P w = .ok v w) (hw : Region.wanted o (yielded ops a.tmps) = true) (h : wpListIn F n P ops Q rest (a.put o.dst v) w) : wpListIn F n P ops Q (o :: rest) a w :=
  BigFrame.wpListIn_want hw fun K hK => op_inW hF (by rw [ho]; intro c e; cases e) (by
    unfold Oper.wp execOp
    simp only [ho, hx, hy, Sem.run_bind, hr, Result.andThen_ok, Sem.run_pure]
    exact hK _ _ h)
end
end Go.Proofs.Ytklclbppdoahjaa
