/- Bytes of their own in a block. -/
import Derived.Test.YtnejcciociinmaaReg
namespace Go.Proofs.Ytnejcciociinmaa
open Go.RowKit
theorem bs_set (l : List UInt8) (j : Nat) (b : UInt8) : (bs l).set j (bv b) = bs (l.set j b) := by simp [bs, List.map_set]
/-- bytes of its own in a block -/
def ByB (w : World) (T g n : Nat) (l : List UInt8) : Prop := w.ownsRow g T 1 (.slice (some ⟨g, 0, none⟩) n n) n (bs l)
theorem ByB.len {w : World} {T g n : Nat} {l : List UInt8} (h : ByB w T g n l) : l.length = n := by
  have := h.1; rw [bs_length] at this; omega
theorem ByB.set {w : World} {T g n : Nat} {l : List UInt8} (h : ByB w T g n l) (j : Nat) (b : UInt8) : ByB (w.setCell ⟨g, j, none⟩ (bv b)) T g n (l.set j b) := by
  have := (World.ownsRow.stored h j (bv b)).1
  rw [bs_set] at this; exact this
theorem ByB.cell {w : World} {T g n : Nat} {l : List UInt8} (h : ByB w T g n l) {i : Nat} (hi : i < l.length) : w.cell? ⟨g, i, none⟩ = some (bv l[i]) := by
  have hl := h.len
  have := World.ownsRow.cellAt h i (by omega)
  rw [this, bs_get l i hi]
theorem ByB.fr {w w' : World} {T g n : Nat} {l : List UInt8} (h : ByB w T g n l) {M : Nat → Prop} (hf : Fr M w w') (hg : ¬ M g) (hn : 0 < n) : ByB w' T g n l := by
  obtain ⟨g', cap, hv, _, hlt⟩ := World.ownsRow.form h hn
  injection hv with h1 _ _; injection h1 with h1; injection h1 with h1 _; subst h1
  refine ⟨h.1, ?_⟩
  rcases h.2 with ⟨e, _⟩ | ⟨g', cap', cur, e, hb, hh, r⟩
  · cases e
  · injection e with e1 e2 e3; injection e1 with e1; injection e1 with e1 _; subst e1
    exact .inr ⟨g, cap', cur, by rw [e3], hb, by rw [hf.block g hlt hg]; exact hh, r⟩
theorem ByB.heap {w : World} {T g n : Nat} {l : List UInt8} (h : ByB w T g n l) : w.heap[g]? = some (.cells (bs l).toArray T (0, 0)) := by
  rcases h.2 with ⟨e, _⟩ | ⟨g', cap', cur, e, hb, hh, _, _, hs, ht⟩
  · cases e
  · injection e with e1 e2 e3; injection e1 with e1; injection e1 with e1 _; subst e1; subst e3
    rw [hh, ← ht, List.take_of_length_le (by simp [hs])]
theorem ByB.of_block {w : World} {g n T : Nat} {l : List UInt8} {cs : Array Value} (h : w.heap[g]? = some (.cells cs T (0, 0))) (hc : cs = (bs l).toArray) (hn : l.length = n) (hm : n ≤ maxLen) : ByB w T g n l :=
  ⟨by rw [bs_length]; omega, .inr ⟨g, n, cs, rfl, Nat.le_refl _, h, Nat.le_refl _, hm, by rw [hc]; simp [bs_length, hn], by rw [hc]; simp; rw [List.take_of_length_le (by rw [bs_length]; omega)]⟩⟩
theorem ByB.range {w : World} {T g n : Nat} {l : List UInt8} (h : ByB w T g n l) : w.rangeAt g 0 (bs l) := by
  intro j v hv
  have hj : j < (bs l).length := (List.getElem?_eq_some_iff.1 hv).1
  have := h.len
  rw [bs_length] at hj
  rw [Nat.zero_add, World.ownsRow.cellAt h j (by omega)]; exact hv
/-- copy of bytes into a whole block -/
theorem run_copy_blk {w : World} (ty : TypeId) (g off dl dc N T : Nat) (L : List UInt8) (hb : w.heap[g]? = some (.cells (bs L).toArray T (0, 0))) (hL : L.length = N)
    (hfit : off + dl ≤ N) {F : Nat → Prop} {A : Option Addr} {sn sc : Nat} {l : List UInt8} (hs : Sl w F A sn sc l) :
    ∃ w', (Builtin.copy_ #[22, 22] ty #[.slice (some ⟨g, off, none⟩) dl dc, .slice A sn sc]).run Try.prog w = .ok (.int .i64 (min sn dl : Nat)) w' ∧
      w'.heap[g]? = some (.cells (bs (L.take off ++ (l.take dl ++ L.drop (off + min sn dl)))).toArray T (0, 0)) ∧ w.grownBy w' (some g) := by
  obtain ⟨i0, hi, hz0, hz1, hz2⟩ := info_parts Try.infoB
  have hsz : (Try.prog.info? 5).map (·.size) = some 1 := by rw [hi]; simp [hz1]
  have hlen := hs.len
  by_cases h0 : min sn dl = 0
  · refine ⟨w, ?_, ?_, World.grownBy.refl _ _⟩
    · have := run_copy_none (P := Try.prog) w 22 22 ty 5 (some ⟨g, off, none⟩) A dl dc sn sc Try.underlying22 hsz (by simpa [Nat.min_def] using h0)
      rw [this, h0]; rfl
    · have e : l.take dl = [] := by
        rcases Nat.eq_zero_or_pos dl with h | h
        · simp [h]
        · have : sn = 0 := by omega
          have : l = [] := List.eq_nil_of_length_eq_zero (by omega)
          simp [this]
      rw [e, h0]; simpa using hb
  · have hA : A ≠ none := fun e => by have := hs.zero e; omega
    obtain ⟨ad, rfl⟩ := Option.ne_none_iff_exists'.1 hA
    have htl : (l.take dl).length = min sn dl := by rw [List.length_take]; omega
    have hcells : ∀ j v, (bs (l.take dl))[j]? = some v → w.cell? (ad.add j) = some v := by
      intro j v hv
      have : (bs l)[j]? = some v := by
        simp only [bs, List.map_take] at hv ⊢
        rw [List.getElem?_take] at hv
        split at hv
        · exact hv
        · cases hv
      obtain ⟨ad', e3, hc⟩ := hs.rd j v this
      injection e3 with e3; subst e3; exact hc
    have hrun := run_copy_row (P := Try.prog) w 22 22 ty 5 g off dl dc ad sn sc (bs L).toArray T (bs (l.take dl)) Try.underlying22 hsz hb
      (by rw [bs_length, htl]) hcells (by rw [bs_length, htl]; simp [bs_length]; omega) (bs_oneCell _)
    rw [bs_length, htl] at hrun
    refine ⟨_, hrun, ?_, ⟨rfl, rfl, rfl, by simp, fun k _ hk => setRow_other w g k _ (fun e => hk (by rw [e]))⟩⟩
    rw [setRow_heap w g _ _ _ _ hb]
    simp [bs_append, bs, List.map_take, List.map_drop]
theorem copy_blk {w : World} {ops : Array Oper} {rest : List Oper} {o : Oper} {a : Act} {Q : Exit → Act → World → Prop} (d s : Operand)
    (ho : o.op = .call { callee := .builtin .copy, args := #[d, s], argTypes := #[22, 22] })
    (g off dl dc N T : Nat) (L : List UInt8) (hd : a.eval d = .slice (some ⟨g, off, none⟩) dl dc) (hb : w.heap[g]? = some (.cells (bs L).toArray T (0, 0))) (hL : L.length = N)
    (hfit : off + dl ≤ N) {F : Nat → Prop} {A : Option Addr} {sn sc : Nat} {l : List UInt8} (hsv : a.eval s = .slice A sn sc) (hs : Sl w F A sn sc l) (hw : Region.wanted o (yielded ops a.tmps) = true)
    (h : ∀ w', Hid (w'.heap[g]? = some (.cells (bs (L.take off ++ (l.take dl ++ L.drop (off + min sn dl)))).toArray T (0, 0))) → w.grownBy w' (some g) →
      wpList Try.prog ops Q rest (a.put o.dst (.int .i64 (min sn dl : Nat))) w') : wpList Try.prog ops Q (o :: rest) a w := by
  refine BigFrame.wpList_want hw fun K hK => ?_
  obtain ⟨w', hrun, h2, h3⟩ := run_copy_blk o.type g off dl dc N T L hb hL hfit hs
  unfold Oper.wp
  simp [execOp, ho, resolve, invoke, builtin, hd, hsv, hrun, Result.andThen]
  exact hK _ _ (h w' (Lib.hid h2) h3)
theorem results_cell {P : Program} {fn : Func} {tmps : Array Value} {w : World} {k T g : Nat} {v : Value} (hf : fn.results = #[.cell k T]) (ht : tmps.getD k undef = .pointer (some ⟨g, 0, none⟩))
    (hl : (loadVar T ⟨g, 0, none⟩).run P w = .ok v w) : (results fn tmps).run P w = .ok v w := by
  unfold results
  rw [hf]
  simp only [Array.getD_eq_getD_getElem?] at ht
  simp [ht, asAddr, hl]
theorem lst_index {P : Program} {ops : Array Oper} {rest : List Oper} {o : Oper} {a : Act} {w : World} {Q : Exit → Act → World → Prop} (T : TypeId) (x y : Operand) (ho : o.op = .index T x y) (X Y v : Value) (hx : a.eval x = X) (hy : a.eval y = Y)
    (hr : (Instr.index T X Y).run P w = .ok v w) (hw : Region.wanted o (yielded ops a.tmps) = true) (h : wpList P ops Q rest (a.put o.dst v) w) : wpList P ops Q (o :: rest) a w :=
  BigFrame.wpList_want hw fun K hK => by
    unfold Oper.wp execOp
    simp only [ho, hx, hy, Sem.run_bind, hr, Result.andThen_ok, Sem.run_pure]
    exact hK _ _ h
/-- an alloc, told by the slot it fills -/
theorem lst_alloc_d {P : Program} {ops : Array Oper} {rest : List Oper} {o : Oper} {a : Act} {w : World} {Q : Exit → Act → World → Prop} (d : Nat) (hd : o.dst = some d) (T : TypeId) (ho : o.op = .alloc T) (i : TypeInfo) (z : Value) (hi : P.info? T = some i) (hz : i.zero = some z) (hw : Region.wanted o (yielded ops a.tmps) = true)
    (hk : ∀ g w', Hid (g = w.heap.size ∧ w'.heap.size = w.heap.size + 1) → Hid (w'.heap[g]? = some (.cells z.cells T (0, 0))) → Below w.heap.size w w' → wpList P ops Q rest (a.put (some d) (.pointer (some ⟨g, 0, none⟩))) w') : wpList P ops Q (o :: rest) a w :=
  lst_alloc_abs T ho i z hi hz hw (by rw [hd]; exact hk)
end Go.Proofs.Ytnejcciociinmaa
