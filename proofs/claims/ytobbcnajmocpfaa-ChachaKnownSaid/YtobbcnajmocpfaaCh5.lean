/- A block. -/
import Derived.Test.YtobbcnajmocpfaaCh4
namespace Go.Proofs.Ytobbcnajmocpfaa
open Go.RowKit
attribute [local go_sem] yld yldUpon_value

def byteOf (x : BitVec 32) (k : Nat) : UInt8 := UInt8.ofNat (x.toNat / 2 ^ (8 * k))
/-- the words, their bytes -/
def outP (S B : List (BitVec 32)) : List UInt8 := (List.range 64).map fun j => byteOf (gw S (j / 4) + gw B (j / 4)) (j % 4)
theorem outP_len (S B : List (BitVec 32)) : (outP S B).length = 64 := by simp [outP]
def blockP (key : List UInt8) (ctr : BitVec 32) (nonce : List UInt8) : List UInt8 := outP (turns (beginP key ctr nonce) 80) (beginP key ctr nonce)
theorem bv_byteOf (x : BitVec 32) (k : Nat) : Value.int .u8 (wv x / 2 ^ (8 * k) % 256) = bv (byteOf x k) := by
  have e : wv x / 2 ^ (8 * k) = ((x.toNat / 2 ^ (8 * k) : Nat) : Int) := by simp [wv]
  rw [e]
  have e2 : (byteOf x k).toNat = x.toNat / 2 ^ (8 * k) % 256 := UInt8.toNat_ofNat'
  unfold bv
  rw [e2]
  rfl
theorem outP_get (S B : List (BitVec 32)) (i k : Nat) (hi : i < 16) (hk : k < 4) (h : 4 * i + k < (outP S B).length) : (outP S B)[4 * i + k] = byteOf (gw S i + gw B i) k := by
  have e : (outP S B)[4 * i + k]? = some (byteOf (gw S i + gw B i) k) := by
    unfold outP
    rw [List.getElem?_map, List.getElem?_range (by omega)]
    simp only [Option.map_some]
    rw [show (4 * i + k) / 4 = i by omega, show (4 * i + k) % 4 = k by omega]
  rw [List.getElem?_eq_getElem h] at e
  exact Option.some.inj e
theorem blockP_len (key : List UInt8) (ctr : BitVec 32) (nonce : List UInt8) : (blockP key ctr nonce).length = 64 := outP_len _ _
def partB (L : List UInt8) (j : Nat) : List UInt8 := L.take j ++ List.replicate (64 - j) 0
theorem partB_set (L : List UInt8) (hL : L.length = 64) (j : Nat) (hj : j < 64) : (partB L j).set j L[j] = partB L (j + 1) := by
  unfold partB
  rw [List.set_append_right _ _ (by simp; omega)]
  rw [show j - (L.take j).length = 0 by simp; omega]
  rw [show 64 - j = (64 - (j + 1)) + 1 by omega, List.replicate_succ, List.set_cons_zero]
  rw [List.take_succ_eq_append_getElem (i := j) (by omega)]
  rw [List.append_assoc]
  simp [show 64 - (j + 1) = 63 - j by omega]
theorem partB_len (L : List UInt8) (hL : L.length = 64) (j : Nat) (hj : j ≤ 64) : (partB L j).length = 64 := by simp [partB]; omega
theorem bs_set (l : List UInt8) (j : Nat) (b : UInt8) : (bs l).set j (bv b) = bs (l.set j b) := by simp [bs, List.map_set]
/-- bytes of its own in a block -/
def ByB (w : World) (T g n : Nat) (l : List UInt8) : Prop := w.ownsRow g T 1 (.slice (some ⟨g, 0, none⟩) n n) n (bs l)
theorem ByB.len {w : World} {T g n : Nat} {l : List UInt8} (h : ByB w T g n l) : l.length = n := by
  have := h.1; rw [bs_length] at this; omega
theorem ByB.set {w : World} {T g n : Nat} {l : List UInt8} (h : ByB w T g n l) (j : Nat) (b : UInt8) : ByB (w.setCell ⟨g, j, none⟩ (bv b)) T g n (l.set j b) := by
  have := (World.ownsRow.stored h j (bv b)).1
  rw [bs_set] at this; exact this
theorem ByB.cell {w : World} {T g n : Nat} {l : List UInt8} (h : ByB w T g n l) {i : Nat} (hi : i < l.length) : w.cell? ⟨g, i, none⟩ = some (bv l[i]) := by
  have hl := h.len
  have := World.ownsRow.cellAt h i (by omega)
  rw [this, bs_get l i hi]
theorem ByB.fr {w w' : World} {T g n : Nat} {l : List UInt8} (h : ByB w T g n l) {M : Nat → Prop} (hf : Fr M w w') (hg : ¬ M g) (hn : 0 < n) : ByB w' T g n l := by
  obtain ⟨g', cap, hv, _, hlt⟩ := World.ownsRow.form h hn
  injection hv with h1 _ _; injection h1 with h1; injection h1 with h1 _; subst h1
  refine ⟨h.1, ?_⟩
  rcases h.2 with ⟨e, _⟩ | ⟨g', cap', cur, e, hb, hh, r⟩
  · cases e
  · injection e with e1 e2 e3; injection e1 with e1; injection e1 with e1 _; subst e1
    exact .inr ⟨g, cap', cur, by rw [e3], hb, by rw [hf.block g hlt hg]; exact hh, r⟩
theorem ByB.heap {w : World} {T g n : Nat} {l : List UInt8} (h : ByB w T g n l) : w.heap[g]? = some (.cells (bs l).toArray T (0, 0)) := by
  rcases h.2 with ⟨e, _⟩ | ⟨g', cap', cur, e, hb, hh, _, _, hs, ht⟩
  · cases e
  · injection e with e1 e2 e3; injection e1 with e1; injection e1 with e1 _; subst e1; subst e3
    rw [hh, ← ht, List.take_of_length_le (by simp [hs])]
theorem ByB.of_block {w : World} {g n T : Nat} {l : List UInt8} {cs : Array Value} (h : w.heap[g]? = some (.cells cs T (0, 0))) (hc : cs = (bs l).toArray) (hn : l.length = n) (hm : n ≤ maxLen) : ByB w T g n l :=
  ⟨by rw [bs_length]; omega, .inr ⟨g, n, cs, rfl, Nat.le_refl _, h, Nat.le_refl _, hm, by rw [hc]; simp [bs_length, hn], by rw [hc]; simp; rw [List.take_of_length_le (by rw [bs_length]; omega)]⟩⟩
theorem SqB.heap {w : World} {T g n : Nat} {l : List (BitVec 32)} (h : SqB w T g n n l) : w.heap[g]? = some (.cells (wl l).toArray T (0, 0)) := by
  rcases h.2 with ⟨e, _⟩ | ⟨g', cap', cur, e, hb, hh, _, _, hs, ht⟩
  · cases e
  · injection e with e1 e2 e3; injection e1 with e1; injection e1 with e1 _; subst e1; subst e3
    rw [hh, ← ht, List.take_of_length_le (by simp [hs])]
theorem SqB.of_block {w : World} {g n T : Nat} {l : List (BitVec 32)} {cs : Array Value} (h : w.heap[g]? = some (.cells cs T (0, 0))) (hc : cs = (wl l).toArray) (hn : l.length = n) (hm : n ≤ maxLen) : SqB w T g n n l :=
  ⟨by rw [wl_length]; omega, .inr ⟨g, n, cs, rfl, Nat.le_refl _, h, Nat.le_refl _, hm, by rw [hc]; simp [wl_length, hn], by rw [hc]; simp; rw [List.take_of_length_le (by rw [wl_length]; omega)]⟩⟩
theorem SqB.range {w : World} {T g n : Nat} {l : List (BitVec 32)} (h : SqB w T g n n l) : w.rangeAt g 0 (wl l) := by
  intro j v hv
  have hj : j < (wl l).length := (List.getElem?_eq_some_iff.1 hv).1
  have := h.len
  rw [wl_length] at hj
  rw [Nat.zero_add, World.ownsRow.cellAt h j (by omega)]; exact hv
theorem ByB.range {w : World} {T g n : Nat} {l : List UInt8} (h : ByB w T g n l) : w.rangeAt g 0 (bs l) := by
  intro j v hv
  have hj : j < (bs l).length := (List.getElem?_eq_some_iff.1 hv).1
  have := h.len
  rw [bs_length] at hj
  rw [Nat.zero_add, World.ownsRow.cellAt h j (by omega)]; exact hv
theorem range_block {w : World} {g : Nat} {cs : List Value} {T : Nat} {fr : Nat × Nat} (h : w.heap[g]? = some (.cells cs.toArray T fr)) : w.rangeAt g 0 cs := by
  intro j v hv
  rw [Nat.zero_add, cell_of_row w g j _ _ _ h]; simpa using hv
theorem Try.infoW : (Try.prog.info? 24).map (fun i => (i.zero, i.size, i.bytes)) = some (some (.int .u32 0), 1, 4) := by kernel_rfl
theorem run_index_sq (w : World) (T n : Nat) (l : List (BitVec 32)) (hu : Try.prog.underlying T = some (.array n 24)) (hn : l.length = n) (i : Nat) (h : i < n) :
    (Instr.index T (.agg (wl l).toArray) (.int .i64 i)).run Try.prog w = .ok (.int .u32 (wv (gw l i))) w := by
  obtain ⟨i0, hi, hz0, hz1, hz2⟩ := info_parts Try.infoW
  have e : (wl l).toArray[i * 1]? = some (.int .u32 (wv (gw l i))) := by
    rw [gw_eq (by omega)]; simp [wl, hn, h]
  have hag : (isAgg 24).run Try.prog w = .ok false w := by
    unfold isAgg
    simp [run_underlying Try.underlying24]
  have hp : (part 24 (wl l).toArray (i * 1)).run Try.prog w = .ok (.int .u32 (wv (gw l i))) w := by
    unfold part
    simp only [Sem.run_bind, hag, Result.andThen_ok, e]
    simp
  have hsz : (sizeOf 24).run Try.prog w = .ok 1 w := by
    unfold sizeOf typeInfo
    simp [hi, hz1]
  unfold Instr.index
  simp only [asIntOf, Sem.run_bind, Sem.run_pure, Result.andThen_ok, run_underlying hu]
  rw [if_pos ⟨by omega, by omega⟩]
  simp only [Sem.run_bind, hsz, Result.andThen_ok, Int.toNat_natCast]
  exact hp
theorem run_index_by (w : World) (T n : Nat) (l : List UInt8) (hu : Try.prog.underlying T = some (.array n 5)) (hn : l.length = n) (i : Nat) (h : i < l.length) :
    (Instr.index T (.agg (bs l).toArray) (.int .i64 i)).run Try.prog w = .ok (bv l[i]) w := by
  obtain ⟨i0, hi, hz0, hz1, hz2⟩ := info_parts Try.infoB
  have hsz : (sizeOf 5).run Try.prog w = .ok 1 w := by
    unfold sizeOf typeInfo
    simp [hi, hz1]
  unfold Instr.index
  simp only [asIntOf, Sem.run_bind, Sem.run_pure, Result.andThen_ok, run_underlying hu]
  rw [if_pos ⟨by omega, by omega⟩]
  simp only [Sem.run_bind, hsz, Result.andThen_ok, Int.toNat_natCast]
  exact run_part_byte w l i h
theorem lst_index {P : Program} {ops : Array Oper} {rest : List Oper} {o : Oper} {a : Act} {w : World} {Q : Exit → Act → World → Prop} (T : TypeId) (x y : Operand) (ho : o.op = .index T x y) (X Y v : Value) (hx : a.eval x = X) (hy : a.eval y = Y)
    (hr : (Instr.index T X Y).run P w = .ok v w) (hw : Region.wanted o (yielded ops a.tmps) = true) (h : wpList P ops Q rest (a.put o.dst v) w) : wpList P ops Q (o :: rest) a w :=
  BigFrame.wpList_want hw fun K hK => by
    unfold Oper.wp execOp
    simp only [ho, hx, hy, Sem.run_bind, hr, Result.andThen_ok, Sem.run_pure]
    exact hK _ _ h
/-- an alloc, told by the slot it fills -/
theorem lst_alloc_d {P : Program} {ops : Array Oper} {rest : List Oper} {o : Oper} {a : Act} {w : World} {Q : Exit → Act → World → Prop} (d : Nat) (hd : o.dst = some d) (T : TypeId) (ho : o.op = .alloc T) (i : TypeInfo) (z : Value) (hi : P.info? T = some i) (hz : i.zero = some z) (hw : Region.wanted o (yielded ops a.tmps) = true)
    (hk : ∀ g w', Hid (g = w.heap.size ∧ w'.heap.size = w.heap.size + 1) → Hid (w'.heap[g]? = some (.cells z.cells T (0, 0))) → Below w.heap.size w w' → wpList P ops Q rest (a.put (some d) (.pointer (some ⟨g, 0, none⟩))) w') : wpList P ops Q (o :: rest) a w :=
  lst_alloc_abs T ho i z hi hz hw (by rw [hd]; exact hk)
theorem Try.infoO : (Try.prog.info? 27).map (fun i => (i.zero, i.size, i.bytes)) = some (some (.agg (bs (List.replicate 64 0)).toArray), 64, 64) := by kernel_rfl
theorem Try.infoS : (Try.prog.info? 46).map (fun i => (i.zero, i.size, i.bytes)) = some (some (.agg (wl (List.replicate 16 0)).toArray), 16, 64) := by kernel_rfl
theorem Try.sizeK : (Try.prog.info? 23).map (·.size) = some 32 := by kernel_rfl
theorem Try.sizeN : (Try.prog.info? 26).map (·.size) = some 12 := by kernel_rfl
theorem Try.sizeS : (Try.prog.info? 46).map (·.size) = some 16 := by kernel_rfl
theorem Try.sizeO : (Try.prog.info? 27).map (·.size) = some 64 := by kernel_rfl
end Go.Proofs.Ytobbcnajmocpfaa
