/- A block. -/
import Derived.Test.YtklclbppdoahjaaCh4
import Derived.Test.YtklclbppdoahjaaByb
namespace Go.Proofs.Ytklclbppdoahjaa
set_option maxRecDepth 100000
open Go.RowKit
attribute [local go_sem] yld yldUpon_value

def byteOf (x : BitVec 32) (k : Nat) : UInt8 := UInt8.ofNat (x.toNat / 2 ^ (8 * k))
/-- the words, their bytes -/
def outP (S B : List (BitVec 32)) : List UInt8 := (List.range 64).map fun j => byteOf (gw S (j / 4) + gw B (j / 4)) (j % 4)
theorem outP_len (S B : List (BitVec 32)) : (outP S B).length = 64 := by simp [outP]
def blockP (key : List UInt8) (ctr : BitVec 32) (nonce : List UInt8) : List UInt8 := outP (turns (beginP key ctr nonce) 80) (beginP key ctr nonce)
theorem bv_byteOf (x : BitVec 32) (k : Nat) : Value.int .u8 (wv x / 2 ^ (8 * k) % 256) = bv (byteOf x k) := by
  have e : wv x / 2 ^ (8 * k) = ((x.toNat / 2 ^ (8 * k) : Nat) : Int) := by simp [wv]
  rw [e]
  have e2 : (byteOf x k).toNat = x.toNat / 2 ^ (8 * k) % 256 := UInt8.toNat_ofNat'
  unfold bv
  rw [e2]
  rfl
theorem outP_get (S B : List (BitVec 32)) (i k : Nat) (hi : i < 16) (hk : k < 4) (h : 4 * i + k < (outP S B).length) : (outP S B)[4 * i + k] = byteOf (gw S i + gw B i) k := by
  have e : (outP S B)[4 * i + k]? = some (byteOf (gw S i + gw B i) k) := by
    unfold outP
    rw [List.getElem?_map, List.getElem?_range (by omega)]
    simp only [Option.map_some]
    rw [show (4 * i + k) / 4 = i by omega, show (4 * i + k) % 4 = k by omega]
  rw [List.getElem?_eq_getElem h] at e
  exact Option.some.inj e
theorem blockP_len (key : List UInt8) (ctr : BitVec 32) (nonce : List UInt8) : (blockP key ctr nonce).length = 64 := outP_len _ _
def partB (L : List UInt8) (j : Nat) : List UInt8 := L.take j ++ List.replicate (64 - j) 0
theorem partB_set (L : List UInt8) (hL : L.length = 64) (j : Nat) (hj : j < 64) : (partB L j).set j L[j] = partB L (j + 1) := by
  unfold partB
  rw [List.set_append_right _ _ (by simp; omega)]
  rw [show j - (L.take j).length = 0 by simp; omega]
  rw [show 64 - j = (64 - (j + 1)) + 1 by omega, List.replicate_succ, List.set_cons_zero]
  rw [List.take_succ_eq_append_getElem (i := j) (by omega)]
  rw [List.append_assoc]
  simp [show 64 - (j + 1) = 63 - j by omega]
theorem partB_len (L : List UInt8) (hL : L.length = 64) (j : Nat) (hj : j ≤ 64) : (partB L j).length = 64 := by simp [partB]; omega
theorem SqB.heap {w : World} {T g n : Nat} {l : List (BitVec 32)} (h : SqB w T g n n l) : w.heap[g]? = some (.cells (wl l).toArray T (0, 0)) := by
  rcases h.2 with ⟨e, _⟩ | ⟨g', cap', cur, e, hb, hh, _, _, hs, ht⟩
  · cases e
  · injection e with e1 e2 e3; injection e1 with e1; injection e1 with e1 _; subst e1; subst e3
    rw [hh, ← ht, List.take_of_length_le (by simp [hs])]
theorem SqB.of_block {w : World} {g n T : Nat} {l : List (BitVec 32)} {cs : Array Value} (h : w.heap[g]? = some (.cells cs T (0, 0))) (hc : cs = (wl l).toArray) (hn : l.length = n) (hm : n ≤ maxLen) : SqB w T g n n l :=
  ⟨by rw [wl_length]; omega, .inr ⟨g, n, cs, rfl, Nat.le_refl _, h, Nat.le_refl _, hm, by rw [hc]; simp [wl_length, hn], by rw [hc]; simp; rw [List.take_of_length_le (by rw [wl_length]; omega)]⟩⟩
theorem SqB.range {w : World} {T g n : Nat} {l : List (BitVec 32)} (h : SqB w T g n n l) : w.rangeAt g 0 (wl l) := by
  intro j v hv
  have hj : j < (wl l).length := (List.getElem?_eq_some_iff.1 hv).1
  have := h.len
  rw [wl_length] at hj
  rw [Nat.zero_add, World.ownsRow.cellAt h j (by omega)]; exact hv
theorem Try.infoW : (Try.prog.info? 49).map (fun i => (i.zero, i.size, i.bytes)) = some (some (.int .u32 0), 1, 4) := by kernel_rfl
theorem run_index_sq (w : World) (T n : Nat) (l : List (BitVec 32)) (hu : Try.prog.underlying T = some (.array n 49)) (hn : l.length = n) (i : Nat) (h : i < n) :
    (Instr.index T (.agg (wl l).toArray) (.int .i64 i)).run Try.prog w = .ok (.int .u32 (wv (gw l i))) w := by
  obtain ⟨i0, hi, hz0, hz1, hz2⟩ := info_parts Try.infoW
  have e : (wl l).toArray[i * 1]? = some (.int .u32 (wv (gw l i))) := by
    rw [gw_eq (by omega)]; simp [wl, hn, h]
  have hag : (isAgg 49).run Try.prog w = .ok false w := by
    unfold isAgg
    simp [run_underlying Try.underlying49]
  have hp : (part 49 (wl l).toArray (i * 1)).run Try.prog w = .ok (.int .u32 (wv (gw l i))) w := by
    unfold part
    simp only [Sem.run_bind, hag, Result.andThen_ok, e]
    simp
  have hsz : (sizeOf 49).run Try.prog w = .ok 1 w := by
    unfold sizeOf typeInfo
    simp [hi, hz1]
  unfold Instr.index
  simp only [asIntOf, Sem.run_bind, Sem.run_pure, Result.andThen_ok, run_underlying hu]
  rw [if_pos ⟨by omega, by omega⟩]
  simp only [Sem.run_bind, hsz, Result.andThen_ok, Int.toNat_natCast]
  exact hp
theorem run_index_by (w : World) (T n : Nat) (l : List UInt8) (hu : Try.prog.underlying T = some (.array n 5)) (hn : l.length = n) (i : Nat) (h : i < l.length) :
    (Instr.index T (.agg (bs l).toArray) (.int .i64 i)).run Try.prog w = .ok (bv l[i]) w := by
  obtain ⟨i0, hi, hz0, hz1, hz2⟩ := info_parts Try.infoB
  have hsz : (sizeOf 5).run Try.prog w = .ok 1 w := by
    unfold sizeOf typeInfo
    simp [hi, hz1]
  unfold Instr.index
  simp only [asIntOf, Sem.run_bind, Sem.run_pure, Result.andThen_ok, run_underlying hu]
  rw [if_pos ⟨by omega, by omega⟩]
  simp only [Sem.run_bind, hsz, Result.andThen_ok, Int.toNat_natCast]
  exact run_part_byte w l i h
theorem Try.infoO : (Try.prog.info? 61).map (fun i => (i.zero, i.size, i.bytes)) = some (some (.agg (bs (List.replicate 64 0)).toArray), 64, 64) := by kernel_rfl
theorem Try.infoS : (Try.prog.info? 91).map (fun i => (i.zero, i.size, i.bytes)) = some (some (.agg (wl (List.replicate 16 0)).toArray), 16, 64) := by kernel_rfl
theorem Try.sizeK : (Try.prog.info? 23).map (·.size) = some 32 := by kernel_rfl
theorem Try.sizeN : (Try.prog.info? 25).map (·.size) = some 12 := by kernel_rfl
theorem Try.sizeS : (Try.prog.info? 91).map (·.size) = some 16 := by kernel_rfl
theorem Try.sizeO : (Try.prog.info? 61).map (·.size) = some 64 := by kernel_rfl
end Go.Proofs.Ytklclbppdoahjaa
