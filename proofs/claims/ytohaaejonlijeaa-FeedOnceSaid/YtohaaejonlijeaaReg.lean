/- Words for regions printed by inst.py's @region: the world that is held while a region draws; footprints by intervals. -/
import Derived.Test.YtohaaejonlijeaaOrd3
import Derived.Test.YtohaaejonlijeaaArr
namespace Go.Proofs.Ytohaaejonlijeaa
open Go.RowKit

theorem Below.tr {a b c : World} (h : Below a.heap.size a b) (k : Below b.heap.size b c) : Below a.heap.size a c := h.trans (k.mono h.size)
theorem Below.undr {w w' : World} (h : Below w.drew.heap.size w.drew w') : Below w.heap.size w w' := ⟨h.os, h.tape, h.output, h.size, h.block⟩
theorem Below.dr {w w' : World} (h : Below w.heap.size w w') : Below w.drew.heap.size w.drew w' := ⟨h.os, h.tape, h.output, h.size, h.block⟩
theorem Below.dn {w w' : World} {n : Nat} (h : Below (w.drewN n).heap.size (w.drewN n) w') : Below w.heap.size w w' := ⟨h.os, h.tape, h.output, h.size, h.block⟩
theorem Below.al (w : World) (o : Obj) : Below w.heap.size w (w.alloc o) := (Below.refl _ _).alloc (Nat.le_refl _) o
theorem Below.drN (w : World) (n : Nat) : Below w.heap.size w (w.drewN n) := below_drewN (Below.refl _ _) n
theorem Below.drd (w : World) (n : Nat) : Below w.drew.heap.size w.drew (w.drewN n) := ⟨rfl, rfl, rfl, Nat.le_refl _, fun _ _ => rfl⟩
theorem Below.dnn (w : World) (m n : Nat) : Below (w.drewN m).heap.size (w.drewN m) (w.drewN n) := ⟨rfl, rfl, rfl, Nat.le_refl _, fun _ _ => rfl⟩
theorem Below.dr1 (w : World) : Below w.heap.size w w.drew := ⟨rfl, rfl, rfl, Nat.le_refl _, fun _ _ => rfl⟩
theorem bcellB {W w : World} (h : Below W.heap.size W w) : (∀ p : Addr, p.block < W.heap.size → w.cell? p = W.cell? p) ∧ (∀ p : Addr, p.block < W.heap.size → w.frozen? p = W.frozen? p) :=
  ⟨fun _ hp => h.cell hp, fun _ hp => h.frozen hp⟩
theorem bcellM {M : Nat → Prop} {W w : World} (h : Fr M W w) : (∀ p : Addr, p.block < W.heap.size → ¬ M p.block → w.cell? p = W.cell? p) ∧ (∀ p : Addr, p.block < W.heap.size → ¬ M p.block → w.frozen? p = W.frozen? p) :=
  ⟨fun _ hp hm => World.cell?_of_block (h.block _ hp hm), fun _ hp hm => World.frozen?_of_block (h.block _ hp hm)⟩
theorem Fr.tr {M : Nat → Prop} {a b c : World} (h : Fr M a b) (k : Fr M b c) : Fr M a c := h.trans k (fun _ _ e => e)
theorem Fr.undr {M : Nat → Prop} {w w' : World} (h : Fr M w.drew w') : Fr M w w' := ⟨h.os, h.tape, h.output, h.size, h.block⟩
theorem Fr.ofB {M : Nat → Prop} {a b : World} (h : Below a.heap.size a b) : Fr M a b := Fr.of_below h
theorem rangeAt_fr {w w' : World} {g o : Nat} {cs : List Value} {M : Nat → Prop} (h : w.rangeAt g o cs) (hf : Fr M w w') (hM : ¬ M g) (hlt : g < w.heap.size) : w'.rangeAt g o cs := fun j v hv => by
  rw [World.cell?_of_block (w := w) (hf.block g hlt hM)]; exact h j v hv
theorem rangeAt_bel {w w' : World} {g o : Nat} {cs : List Value} (h : w.rangeAt g o cs) (hb : Below w.heap.size w w') (hlt : g < w.heap.size) : w'.rangeAt g o cs := rangeAt_fr h (Fr.of_below (M := NoB) hb) id hlt
theorem range_dr {w : World} {g o : Nat} {cs : List Value} (h : w.rangeAt g o cs) : w.drew.rangeAt g o cs := h
theorem block_lt_of {w : World} {ad : Addr} {v : Value} (h : w.cell? ad = some v) : ad.block < w.heap.size := World.block_lt_of_cell? _ _ h
theorem cell_fr {w w' : World} {ad : Addr} {v : Value} {M : Nat → Prop} (h : w.cell? ad = some v) (hf : Fr M w w') (hM : ¬ M ad.block) : w'.cell? ad = some v := by
  rw [World.cell?_of_block (w := w) (hf.block _ (block_lt_of h) hM)]; exact h
theorem cell_bel {w w' : World} {ad : Addr} {v : Value} (h : w.cell? ad = some v) (hb : Below w.heap.size w w') : w'.cell? ad = some v := cell_fr h (Fr.of_below (M := NoB) hb) id
theorem heap_bel {w w' : World} {g : Nat} {o : Obj} (h : w.heap[g]? = some o) (hb : Below w.heap.size w w') : w'.heap[g]? = some o := by
  rw [hb.block g (Array.getElem?_eq_some_iff.1 h).1]; exact h

theorem range_block {w : World} {g : Nat} {cs : List Value} {T : Nat} {fr : Nat × Nat} (h : w.heap[g]? = some (.cells cs.toArray T fr)) : w.rangeAt g 0 cs := by
  intro j v hv
  rw [Nat.zero_add, cell_of_row w g j _ _ _ h]; simpa using hv

/-- blocks from lo on, below hi -/
abbrev Iv (lo hi : Nat) : Nat → Prop := fun k => lo ≤ k ∧ k < hi
theorem Sl.bel {w w' : World} {lo hi : Nat} {A : Option Addr} {n c : Nat} {l : List UInt8} (h : Sl w (Iv lo hi) A n c l) (hb : Below w.heap.size w w') (hh : hi ≤ w.heap.size) : Sl w' (Iv lo hi) A n c l :=
  h.fr (Fr.of_below (M := NoB) hb) (fun _ hk => ⟨Nat.lt_of_lt_of_le hk.2 hh, id⟩)
theorem Sl.belF {w w' : World} {F : Nat → Prop} {A : Option Addr} {n c : Nat} {l : List UInt8} (h : Sl w F A n c l) (hb : Below w.heap.size w w') (hF : ∀ k, F k → k < w.heap.size) : Sl w' F A n c l :=
  h.fr (Fr.of_below (M := NoB) hb) (fun _ hk => ⟨hF _ hk, id⟩)
theorem Sl.off {w w' : World} {lo hi a b : Nat} {A : Option Addr} {n c : Nat} {l : List UInt8} (h : Sl w (Iv lo hi) A n c l) (hf : Fr (Iv a b) w w') (hh : hi ≤ w.heap.size) (hd : hi ≤ a ∨ b ≤ lo) : Sl w' (Iv lo hi) A n c l :=
  h.fr hf (fun k hk => ⟨Nat.lt_of_lt_of_le hk.2 hh, fun e => by have := hk.1; have := hk.2; have := e.1; have := e.2; omega⟩)
theorem Sl.own_ {w w' : World} {A : Option Addr} {n c : Nat} {l : List UInt8} (h : w'.ownsRow w.heap.size 5 1 (.slice A n c) n (bs l)) : Sl w' (Iv w.heap.size w'.heap.size) A n c l :=
  (Sl.of_own h).mono (fun _ hk => ⟨hk.1, hk.2.1⟩)
theorem Sl.old {w : World} {A : Option Addr} {n c : Nat} {l : List UInt8} (h : Sl w (Old w) A n c l) : Sl w (Iv 0 w.heap.size) A n c l := h.mono (fun _ hk => ⟨Nat.zero_le _, hk⟩)
theorem Sl.dr {w : World} {F : Nat → Prop} {A : Option Addr} {n c : Nat} {l : List UInt8} (h : Sl w F A n c l) (k : Nat) : Sl (w.drewN k) F A n c l := ⟨h.len, h.cap, h.nil, h.foot, h.rd⟩

section
variable {P : Program} {ops : Array Oper} {Q : Exit → Act → World → Prop} {S : Nat → World → Prop}
/-- one that is guarded and not wanted -/
theorem os_skip {i d : Nat} {r : OS} {o : Oper} {a : Act} {w : World} (ho : ops.toList[i]? = some o) (hw : Region.wanted o (yielded ops a.tmps) = false) (hd : o.dst = some d)
    (h : ∃ a1, a.put (some d) undef = a1 ∧ wpOS P ops Q S r a1 w) : wpOS P ops Q S (.move i r) a w := by
  obtain ⟨a1, ha, h⟩ := h
  exact ⟨o, undef, by simpa using ho, .inr ⟨hw, rfl⟩, by rw [hd, ha]; exact h⟩
/-- a long load taken first in a region that draws -/
theorem os_load_mid {i d : Nat} {r : OS} {o : Oper} {a : Act} {w : World} (T : TypeId) (x : Operand) (b off : Nat) (cs : List Value) (D : TypeDesc)
    (hS : S i w) (ho : ops.toList[i]? = some o) (hw : Region.wanted o (yielded ops a.tmps) = true) (hop : o.op = .load T x) (hd : o.dst = some d) (hx : a.eval x = .pointer (some ⟨b, off, none⟩))
    (hu : P.underlying T = some D) (hrow : D.isRow = true) (hi : (P.info? T).map (·.size) = some cs.length) (hr : ∀ w', S i w' → w'.rangeAt b off cs)
    (h : ∃ a1, a.put (some d) (.agg cs.toArray) = a1 ∧ wpOS P ops Q S r a1 w) : wpOS P ops Q S (.take i r) a w := by
  obtain ⟨a1, ha, h⟩ := h
  refine ⟨hS, o, .agg cs.toArray, by simpa using ho, .inl ⟨hw, fun w' hS' => ?_⟩, by rw [hd, ha]; exact h⟩
  unfold execOp
  simp only [hop, hx, Instr.loadAt, Instr.sureAddr, Sem.run_bind, Sem.run_pure, Result.andThen_ok, run_loadVar_mid w' b off T cs D (hr w' hS') hu hrow hi]
end
end Go.Proofs.Ytohaaejonlijeaa
