/- The disk: what a walk holds of one; bytes of a constant. -/
import Derived.Test.YtjfnpndpigpaiaaDk13
import Derived.Lib.SlBytesConst
namespace Go.Proofs.Ytjfnpndpigpaiaa
open Go.RowKit

/-- a disk, its blocks new since w0 -/
structure DS (w0 w : World) (g : Nat) (D : DD) (vs : Vs) : Prop where
  disk : DiskAt w g D vs
  ok : DOK D
  foot : ∀ k, dfoot g vs k → w0.heap.size ≤ k
  bel : Below w0.heap.size w0 w
theorem DS.old {w0 w w' : World} {g : Nat} {D : DD} {vs : Vs} (h : DS w0 w g D vs) (hb : Below w.heap.size w w') : DS w0 w' g D vs := ⟨h.disk.bel hb, h.ok, h.foot, Below.tr h.bel hb⟩
theorem DS.step {w0 w w' : World} {g : Nat} {D D' : DD} {vs : Vs} (h : DS w0 w g D vs) (hs : Dstep g vs w w' D') (ok : DOK D') : ∃ vs', DS w0 w' g D' vs' ∧ Fr (dfoot g vs) w w' ∧ ∀ k, dfoot g vs' k → dfoot g vs k ∨ w.heap.size ≤ k := by
  obtain ⟨vs', h1, h2, h3⟩ := hs
  refine ⟨vs', ⟨h1, ok, fun k hk => ?_, ?_⟩, h2, h3⟩
  · rcases h3 k hk with hk | hk
    · exact h.foot k hk
    · exact Nat.le_trans h.bel.size hk
  · exact ((Fr.of_below h.bel).trans h2 (fun _ _ e => e)).to_below (fun i hi e => by have := h.foot i e; omega)
/-- a constant's bytes: a block of their own, new -/
theorem const_sl (w : World) (l : List UInt8) (fr : Nat × Nat) (n : Nat) (hn : l.length = n) : Sl (w.alloc (.cells (bs l).toArray 5 fr)) (fun k => k = w.heap.size) (some ⟨w.heap.size, 0, none⟩) n n l := Sl.of_block (heap_alloc_new w _) rfl n hn
theorem q_const (w : World) (C : Array Value) (n c : Nat) : (convert 31 31 (.slice (some ⟨w.heap.size, 0, none⟩) n c)).run Try.prog (w.alloc (.cells C 5)) = .ok (.slice (some ⟨w.heap.size, 0, none⟩) n c) (w.alloc (.cells C 5 (C.size, C.size + 1))) :=
  Lib.run_convert_bytes_const (P := Try.prog) w 31 5 C n c Try.underlying31 Try.underlying5
theorem not_foot_of {w0 w : World} {g : Nat} {D : DD} {vs : Vs} (h : DS w0 w g D vs) {k : Nat} (hk : k < w0.heap.size) : ¬ dfoot g vs k := fun x => by have := h.foot k x; omega

def kd0 : DD := newD 10
def kd1 : DD := (writeD kd0 1 [97, 98, 99, 100]).2
def kd2 : DD := (syncD kd1 1).2
def kd3 : DD := (writeD kd2 1 [101, 102, 103]).2
def kd4 : DD := (writeD kd3 2 [104, 105, 106, 107]).2
def kd5 : DD := crashD kd4 [1]
theorem kd_e1 : (writeD kd0 1 [97, 98, 99, 100]).1 = 0 := by kernel_rfl
theorem kd_e2 : (syncD kd1 1).1 = 0 := by kernel_rfl
theorem kd_e3 : (writeD kd2 1 [101, 102, 103]).1 = 0 := by kernel_rfl
theorem kd_e4 : (writeD kd3 2 [104, 105, 106, 107]).1 = 8 := by kernel_rfl
theorem kd_read : readD kd5 1 = [97, 98, 99, 100, 101] := by kernel_rfl
theorem kd_used : usedL kd5.fs = 5 := by kernel_rfl
theorem kd_count : kd5.done = 3 := by kernel_rfl
theorem kd_done : kd0.done = 0 ∧ kd1.done = 1 ∧ kd2.done = 2 ∧ kd3.done = 3 := by refine ⟨?_, ?_, ?_, ?_⟩ <;> kernel_rfl
theorem kd_ok0 : DOK kd0 := DOK.new _
theorem kd_ok1 : DOK kd1 := kd_ok0.write _ _
theorem kd_ok2 : DOK kd2 := kd_ok1.sync _
theorem kd_ok3 : DOK kd3 := kd_ok2.write _ _
theorem kd_ok4 : DOK kd4 := kd_ok3.write _ _
theorem kd_ok5 : DOK kd5 := kd_ok4.crash _
end Go.Proofs.Ytjfnpndpigpaiaa
