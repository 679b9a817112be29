/- Readings of frames opened. -/
import Derived.Test.YtmdnlgfngpgfnaaDoorOpn
import Derived.Test.YtmdnlgfngpgfnaaDoorFrScs
namespace Go.Proofs.YtmdnlgfngpgfnaaDoor
open Go.RowKit Go.ChangeShapes Go.WideShapes Go.Deep

theorem spot_none {w : World} {a : Addr} {v : Value} (h : w.cell? a = some v) : a = ⟨a.block, a.off, none⟩ := by
  obtain ⟨b, o, s⟩ := a
  unfold World.cell? at h
  simp only at h
  split at h
  · cases s with
    | none => rfl
    | some _ => simp at h
  · cases h

instance fmInhabited : Inhabited ((Int × List UInt8) × List Value) := ⟨((0, []), [])⟩
section
variable {H : Type} {enc : TypeId × Value → H} {w : World} {base : Nat} {spare : Nat → Bool} {held : Bool} {fuel : Nat} {cs : List Value} {x : DataW H × List MemPlace}

theorem open_frame (h : DataW.trod enc Tryd.prog w base spare held fuel 34 cs = some x) : ∃ (k : Int) (b : List UInt8) (A : Option Addr) (n c : Nat), cs = [.int .i64 k, .slice A n c] ∧ Sl w (Old w) A n c b := by
  obtain ⟨ys, m, _, _, hlen, _, hf⟩ := DataW.trod_struct Tryd.underlying34 h
  have hC : Tryd.prog.cellsOf 34 = 2 := by kernel_rfl
  rw [hC] at hlen
  have hI : Tryd.prog.cellsOf 3 = 1 := by kernel_rfl
  have hS : Tryd.prog.cellsOf 22 = 1 := by kernel_rfl
  have h0 : DataW.trod enc Tryd.prog w base spare held m 3 ((cs.drop 0).take (Tryd.prog.cellsOf 3)) = ys[0]? := hf 0 _ rfl
  have h1 : DataW.trod enc Tryd.prog w base spare held m 22 ((cs.drop 1).take (Tryd.prog.cellsOf 22)) = ys[1]? := hf 1 _ rfl
  rw [hI] at h0; rw [hS] at h1
  have hyl : ys.length = 2 := by assumption
  rw [List.getElem?_eq_getElem (by omega)] at h0 h1
  obtain ⟨k, e0, _⟩ := DataW.trod_int Tryd.underlying3 h0
  obtain ⟨A1, n1, c1, l1, e1, s1, _⟩ := open_sl h1
  match cs, hlen with
  | [p, q], _ =>
    simp at e0 e1
    exact ⟨k, l1, A1, n1, c1, by rw [e0, e1], s1⟩

theorem open_frames (h : DataW.trod enc Tryd.prog w base spare held fuel 42 cs = some x) :
    ∃ A n c l, cs = [.slice A n c] ∧ FmSl w (Old w) A n c l ∧ (n = 0 ∨ ∃ e s, x.1 = .slice e s ∧ e.length = n) := by
  rcases open_slice Tryd.underlying42 h with ⟨rfl, rfl⟩ | ⟨a, len, cap, m, nf, D, Pl, rfl, _, hl, _, hm, hx, hi⟩
  · exact ⟨none, 0, 0, [], rfl, ⟨rfl, Nat.le_refl _, fun i hi => by simp at hi⟩, .inl rfl⟩
  · have hC : Tryd.prog.cellsOf 34 = 2 := by kernel_rfl
    rw [hC] at hi
    have hlm : len ≤ m := by rw [hm]; split <;> omega
    obtain ⟨f, hf⟩ := choose_lt (α := (Int × List UInt8) × List Value) (n := len) (p := fun i r => (∃ A n c, r.2 = [.int .i64 r.1.1, .slice A n c] ∧ Sl w (Old w) A n c r.1.2) ∧ ∀ j x, r.2[j]? = some x → w.cell? ((a.add (i * 2)).add j) = some x) (fun i hil => by
      obtain ⟨cs', hc, ht⟩ := hi i (by omega)
      obtain ⟨k, b, A, n, c, e, hs⟩ := open_frame ht
      obtain ⟨_, hcl, hat⟩ := World.cells?_some hc
      refine ⟨((k, b), cs'), ⟨A, n, c, e, hs⟩, fun j x hx => ?_⟩
      have hj : j < 2 := by have h1 : j < cs'.length := (List.getElem?_eq_some_iff.1 hx).1; omega
      exact (hat j hj).trans hx)
    refine ⟨some a, len, cap, (List.range len).map fun i => (f i).1, rfl, ⟨by simp, hl, fun i hil => ?_⟩, .inr ⟨_, _, congrArg Prod.fst hx, by simp⟩⟩
    have hil' : i < len := by simpa using hil
    obtain ⟨⟨A, n, c, e, hs⟩, hcell⟩ := hf i hil'
    obtain ⟨⟨A0, n0, c0, e0, _⟩, hcell0⟩ := hf 0 (by omega)
    have hsp' : w.cell? a = some (.int .i64 (f 0).1.1) := by
      have := hcell0 0 (.int .i64 (f 0).1.1) (by rw [e0]; rfl)
      simpa [Addr.add] using this
    have ha := spot_none hsp'
    have hal := block_of_cell hsp'
    refine ⟨a.block, a.off, A, n, c, by rw [← ha], hal, ?_, ?_, by simpa using hs⟩
    · have := hcell 0 (.int .i64 (f i).1.1) (by rw [e]; rfl)
      rw [addr_add_add, ha, addr_add_zero] at this
      simpa using this
    · have := hcell 1 (.slice A n c) (by rw [e]; rfl)
      rw [addr_add_add, ha, addr_add_zero] at this
      rw [Nat.add_assoc]; exact this
end
theorem frames_sized {H : Type} {ts : List TypeId} {ds : List (DataW H)} (h : (DataW.weightsEach Tryd.prog ts ds).all (· ≤ reachBytes) = true) {j n : Nat} {d : DataW H} (ht : ts[j]? = some 42) (hd : ds[j]? = some d)
    (hn : n = 0 ∨ ∃ e s, d = .slice e s ∧ e.length = n) : n ≤ 140737488351232 := by
  rcases hn with rfl | ⟨e, s, rfl, rfl⟩
  · omega
  · have := sized_slice h ht hd Tryd.underlying42
    have hb : Tryd.prog.bytesOf 34 = 32 := by kernel_rfl
    rw [hb] at this
    simp only [reachBytes] at this
    omega
end Go.Proofs.YtmdnlgfngpgfnaaDoor
