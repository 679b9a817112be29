/- The type sealerylaw06.Op as an argument, opened; printed by gen_open.py. -/
import Derived.Test.YtnejcciociinmaaOpnS
namespace Go.Proofs.Ytnejcciociinmaa
open Go.RowKit Go.ChangeShapes Go.WideShapes Go.Deep

structure OpB where
  sl : Bool
  kb : UInt8
  nb : UInt8
  hdA : Option Addr
  hdn : Nat
  hdc : Nat
  hd : List UInt8
  txA : Option Addr
  txn : Nat
  txc : Nat
  tx : List UInt8
  aa : Int
  tn : Int
def OpB.cells (y : OpB) : List Value := [.bool y.sl] ++ ([.int .u8 (y.kb.toNat : Int)] ++ ([.int .u8 (y.nb.toNat : Int)] ++ ([.slice y.hdA y.hdn y.hdc] ++ ([.slice y.txA y.txn y.txc] ++ ([.int .i64 y.aa] ++ ([.int .i64 y.tn] ++ []))))))
structure OpB.Ok (y : OpB) (w : World) (F : Nat → Prop) : Prop where
  hd : Sl w F y.hdA y.hdn y.hdc y.hd
  tx : Sl w F y.txA y.txn y.txc y.tx
  aa : (Lit.int .i64 y.aa).wf = true
  tn : (Lit.int .i64 y.tn).wf = true
instance OpBInhabited : Inhabited OpB := ⟨⟨false, 0, 0, none, 0, 0, [], none, 0, 0, [], 0, 0⟩⟩
theorem OpB.Ok.fr {y : OpB} {w w' : World} {F M : Nat → Prop} (h : y.Ok w F) (hf : Fr M w w') (hF : ∀ k, F k → k < w.heap.size ∧ ¬ M k) : y.Ok w' F := ⟨h.hd.fr hf hF, h.tx.fr hf hF, h.aa, h.tn⟩
theorem OpB.Ok.bel {y : OpB} {w w' : World} {F : Nat → Prop} (h : y.Ok w F) (hb : Below w.heap.size w w') (hF : ∀ k, F k → k < w.heap.size) : y.Ok w' F := h.fr (Fr.of_below (M := NoB) hb) (fun k hk => ⟨hF k hk, id⟩)
theorem OpB.cells_len (y : OpB) : y.cells.length = 7 := rfl
section
variable {H : Type} {enc : TypeId × Value → H} {w : World} {base : Nat} {spare : Nat → Bool} {held : Bool} {fuel : Nat} {cs : List Value} {x : DataW H × List MemPlace}
theorem open_OpB (h : DataW.trod enc Try.prog w base spare held fuel 35 cs = some x) : ∃ y : OpB, cs = y.cells ∧ y.Ok w (Old w) := by
  obtain ⟨ys, m, _, _, hlen, hyl, hf⟩ := DataW.trod_struct Try.underlying35 h
  have hC : Try.prog.cellsOf 35 = 7 := by kernel_rfl
  rw [hC] at hlen
  have hyl : ys.length = 7 := hyl
  have s0 : Try.prog.cellsOf 4 = 1 := by kernel_rfl
  have h0 : DataW.trod enc Try.prog w base spare held m 4 ((cs.drop 0).take (Try.prog.cellsOf 4)) = ys[0]? := hf 0 _ rfl
  rw [s0, List.getElem?_eq_getElem (show 0 < ys.length by omega)] at h0
  have s1 : Try.prog.cellsOf 5 = 1 := by kernel_rfl
  have h1 : DataW.trod enc Try.prog w base spare held m 5 ((cs.drop 1).take (Try.prog.cellsOf 5)) = ys[1]? := hf 1 _ rfl
  rw [s1, List.getElem?_eq_getElem (show 1 < ys.length by omega)] at h1
  have s2 : Try.prog.cellsOf 5 = 1 := by kernel_rfl
  have h2 : DataW.trod enc Try.prog w base spare held m 5 ((cs.drop 2).take (Try.prog.cellsOf 5)) = ys[2]? := hf 2 _ rfl
  rw [s2, List.getElem?_eq_getElem (show 2 < ys.length by omega)] at h2
  have s3 : Try.prog.cellsOf 22 = 1 := by kernel_rfl
  have h3 : DataW.trod enc Try.prog w base spare held m 22 ((cs.drop 3).take (Try.prog.cellsOf 22)) = ys[3]? := hf 3 _ rfl
  rw [s3, List.getElem?_eq_getElem (show 3 < ys.length by omega)] at h3
  have s4 : Try.prog.cellsOf 22 = 1 := by kernel_rfl
  have h4 : DataW.trod enc Try.prog w base spare held m 22 ((cs.drop 4).take (Try.prog.cellsOf 22)) = ys[4]? := hf 4 _ rfl
  rw [s4, List.getElem?_eq_getElem (show 4 < ys.length by omega)] at h4
  have s5 : Try.prog.cellsOf 3 = 1 := by kernel_rfl
  have h5 : DataW.trod enc Try.prog w base spare held m 3 ((cs.drop 5).take (Try.prog.cellsOf 3)) = ys[5]? := hf 5 _ rfl
  rw [s5, List.getElem?_eq_getElem (show 5 < ys.length by omega)] at h5
  have s6 : Try.prog.cellsOf 3 = 1 := by kernel_rfl
  have h6 : DataW.trod enc Try.prog w base spare held m 3 ((cs.drop 6).take (Try.prog.cellsOf 3)) = ys[6]? := hf 6 _ rfl
  rw [s6, List.getElem?_eq_getElem (show 6 < ys.length by omega)] at h6
  obtain ⟨a0, e0, _⟩ := DataW.trod_bool Try.underlying4 h0
  obtain ⟨a1, e1⟩ := open_byte h1
  obtain ⟨a2, e2⟩ := open_byte h2
  obtain ⟨A3, n3, c3, a3, e3, w3, _⟩ := open_sl h3
  obtain ⟨A4, n4, c4, a4, e4, w4, _⟩ := open_sl h4
  obtain ⟨a5, e5, _, w5⟩ := DataW.trod_int Try.underlying3 h5
  obtain ⟨a6, e6, _, w6⟩ := DataW.trod_int Try.underlying3 h6
  have hcs : cs = (cs.drop 0).take 1 ++ ((cs.drop 1).take 1 ++ ((cs.drop 2).take 1 ++ ((cs.drop 3).take 1 ++ ((cs.drop 4).take 1 ++ ((cs.drop 5).take 1 ++ ((cs.drop 6).take 1 ++ [])))))) := (cut_cs cs 0 1).trans (congrArg ((cs.drop 0).take 1 ++ ·) ((cut_cs cs 1 1).trans (congrArg ((cs.drop 1).take 1 ++ ·) ((cut_cs cs 2 1).trans (congrArg ((cs.drop 2).take 1 ++ ·) ((cut_cs cs 3 1).trans (congrArg ((cs.drop 3).take 1 ++ ·) ((cut_cs cs 4 1).trans (congrArg ((cs.drop 4).take 1 ++ ·) ((cut_cs cs 5 1).trans (congrArg ((cs.drop 5).take 1 ++ ·) ((cut_cs cs 6 1).trans (congrArg ((cs.drop 6).take 1 ++ ·) ((List.drop_of_length_le (by omega))))))))))))))))
  rw [e0, e1, e2, e3, e4, e5, e6] at hcs
  exact ⟨⟨a0, a1, a2, A3, n3, c3, a3, A4, n4, c4, a4, a5, a6⟩, hcs, ⟨w3, w4, w5, w6⟩⟩
end
structure OpBSl (w : World) (F : Nat → Prop) (A : Option Addr) (n c : Nat) (ps : List OpB) : Prop where
  len : ps.length = n
  cap : n ≤ c
  at_ : ∀ (i : Nat) (h : i < ps.length), ∃ b o, A = some ⟨b, o, none⟩ ∧ F b ∧ ps[i].Ok w F ∧ w.rangeAt b (o + i * 7) ps[i].cells
theorem OpBSl.fr {w w' : World} {F M : Nat → Prop} {A : Option Addr} {n c : Nat} {ps : List OpB} (h : OpBSl w F A n c ps) (hf : Fr M w w') (hF : ∀ k, F k → k < w.heap.size ∧ ¬ M k) : OpBSl w' F A n c ps := by
  refine ⟨h.len, h.cap, fun i hi => ?_⟩
  obtain ⟨b, o, e, hb, hk, hr⟩ := h.at_ i hi
  exact ⟨b, o, e, hb, hk.fr hf hF, rangeAt_fr hr hf (hF b hb).2 (hF b hb).1⟩
theorem OpBSl.bel {w w' : World} {F : Nat → Prop} {A : Option Addr} {n c : Nat} {ps : List OpB} (h : OpBSl w F A n c ps) (hb : Below w.heap.size w w') (hF : ∀ k, F k → k < w.heap.size) : OpBSl w' F A n c ps := h.fr (Fr.of_below (M := NoB) hb) (fun k hk => ⟨hF k hk, id⟩)
section
variable {H : Type} {enc : TypeId × Value → H} {w : World} {base : Nat} {spare : Nat → Bool} {held : Bool} {fuel : Nat} {cs : List Value} {x : DataW H × List MemPlace}
theorem open_OpBs (h : DataW.trod enc Try.prog w base spare held fuel 23 cs = some x) :
    ∃ A n c l, cs = [.slice A n c] ∧ OpBSl w (Old w) A n c l ∧ (n = 0 ∨ ∃ e s, x.1 = .slice e s ∧ e.length = n) := by
  rcases open_slice Try.underlying23 h with ⟨rfl, rfl⟩ | ⟨a, len, cap, m, nf, D, Pl, rfl, _, hl, _, hm, hx, hi⟩
  · exact ⟨none, 0, 0, [], rfl, ⟨rfl, Nat.le_refl _, fun i hi => by simp at hi⟩, .inl rfl⟩
  · have hC : Try.prog.cellsOf 35 = 7 := by kernel_rfl
    rw [hC] at hi
    have hlm : len ≤ m := by rw [hm]; split <;> omega
    obtain ⟨f, hf⟩ := choose_lt (α := OpB) (n := len) (p := fun i r => r.Ok w (Old w) ∧ r.cells.length = 7 ∧ ∀ k u, r.cells[k]? = some u → w.cell? ((a.add (i * 7)).add k) = some u) (fun i hi' => by
      obtain ⟨cs', hc, ht⟩ := hi i (by omega)
      obtain ⟨hcl, _, hat⟩ := World.cells?_some hc
      obtain ⟨y, rfl, hk⟩ := open_OpB ht
      refine ⟨y, hk, by first | exact hcl | exact hcl.symm | omega, fun k u hu => ?_⟩
      have hk : k < 7 := by have := (List.getElem?_eq_some_iff.1 hu).1; omega
      have := hat k hk
      rw [hu] at this
      exact this)
    have hx1 : ∃ e s, x.1 = .slice e s ∧ e.length = len := ⟨_, _, congrArg Prod.fst hx, by simp; try omega⟩
    refine ⟨some a, len, cap, (List.range len).map fun i => f i, rfl, ⟨by simp, hl, fun i hil => ?_⟩, .inr hx1⟩
    have hil' : i < len := by simpa using hil
    obtain ⟨hk, hcl, hc⟩ := hf i hil'
    obtain ⟨_, hcl0, hc0⟩ := hf 0 (by omega)
    have h0 := hc0 0 _ (List.getElem?_eq_getElem (by omega))
    have h0' : w.cell? a = some ((f 0).cells[0]'(by omega)) := by simpa [Addr.add] using h0
    have ha := spot_of h0'
    have hal := block_of_cell h0'
    refine ⟨a.block, a.off, by rw [← ha], hal, by simpa using hk, fun k u hu => ?_⟩
    have h1 := hc k u (by simpa using hu)
    rw [addr_add_add, ha, addr_add_zero] at h1
    rw [Nat.add_assoc]; exact h1
end
theorem OpB_sized {H : Type} {ts : List TypeId} {ds : List (DataW H)} (h : (DataW.weightsEach Try.prog ts ds).all (· ≤ reachBytes) = true) {j n : Nat} {d : DataW H} (ht : ts[j]? = some 23) (hd : ds[j]? = some d)
    (hn : n = 0 ∨ ∃ e s, d = .slice e s ∧ e.length = n) : n ≤ 140737488351232 := by
  rcases hn with rfl | ⟨e, s, rfl, rfl⟩
  · omega
  · have := sized_slice h ht hd Try.underlying23
    have hb : Try.prog.bytesOf 35 = 72 := by kernel_rfl
    rw [hb] at this
    simp only [reachBytes] at this
    omega
end Go.Proofs.Ytnejcciociinmaa
