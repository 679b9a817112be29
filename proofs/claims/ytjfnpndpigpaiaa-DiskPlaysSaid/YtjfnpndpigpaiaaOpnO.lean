/- The type sealerylaw08.Op as an argument, opened; printed by gen_open.py. -/
import Derived.Test.YtjfnpndpigpaiaaOpnS
namespace Go.Proofs.Ytjfnpndpigpaiaa
open Go.RowKit Go.ChangeShapes Go.WideShapes Go.Deep

structure OpO where
  kd : Int
  f : Int
  n : Int
  dtA : Option Addr
  dtn : Nat
  dtc : Nat
  dt : List UInt8
  kpA : Option Addr
  kpn : Nat
  kpc : Nat
  kp : List Int
def OpO.cells (y : OpO) : List Value := [.int .i64 y.kd] ++ ([.int .i64 y.f] ++ ([.int .i64 y.n] ++ ([.slice y.dtA y.dtn y.dtc] ++ ([.slice y.kpA y.kpn y.kpc] ++ []))))
structure OpO.Ok (y : OpO) (w : World) (F : Nat → Prop) : Prop where
  kd : (Lit.int .i64 y.kd).wf = true
  f : (Lit.int .i64 y.f).wf = true
  n : (Lit.int .i64 y.n).wf = true
  dt : Sl w F y.dtA y.dtn y.dtc y.dt
  kp : IntSl w F y.kpA y.kpn y.kpc y.kp
instance OpOInhabited : Inhabited OpO := ⟨⟨0, 0, 0, none, 0, 0, [], none, 0, 0, []⟩⟩
theorem OpO.Ok.fr {y : OpO} {w w' : World} {F M : Nat → Prop} (h : y.Ok w F) (hf : Fr M w w') (hF : ∀ k, F k → k < w.heap.size ∧ ¬ M k) : y.Ok w' F := ⟨h.kd, h.f, h.n, h.dt.fr hf hF, h.kp.fr hf hF⟩
theorem OpO.Ok.bel {y : OpO} {w w' : World} {F : Nat → Prop} (h : y.Ok w F) (hb : Below w.heap.size w w') (hF : ∀ k, F k → k < w.heap.size) : y.Ok w' F := h.fr (Fr.of_below (M := NoB) hb) (fun k hk => ⟨hF k hk, id⟩)
theorem OpO.cells_len (y : OpO) : y.cells.length = 5 := rfl
section
variable {H : Type} {enc : TypeId × Value → H} {w : World} {base : Nat} {spare : Nat → Bool} {held : Bool} {fuel : Nat} {cs : List Value} {x : DataW H × List MemPlace}
theorem open_OpO (h : DataW.trod enc Try.prog w base spare held fuel 54 cs = some x) : ∃ y : OpO, cs = y.cells ∧ y.Ok w (Old w) := by
  obtain ⟨ys, m, _, _, hlen, hyl, hf⟩ := DataW.trod_struct Try.underlying54 h
  have hC : Try.prog.cellsOf 54 = 5 := by kernel_rfl
  rw [hC] at hlen
  have hyl : ys.length = 5 := hyl
  have s0 : Try.prog.cellsOf 3 = 1 := by kernel_rfl
  have h0 : DataW.trod enc Try.prog w base spare held m 3 ((cs.drop 0).take (Try.prog.cellsOf 3)) = ys[0]? := hf 0 _ rfl
  rw [s0, List.getElem?_eq_getElem (show 0 < ys.length by omega)] at h0
  have s1 : Try.prog.cellsOf 3 = 1 := by kernel_rfl
  have h1 : DataW.trod enc Try.prog w base spare held m 3 ((cs.drop 1).take (Try.prog.cellsOf 3)) = ys[1]? := hf 1 _ rfl
  rw [s1, List.getElem?_eq_getElem (show 1 < ys.length by omega)] at h1
  have s2 : Try.prog.cellsOf 3 = 1 := by kernel_rfl
  have h2 : DataW.trod enc Try.prog w base spare held m 3 ((cs.drop 2).take (Try.prog.cellsOf 3)) = ys[2]? := hf 2 _ rfl
  rw [s2, List.getElem?_eq_getElem (show 2 < ys.length by omega)] at h2
  have s3 : Try.prog.cellsOf 31 = 1 := by kernel_rfl
  have h3 : DataW.trod enc Try.prog w base spare held m 31 ((cs.drop 3).take (Try.prog.cellsOf 31)) = ys[3]? := hf 3 _ rfl
  rw [s3, List.getElem?_eq_getElem (show 3 < ys.length by omega)] at h3
  have s4 : Try.prog.cellsOf 23 = 1 := by kernel_rfl
  have h4 : DataW.trod enc Try.prog w base spare held m 23 ((cs.drop 4).take (Try.prog.cellsOf 23)) = ys[4]? := hf 4 _ rfl
  rw [s4, List.getElem?_eq_getElem (show 4 < ys.length by omega)] at h4
  obtain ⟨a0, e0, _, w0⟩ := DataW.trod_int Try.underlying3 h0
  obtain ⟨a1, e1, _, w1⟩ := DataW.trod_int Try.underlying3 h1
  obtain ⟨a2, e2, _, w2⟩ := DataW.trod_int Try.underlying3 h2
  obtain ⟨A3, n3, c3, a3, e3, w3, _⟩ := open_sl h3
  obtain ⟨A4, n4, c4, a4, e4, w4, _⟩ := open_isl h4
  have hcs : cs = (cs.drop 0).take 1 ++ ((cs.drop 1).take 1 ++ ((cs.drop 2).take 1 ++ ((cs.drop 3).take 1 ++ ((cs.drop 4).take 1 ++ [])))) := (cut_cs cs 0 1).trans (congrArg ((cs.drop 0).take 1 ++ ·) ((cut_cs cs 1 1).trans (congrArg ((cs.drop 1).take 1 ++ ·) ((cut_cs cs 2 1).trans (congrArg ((cs.drop 2).take 1 ++ ·) ((cut_cs cs 3 1).trans (congrArg ((cs.drop 3).take 1 ++ ·) ((cut_cs cs 4 1).trans (congrArg ((cs.drop 4).take 1 ++ ·) ((List.drop_of_length_le (by omega))))))))))))
  rw [e0, e1, e2, e3, e4] at hcs
  exact ⟨⟨a0, a1, a2, A3, n3, c3, a3, A4, n4, c4, a4⟩, hcs, ⟨w0, w1, w2, w3, w4⟩⟩
end
structure OpOSl (w : World) (F : Nat → Prop) (A : Option Addr) (n c : Nat) (ps : List OpO) : Prop where
  len : ps.length = n
  cap : n ≤ c
  at_ : ∀ (i : Nat) (h : i < ps.length), ∃ b o, A = some ⟨b, o, none⟩ ∧ F b ∧ ps[i].Ok w F ∧ w.rangeAt b (o + i * 5) ps[i].cells
theorem OpOSl.fr {w w' : World} {F M : Nat → Prop} {A : Option Addr} {n c : Nat} {ps : List OpO} (h : OpOSl w F A n c ps) (hf : Fr M w w') (hF : ∀ k, F k → k < w.heap.size ∧ ¬ M k) : OpOSl w' F A n c ps := by
  refine ⟨h.len, h.cap, fun i hi => ?_⟩
  obtain ⟨b, o, e, hb, hk, hr⟩ := h.at_ i hi
  exact ⟨b, o, e, hb, hk.fr hf hF, rangeAt_fr hr hf (hF b hb).2 (hF b hb).1⟩
theorem OpOSl.bel {w w' : World} {F : Nat → Prop} {A : Option Addr} {n c : Nat} {ps : List OpO} (h : OpOSl w F A n c ps) (hb : Below w.heap.size w w') (hF : ∀ k, F k → k < w.heap.size) : OpOSl w' F A n c ps := h.fr (Fr.of_below (M := NoB) hb) (fun k hk => ⟨hF k hk, id⟩)
section
variable {H : Type} {enc : TypeId × Value → H} {w : World} {base : Nat} {spare : Nat → Bool} {held : Bool} {fuel : Nat} {cs : List Value} {x : DataW H × List MemPlace}
theorem open_OpOs (h : DataW.trod enc Try.prog w base spare held fuel 50 cs = some x) :
    ∃ A n c l, cs = [.slice A n c] ∧ OpOSl w (Old w) A n c l ∧ (n = 0 ∨ ∃ e s, x.1 = .slice e s ∧ e.length = n) := by
  rcases open_slice Try.underlying50 h with ⟨rfl, rfl⟩ | ⟨a, len, cap, m, nf, D, Pl, rfl, _, hl, _, hm, hx, hi⟩
  · exact ⟨none, 0, 0, [], rfl, ⟨rfl, Nat.le_refl _, fun i hi => by simp at hi⟩, .inl rfl⟩
  · have hC : Try.prog.cellsOf 54 = 5 := by kernel_rfl
    rw [hC] at hi
    have hlm : len ≤ m := by rw [hm]; split <;> omega
    obtain ⟨f, hf⟩ := choose_lt (α := OpO) (n := len) (p := fun i r => r.Ok w (Old w) ∧ r.cells.length = 5 ∧ ∀ k u, r.cells[k]? = some u → w.cell? ((a.add (i * 5)).add k) = some u) (fun i hi' => by
      obtain ⟨cs', hc, ht⟩ := hi i (by omega)
      obtain ⟨hcl, _, hat⟩ := World.cells?_some hc
      obtain ⟨y, rfl, hk⟩ := open_OpO ht
      refine ⟨y, hk, by first | exact hcl | exact hcl.symm | omega, fun k u hu => ?_⟩
      have hk : k < 5 := by have := (List.getElem?_eq_some_iff.1 hu).1; omega
      have := hat k hk
      rw [hu] at this
      exact this)
    have hx1 : ∃ e s, x.1 = .slice e s ∧ e.length = len := ⟨_, _, congrArg Prod.fst hx, by simp; try omega⟩
    refine ⟨some a, len, cap, (List.range len).map fun i => f i, rfl, ⟨by simp, hl, fun i hil => ?_⟩, .inr hx1⟩
    have hil' : i < len := by simpa using hil
    obtain ⟨hk, hcl, hc⟩ := hf i hil'
    obtain ⟨_, hcl0, hc0⟩ := hf 0 (by omega)
    have h0 := hc0 0 _ (List.getElem?_eq_getElem (by omega))
    have h0' : w.cell? a = some ((f 0).cells[0]'(by omega)) := by simpa [Addr.add] using h0
    have ha := spot_of h0'
    have hal := block_of_cell h0'
    refine ⟨a.block, a.off, by rw [← ha], hal, by simpa using hk, fun k u hu => ?_⟩
    have h1 := hc k u (by simpa using hu)
    rw [addr_add_add, ha, addr_add_zero] at h1
    rw [Nat.add_assoc]; exact h1
end
theorem OpO_sized {H : Type} {ts : List TypeId} {ds : List (DataW H)} (h : (DataW.weightsEach Try.prog ts ds).all (· ≤ reachBytes) = true) {j n : Nat} {d : DataW H} (ht : ts[j]? = some 50) (hd : ds[j]? = some d)
    (hn : n = 0 ∨ ∃ e s, d = .slice e s ∧ e.length = n) : n ≤ 140737488351232 := by
  rcases hn with rfl | ⟨e, s, rfl, rfl⟩
  · omega
  · have := sized_slice h ht hd Try.underlying50
    have hb : Try.prog.bytesOf 54 = 72 := by kernel_rfl
    rw [hb] at this
    simp only [reachBytes] at this
    omega
end Go.Proofs.Ytjfnpndpigpaiaa
