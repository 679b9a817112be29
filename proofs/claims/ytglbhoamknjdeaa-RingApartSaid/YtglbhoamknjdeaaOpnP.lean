/- The argument of RingApart opened: three texts, two numbers. -/
import Derived.Test.YtglbhoamknjdeaaOpn
namespace Go.Proofs.Ytglbhoamknjdeaa
open Go.RowKit Go.ChangeShapes Go.WideShapes Go.Deep

structure PairR where
  t : ByteArray
  s : ByteArray
  o : ByteArray
  sl : Int
  n : Int
def PairR.cells (y : PairR) : List Value := [.string y.t, .string y.s, .string y.o, .int .i64 y.sl, .int .i64 y.n]
structure PairR.Ok (y : PairR) (_w : World) : Prop where
  ws : (Lit.int .i64 y.sl).wf = true
  wn : (Lit.int .i64 y.n).wf = true
def PairR.dat {H : Type} (y : PairR) : DataW H := .agg [.lit (.string y.t.data.toList), .lit (.string y.s.data.toList), .lit (.string y.o.data.toList), .lit (.int .i64 y.sl), .lit (.int .i64 y.n)]
def PairR.Bd (y : PairR) : Prop := y.t.size ≤ 140737488351232 ∧ y.s.size ≤ 140737488351232 ∧ y.o.size ≤ 140737488351232
section
variable {H : Type} {enc : TypeId × Value → H} {w : World} {base : Nat} {spare : Nat → Bool} {held : Bool} {fuel : Nat} {cs : List Value} {x : DataW H × List MemPlace}
theorem open_pair (h : DataW.trod enc Try.prog w base spare held fuel 51 cs = some x) :
    ∃ y : PairR, cs = y.cells ∧ y.Ok w ∧ x.1 = y.dat := by
  obtain ⟨ys, m, _, hx, hlen, hyl, hf⟩ := DataW.trod_struct Try.underlying51 h
  have hC : Try.prog.cellsOf 51 = 5 := by kernel_rfl
  rw [hC] at hlen
  have hS : Try.prog.cellsOf 9 = 1 := by kernel_rfl
  have hI : Try.prog.cellsOf 3 = 1 := by kernel_rfl
  have h0 : DataW.trod enc Try.prog w base spare held m 9 ((cs.drop 0).take (Try.prog.cellsOf 9)) = ys[0]? := hf 0 _ rfl
  have h1 : DataW.trod enc Try.prog w base spare held m 9 ((cs.drop 1).take (Try.prog.cellsOf 9)) = ys[1]? := hf 1 _ rfl
  have h2 : DataW.trod enc Try.prog w base spare held m 9 ((cs.drop 2).take (Try.prog.cellsOf 9)) = ys[2]? := hf 2 _ rfl
  have h3 : DataW.trod enc Try.prog w base spare held m 3 ((cs.drop 3).take (Try.prog.cellsOf 3)) = ys[3]? := hf 3 _ rfl
  have h4 : DataW.trod enc Try.prog w base spare held m 3 ((cs.drop 4).take (Try.prog.cellsOf 3)) = ys[4]? := hf 4 _ rfl
  rw [hS] at h0 h1 h2; rw [hI] at h3 h4
  have hyl : ys.length = 5 := hyl
  match ys, hyl with
  | [y0, y1, y2, y3, y4], _ =>
    match cs, hlen with
    | [v0, v1, v2, v3, v4], _ =>
      obtain ⟨a0, e0, x0, _⟩ := DataW.trod_string Try.underlying9 (h0.trans rfl)
      obtain ⟨a1, e1, x1, _⟩ := DataW.trod_string Try.underlying9 (h1.trans rfl)
      obtain ⟨a2, e2, x2, _⟩ := DataW.trod_string Try.underlying9 (h2.trans rfl)
      obtain ⟨a3, e3, x3, w3⟩ := DataW.trod_int Try.underlying3 (h3.trans rfl)
      obtain ⟨a4, e4, x4, w4⟩ := DataW.trod_int Try.underlying3 (h4.trans rfl)
      simp at e0 e1 e2 e3 e4
      subst e0; subst e1; subst e2; subst e3; subst e4
      exact ⟨⟨a0, a1, a2, a3, a4⟩, rfl, ⟨w3, w4⟩, by rw [hx, x0, x1, x2, x3, x4]; rfl⟩
end
theorem pair_sized {H : Type} {ts : List TypeId} {ds : List (DataW H)} (h : (DataW.weightsEach Try.prog ts ds).all (· ≤ reachBytes) = true) {j : Nat} {y : PairR} (ht : ts[j]? = some 51) (hd : ds[j]? = some y.dat) : y.Bd := by
  have hh : ∀ n ∈ (PairR.dat (H := H) y).weights Try.prog 51, n ≤ reachBytes := fun n hn => by
    have := List.all_eq_true.1 h _ (DataW.weights_mem_each ht hd n hn)
    simpa using this
  have hw : (PairR.dat (H := H) y).weights Try.prog 51 = [y.t.data.toList.length, y.s.data.toList.length, y.o.data.toList.length] := by
    simp [PairR.dat, DataW.weights, Try.underlying51, DataW.weightsEach]
  rw [hw] at hh
  have h1 := hh _ (List.mem_cons_self)
  have h2 := hh y.s.data.toList.length (by simp)
  have h3 := hh y.o.data.toList.length (by simp)
  simp only [reachBytes, Array.length_toList] at h1 h2 h3
  exact ⟨h1, h2, h3⟩
end Go.Proofs.Ytglbhoamknjdeaa
