/- Readings of structs of layer 8 opened. -/
import Derived.Test.YtjfnpndpigpaiaaOpn
import Derived.Test.YtjfnpndpigpaiaaOpnI
namespace Go.Proofs.Ytjfnpndpigpaiaa
open Go.RowKit Go.ChangeShapes Go.WideShapes Go.Deep
structure LaidR where
  A1 : Option Addr
  n1 : Nat
  c1 : Nat
  l1 : List UInt8
  A2 : Option Addr
  n2 : Nat
  c2 : Nat
  l2 : List UInt8
  A3 : Option Addr
  n3 : Nat
  c3 : Nat
  l3 : List UInt8
  a : Int
def LaidR.cells (y : LaidR) : List Value := [.slice y.A1 y.n1 y.c1, .slice y.A2 y.n2 y.c2, .slice y.A3 y.n3 y.c3, .int .i64 y.a]
structure LaidR.Ok (y : LaidR) (w : World) : Prop where
  s1 : Sl w (Old w) y.A1 y.n1 y.c1 y.l1
  s2 : Sl w (Old w) y.A2 y.n2 y.c2 y.l2
  s3 : Sl w (Old w) y.A3 y.n3 y.c3 y.l3
  wf : (Lit.int .i64 y.a).wf = true
section
variable {H : Type} {enc : TypeId × Value → H} {w : World} {base : Nat} {spare : Nat → Bool} {held : Bool} {fuel : Nat} {cs : List Value} {x : DataW H × List MemPlace}
theorem open_laid (h : DataW.trod enc Try.prog w base spare held fuel 41 cs = some x) :
    ∃ y : LaidR, cs = y.cells ∧ y.Ok w := by
  obtain ⟨ys, m, _, _, hlen, _, hf⟩ := DataW.trod_struct Try.underlying41 h
  have hC : Try.prog.cellsOf 41 = 4 := by kernel_rfl
  rw [hC] at hlen
  have hS : Try.prog.cellsOf 31 = 1 := by kernel_rfl
  have hI : Try.prog.cellsOf 3 = 1 := by kernel_rfl
  have h0 : DataW.trod enc Try.prog w base spare held m 31 ((cs.drop 0).take (Try.prog.cellsOf 31)) = ys[0]? := hf 0 _ rfl
  have h1 : DataW.trod enc Try.prog w base spare held m 31 ((cs.drop 1).take (Try.prog.cellsOf 31)) = ys[1]? := hf 1 _ rfl
  have h2 : DataW.trod enc Try.prog w base spare held m 31 ((cs.drop 2).take (Try.prog.cellsOf 31)) = ys[2]? := hf 2 _ rfl
  have h3 : DataW.trod enc Try.prog w base spare held m 3 ((cs.drop 3).take (Try.prog.cellsOf 3)) = ys[3]? := hf 3 _ rfl
  rw [hS] at h0 h1 h2; rw [hI] at h3
  have hyl : ys.length = 4 := by assumption
  rw [List.getElem?_eq_getElem (by omega)] at h0 h1 h2 h3
  match cs, hlen with
  | [v0, v1, v2, v3], _ =>
    obtain ⟨A1, n1, c1, l1, e1, s1, _⟩ := open_sl h0
    obtain ⟨A2, n2, c2, l2, e2, s2, _⟩ := open_sl h1
    obtain ⟨A3, n3, c3, l3, e3, s3, _⟩ := open_sl h2
    obtain ⟨a, e4, _, hw⟩ := DataW.trod_int Try.underlying3 h3
    simp at e1 e2 e3 e4
    subst e1; subst e2; subst e3; subst e4
    exact ⟨⟨A1, n1, c1, l1, A2, n2, c2, l2, A3, n3, c3, l3, a⟩, rfl, s1, s2, s3, hw⟩
end
end Go.Proofs.Ytjfnpndpigpaiaa
