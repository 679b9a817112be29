/- Readings of the arguments of DiskLasts opened: rows for files. -/
import Derived.Test.YtjfnpndpigpaiaaOpnN
import Derived.Test.YtjfnpndpigpaiaaOpnI
namespace Go.Proofs.Ytjfnpndpigpaiaa
open Go.RowKit Go.ChangeShapes Go.WideShapes Go.Deep

/-- a row for a file -/
structure PutR where
  f : Int
  l : List UInt8
structure PsSl (w : World) (F : Nat → Prop) (A : Option Addr) (n c : Nat) (ps : List PutR) : Prop where
  len : ps.length = n
  cap : n ≤ c
  at_ : ∀ (i : Nat) (h : i < ps.length), ∃ b o A1 n1 c1, A = some ⟨b, o, none⟩ ∧ F b ∧ (Lit.int .i64 ps[i].f).wf = true ∧ w.cell? ⟨b, o + i * 2, none⟩ = some (.int .i64 ps[i].f) ∧ w.cell? ⟨b, o + i * 2 + 1, none⟩ = some (.slice A1 n1 c1) ∧ Sl w F A1 n1 c1 ps[i].l
theorem PsSl.bel {w w' : World} {F : Nat → Prop} {A : Option Addr} {n c : Nat} {ps : List PutR} (h : PsSl w F A n c ps) (hF : ∀ k, F k → w'.heap[k]? = w.heap[k]?) : PsSl w' F A n c ps := by
  refine ⟨h.len, h.cap, fun i hi => ?_⟩
  obtain ⟨b, o, A1, n1, c1, e, hb, hw, hc0, hc, hs⟩ := h.at_ i hi
  refine ⟨b, o, A1, n1, c1, e, hb, hw, by rw [World.cell?_of_block (w := w) (hF b hb)]; exact hc0, by rw [World.cell?_of_block (w := w) (hF b hb)]; exact hc, hs.len, hs.cap, hs.nil, hs.foot, hs.rd.of_eq fun ad e hne => hF _ (hs.foot ad e hne)⟩
structure PutW where
  A : Option Addr
  n : Nat
  c : Nat
  p : PutR
instance putInhabited : Inhabited PutW := ⟨⟨none, 0, 0, ⟨0, []⟩⟩⟩
section
variable {H : Type} {enc : TypeId × Value → H} {w : World} {base : Nat} {spare : Nat → Bool} {held : Bool} {fuel : Nat} {cs : List Value} {x : DataW H × List MemPlace}
theorem open_put (h : DataW.trod enc Try.prog w base spare held fuel 64 cs = some x) :
    ∃ y : PutW, cs = [.int .i64 y.p.f, .slice y.A y.n y.c] ∧ Sl w (Old w) y.A y.n y.c y.p.l ∧ (Lit.int .i64 y.p.f).wf = true := by
  obtain ⟨ys, m, _, _, hlen, _, hf⟩ := DataW.trod_struct Try.underlying64 h
  have hC : Try.prog.cellsOf 64 = 2 := by kernel_rfl
  rw [hC] at hlen
  have hS : Try.prog.cellsOf 31 = 1 := by kernel_rfl
  have hI : Try.prog.cellsOf 3 = 1 := by kernel_rfl
  have h0 : DataW.trod enc Try.prog w base spare held m 3 ((cs.drop 0).take (Try.prog.cellsOf 3)) = ys[0]? := hf 0 _ rfl
  have h1 : DataW.trod enc Try.prog w base spare held m 31 ((cs.drop 1).take (Try.prog.cellsOf 31)) = ys[1]? := hf 1 _ rfl
  rw [hI] at h0; rw [hS] at h1
  have hyl : ys.length = 2 := by assumption
  rw [List.getElem?_eq_getElem (by omega)] at h0 h1
  match cs, hlen with
  | [v0, v1], _ =>
    obtain ⟨a, e0, _, hw⟩ := DataW.trod_int Try.underlying3 h0
    obtain ⟨A1, n1, c1, l1, e1, s1, _⟩ := open_sl h1
    simp at e0 e1
    subst e0; subst e1
    exact ⟨⟨A1, n1, c1, ⟨a, l1⟩⟩, rfl, s1, hw⟩
theorem open_puts (h : DataW.trod enc Try.prog w base spare held fuel 22 cs = some x) :
    ∃ A n c l, cs = [.slice A n c] ∧ PsSl w (Old w) A n c l := by
  rcases open_slice Try.underlying22 h with ⟨rfl, rfl⟩ | ⟨a, len, cap, m, nf, D, Pl, rfl, _, hl, _, hm, hx, hi⟩
  · exact ⟨none, 0, 0, [], rfl, ⟨rfl, Nat.le_refl _, fun i hi => by simp at hi⟩⟩
  · have hC : Try.prog.cellsOf 64 = 2 := by kernel_rfl
    rw [hC] at hi
    have hlm : len ≤ m := by rw [hm]; split <;> omega
    obtain ⟨f, hf⟩ := choose_lt (α := PutW) (n := len) (p := fun i r => Sl w (Old w) r.A r.n r.c r.p.l ∧ (Lit.int .i64 r.p.f).wf = true ∧ w.cell? (a.add (i * 2)) = some (.int .i64 r.p.f) ∧ w.cell? ((a.add (i * 2)).add 1) = some (.slice r.A r.n r.c)) (fun i hil => by
      obtain ⟨cs', hc, ht⟩ := hi i (by omega)
      obtain ⟨y, rfl, hs, hw⟩ := open_put ht
      obtain ⟨_, _, hat⟩ := World.cells?_some hc
      refine ⟨y, hs, hw, ?_, ?_⟩
      · have := hat 0 (by decide)
        simpa [addr_add_add] using this
      · have := hat 1 (by decide)
        exact this)
    refine ⟨some a, len, cap, (List.range len).map fun i => (f i).p, rfl, ⟨by simp, hl, fun i hil => ?_⟩⟩
    have hil' : i < len := by simpa using hil
    obtain ⟨hs, hw, hc0, hc1⟩ := hf i hil'
    have h0 := (hf 0 (by omega)).2.2.1
    have h0' : w.cell? a = some (.int .i64 (f 0).p.f) := by simpa [Addr.add] using h0
    have ha := spot_none h0'
    have hal := block_of_cell h0'
    rw [addr_add_add] at hc1
    rw [ha, addr_add_zero] at hc0 hc1
    refine ⟨a.block, a.off, (f i).A, (f i).n, (f i).c, by rw [← ha], hal, by simpa using hw, by simpa using hc0, by rw [Nat.add_assoc]; exact hc1, by simpa using hs⟩
/-- DiskLasts' argument -/
structure DaysR where
  room : Int
  A1 : Option Addr
  n1 : Nat
  c1 : Nat
  p1 : List PutR
  A2 : Option Addr
  n2 : Nat
  c2 : Nat
  p2 : List PutR
  A3 : Option Addr
  n3 : Nat
  c3 : Nat
  keep : List Int
def DaysR.cells (y : DaysR) : List Value := [.int .i64 y.room, .slice y.A1 y.n1 y.c1, .slice y.A2 y.n2 y.c2, .slice y.A3 y.n3 y.c3]
structure DaysR.Ok (y : DaysR) (w : World) : Prop where
  wf : (Lit.int .i64 y.room).wf = true
  s1 : PsSl w (Old w) y.A1 y.n1 y.c1 y.p1
  s2 : PsSl w (Old w) y.A2 y.n2 y.c2 y.p2
  s3 : IntSl w (Old w) y.A3 y.n3 y.c3 y.keep
theorem open_days (h : DataW.trod enc Try.prog w base spare held fuel 25 cs = some x) : ∃ y : DaysR, cs = y.cells ∧ y.Ok w := by
  obtain ⟨ys, m, _, _, hlen, _, hf⟩ := DataW.trod_struct Try.underlying25 h
  have hC : Try.prog.cellsOf 25 = 4 := by kernel_rfl
  rw [hC] at hlen
  have hS : Try.prog.cellsOf 22 = 1 := by kernel_rfl
  have hI : Try.prog.cellsOf 3 = 1 := by kernel_rfl
  have hIs : Try.prog.cellsOf 23 = 1 := by kernel_rfl
  have h0 : DataW.trod enc Try.prog w base spare held m 3 ((cs.drop 0).take (Try.prog.cellsOf 3)) = ys[0]? := hf 0 _ rfl
  have h1 : DataW.trod enc Try.prog w base spare held m 22 ((cs.drop 1).take (Try.prog.cellsOf 22)) = ys[1]? := hf 1 _ rfl
  have h2 : DataW.trod enc Try.prog w base spare held m 22 ((cs.drop 2).take (Try.prog.cellsOf 22)) = ys[2]? := hf 2 _ rfl
  have h3 : DataW.trod enc Try.prog w base spare held m 23 ((cs.drop 3).take (Try.prog.cellsOf 23)) = ys[3]? := hf 3 _ rfl
  rw [hI] at h0; rw [hS] at h1 h2; rw [hIs] at h3
  have hyl : ys.length = 4 := by assumption
  rw [List.getElem?_eq_getElem (by omega)] at h0 h1 h2 h3
  match cs, hlen with
  | [v0, v1, v2, v3], _ =>
    obtain ⟨a, e0, _, hw⟩ := DataW.trod_int Try.underlying3 h0
    obtain ⟨A1, n1, c1, l1, e1, s1⟩ := open_puts h1
    obtain ⟨A2, n2, c2, l2, e2, s2⟩ := open_puts h2
    obtain ⟨A3, n3, c3, l3, e3, s3, _⟩ := open_isl h3
    simp at e0 e1 e2 e3
    subst e0; subst e1; subst e2; subst e3
    exact ⟨⟨a, A1, n1, c1, l1, A2, n2, c2, l2, A3, n3, c3, l3⟩, rfl, hw, s1, s2, s3⟩
end
end Go.Proofs.Ytjfnpndpigpaiaa
