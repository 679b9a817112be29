/- The argument of RingPlays opened: calls. -/
import Derived.Test.YtglbhoamknjdeaaOpn
import Derived.Test.YtglbhoamknjdeaaRg1
namespace Go.Proofs.Ytglbhoamknjdeaa
open Go.RowKit Go.ChangeShapes Go.WideShapes Go.Deep

structure OpQ where
  kd : Int
  v : Int
  t : ByteArray
  s : ByteArray
def OpQ.cells (y : OpQ) : List Value := [.int .i64 y.kd, .int .i64 y.v, .string y.t, .string y.s]
instance opqInhabited : Inhabited OpQ := ⟨⟨0, 0, ⟨#[]⟩, ⟨#[]⟩⟩⟩
structure QSl (w : World) (F : Nat → Prop) (A : Option Addr) (n c : Nat) (ps : List OpQ) : Prop where
  len : ps.length = n
  cap : n ≤ c
  at_ : ∀ (i : Nat) (h : i < ps.length), ∃ b o, A = some ⟨b, o, none⟩ ∧ F b ∧ (Lit.int .i64 ps[i].v).wf = true ∧ Fits (ps[i].t, ps[i].s) ∧ ∀ k u, ps[i].cells[k]? = some u → w.cell? ⟨b, o + i * 4 + k, none⟩ = some u
theorem QSl.bel {w w' : World} {F : Nat → Prop} {A : Option Addr} {n c : Nat} {ps : List OpQ} (h : QSl w F A n c ps) (hF : ∀ k, F k → w'.heap[k]? = w.heap[k]?) : QSl w' F A n c ps := by
  refine ⟨h.len, h.cap, fun i hi => ?_⟩
  obtain ⟨b, o, e, hb, hw, hf, hc⟩ := h.at_ i hi
  exact ⟨b, o, e, hb, hw, hf, fun k u hu => by rw [World.cell?_of_block (w := w) (hF b hb)]; exact hc k u hu⟩
theorem spot_none {w : World} {a : Addr} {v : Value} (h : w.cell? a = some v) : a = ⟨a.block, a.off, none⟩ := by
  obtain ⟨b, o, s⟩ := a
  unfold World.cell? at h
  simp only at h
  split at h
  · cases s with
    | none => rfl
    | some _ => simp at h
  · cases h

section
variable {H : Type} {enc : TypeId × Value → H} {w : World} {base : Nat} {spare : Nat → Bool} {held : Bool} {fuel : Nat} {cs : List Value} {x : DataW H × List MemPlace}
theorem open_opq (h : DataW.trod enc Try.prog w base spare held fuel 48 cs = some x) :
    ∃ y : OpQ, cs = y.cells ∧ (Lit.int .i64 y.v).wf = true ∧ Fits (y.t, y.s) := by
  obtain ⟨ys, m, _, hx, hlen, hyl, hf⟩ := DataW.trod_struct Try.underlying48 h
  have hC : Try.prog.cellsOf 48 = 4 := by kernel_rfl
  rw [hC] at hlen
  have hS : Try.prog.cellsOf 9 = 1 := by kernel_rfl
  have hI : Try.prog.cellsOf 3 = 1 := by kernel_rfl
  have h0 : DataW.trod enc Try.prog w base spare held m 3 ((cs.drop 0).take (Try.prog.cellsOf 3)) = ys[0]? := hf 0 _ rfl
  have h1 : DataW.trod enc Try.prog w base spare held m 3 ((cs.drop 1).take (Try.prog.cellsOf 3)) = ys[1]? := hf 1 _ rfl
  have h2 : DataW.trod enc Try.prog w base spare held m 9 ((cs.drop 2).take (Try.prog.cellsOf 9)) = ys[2]? := hf 2 _ rfl
  have h3 : DataW.trod enc Try.prog w base spare held m 9 ((cs.drop 3).take (Try.prog.cellsOf 9)) = ys[3]? := hf 3 _ rfl
  rw [hI] at h0 h1; rw [hS] at h2 h3
  have hyl : ys.length = 4 := hyl
  match ys, hyl with
  | [y0, y1, y2, y3], _ =>
    match cs, hlen with
    | [v0, v1, v2, v3], _ =>
      obtain ⟨a0, e0, x0, _⟩ := DataW.trod_int Try.underlying3 (h0.trans rfl)
      obtain ⟨a1, e1, x1, w1⟩ := DataW.trod_int Try.underlying3 (h1.trans rfl)
      obtain ⟨a2, e2, x2, w2⟩ := DataW.trod_string Try.underlying9 (h2.trans rfl)
      obtain ⟨a3, e3, x3, w3⟩ := DataW.trod_string Try.underlying9 (h3.trans rfl)
      simp at e0 e1 e2 e3
      subst e0; subst e1; subst e2; subst e3
      exact ⟨⟨a0, a1, a2, a3⟩, rfl, w1, w2, w3⟩
theorem open_opqs (h : DataW.trod enc Try.prog w base spare held fuel 41 cs = some x) :
    ∃ A n c l, cs = [.slice A n c] ∧ QSl w (Old w) A n c l ∧ (n = 0 ∨ ∃ e s, x.1 = .slice e s ∧ e.length = n) := by
  rcases open_slice Try.underlying41 h with ⟨rfl, rfl⟩ | ⟨a, len, cap, m, nf, D, Pl, rfl, _, hl, _, hm, hx, hi⟩
  · exact ⟨none, 0, 0, [], rfl, ⟨rfl, Nat.le_refl _, fun i hi => by simp at hi⟩, .inl rfl⟩
  · have hC : Try.prog.cellsOf 48 = 4 := by kernel_rfl
    rw [hC] at hi
    have hlm : len ≤ m := by rw [hm]; split <;> omega
    obtain ⟨f, hf⟩ := choose_lt (α := OpQ) (n := len) (p := fun i r => (Lit.int .i64 r.v).wf = true ∧ Fits (r.t, r.s) ∧ ∀ k u, r.cells[k]? = some u → w.cell? ((a.add (i * 4)).add k) = some u) (fun i hi' => by
      obtain ⟨cs', hc, ht⟩ := hi i (by omega)
      obtain ⟨y, rfl, hw, hft⟩ := open_opq ht
      obtain ⟨_, _, hat⟩ := World.cells?_some hc
      refine ⟨y, hw, hft, fun k u hu => ?_⟩
      have hk : k < 4 := by have := (List.getElem?_eq_some_iff.1 hu).1; simpa [OpQ.cells] using this
      have := hat k hk
      rw [hu] at this
      exact this)
    have hx1 : ∃ e s, x.1 = .slice e s ∧ e.length = len := ⟨_, _, congrArg Prod.fst hx, by simp; try omega⟩
    refine ⟨some a, len, cap, (List.range len).map fun i => f i, rfl, ⟨by simp, hl, fun i hil => ?_⟩, .inr hx1⟩
    have hil' : i < len := by simpa using hil
    obtain ⟨hw, hft, hc⟩ := hf i hil'
    have h0 := (hf 0 (by omega)).2.2 0 (.int .i64 (f 0).kd) rfl
    have h0' : w.cell? a = some (.int .i64 (f 0).kd) := by simpa [Addr.add] using h0
    have ha := spot_none h0'
    have hal := block_of_cell h0'
    refine ⟨a.block, a.off, by rw [← ha], hal, by simpa using hw, by simpa using hft, fun k u hu => ?_⟩
    have h1 := hc k u (by simpa using hu)
    rw [addr_add_add, ha, addr_add_zero] at h1
    rw [Nat.add_assoc]; exact h1
end
theorem opqs_sized {H : Type} {ts : List TypeId} {ds : List (DataW H)} (h : (DataW.weightsEach Try.prog ts ds).all (· ≤ reachBytes) = true) {j n : Nat} {d : DataW H} (ht : ts[j]? = some 41) (hd : ds[j]? = some d)
    (hn : n = 0 ∨ ∃ e s, d = .slice e s ∧ e.length = n) : n ≤ 140737488351232 := by
  rcases hn with rfl | ⟨e, s, rfl, rfl⟩
  · omega
  · have := sized_slice h ht hd Try.underlying41
    have hb : Try.prog.bytesOf 48 = 48 := by kernel_rfl
    rw [hb] at this
    simp only [reachBytes] at this
    omega
end Go.Proofs.Ytglbhoamknjdeaa
