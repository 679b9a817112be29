/- Slices of slices of bytes, as arguments. -/
import Derived.Test.YtjfnpndpigpaiaaOpn
namespace Go.Proofs.Ytjfnpndpigpaiaa
open Go.RowKit Go.ChangeShapes Go.WideShapes Go.Deep

structure NsSl (w : World) (F : Nat → Prop) (A : Option Addr) (n c : Nat) (ls : List (List UInt8)) : Prop where
  len : ls.length = n
  cap : n ≤ c
  at_ : ∀ (i : Nat) (h : i < ls.length), ∃ b o A1 n1 c1, A = some ⟨b, o, none⟩ ∧ F b ∧ w.cell? ⟨b, o + i, none⟩ = some (.slice A1 n1 c1) ∧ Sl w F A1 n1 c1 ls[i]
theorem spot_none {w : World} {a : Addr} {v : Value} (h : w.cell? a = some v) : a = ⟨a.block, a.off, none⟩ := by
  obtain ⟨b, o, s⟩ := a
  unfold World.cell? at h
  simp only at h
  split at h
  · cases s with
    | none => rfl
    | some _ => simp at h
  · cases h
structure RowR where
  A : Option Addr
  n : Nat
  c : Nat
  l : List UInt8
instance rowInhabited : Inhabited RowR := ⟨⟨none, 0, 0, []⟩⟩
section
variable {H : Type} {enc : TypeId × Value → H} {w : World} {base : Nat} {spare : Nat → Bool} {held : Bool} {fuel : Nat} {cs : List Value} {x : DataW H × List MemPlace}
theorem open_nested (h : DataW.trod enc Try.prog w base spare held fuel 46 cs = some x) :
    ∃ A n c l, cs = [.slice A n c] ∧ NsSl w (Old w) A n c l ∧ (n = 0 ∨ ∃ e s, x.1 = .slice e s ∧ e.length = n) := by
  rcases open_slice Try.underlying46 h with ⟨rfl, rfl⟩ | ⟨a, len, cap, m, nf, D, Pl, rfl, _, hl, _, hm, hx, hi⟩
  · exact ⟨none, 0, 0, [], rfl, ⟨rfl, Nat.le_refl _, fun i hi => by simp at hi⟩, .inl rfl⟩
  · have hC : Try.prog.cellsOf 31 = 1 := by kernel_rfl
    rw [hC] at hi
    have hlm : len ≤ m := by rw [hm]; split <;> omega
    obtain ⟨f, hf⟩ := choose_lt (α := RowR) (n := len) (p := fun i r => Sl w (Old w) r.A r.n r.c r.l ∧ w.cell? (a.add i) = some (.slice r.A r.n r.c)) (fun i hil => by
      obtain ⟨cs', hc, ht⟩ := hi i (by omega)
      obtain ⟨A, n, c, l, rfl, hs, _⟩ := open_sl ht
      obtain ⟨_, _, hat⟩ := World.cells?_some hc
      refine ⟨⟨A, n, c, l⟩, hs, ?_⟩
      have := hat 0 (by decide)
      rw [Nat.mul_one] at this
      simpa [Addr.add] using this)
    refine ⟨some a, len, cap, (List.range len).map fun i => (f i).l, rfl, ⟨by simp, hl, fun i hil => ?_⟩, .inr ⟨_, _, congrArg Prod.fst hx, by simp⟩⟩
    have hil' : i < len := by simpa using hil
    obtain ⟨hs, hcell⟩ := hf i hil'
    have h0 := (hf 0 (by omega)).2
    have h0' : w.cell? a = some (.slice (f 0).A (f 0).n (f 0).c) := by simpa [Addr.add] using h0
    have ha := spot_none h0'
    have hal := block_of_cell h0'
    refine ⟨a.block, a.off, (f i).A, (f i).n, (f i).c, by rw [← ha], hal, ?_, by simpa using hs⟩
    rw [ha, addr_add_zero] at hcell; exact hcell
end
theorem nested_sized {H : Type} {ts : List TypeId} {ds : List (DataW H)} (h : (DataW.weightsEach Try.prog ts ds).all (· ≤ reachBytes) = true) {j n : Nat} {d : DataW H} (ht : ts[j]? = some 46) (hd : ds[j]? = some d)
    (hn : n = 0 ∨ ∃ e s, d = .slice e s ∧ e.length = n) : n ≤ 140737488351232 := by
  rcases hn with rfl | ⟨e, s, rfl, rfl⟩
  · omega
  · have := sized_slice h ht hd Try.underlying46
    have hb : Try.prog.bytesOf 31 = 24 := by kernel_rfl
    rw [hb] at this
    simp only [reachBytes] at this
    omega
theorem NsSl.bel {w w' : World} {F : Nat → Prop} {A : Option Addr} {n c : Nat} {ls : List (List UInt8)} (h : NsSl w F A n c ls) (hF : ∀ k, F k → w'.heap[k]? = w.heap[k]?) : NsSl w' F A n c ls := by
  refine ⟨h.len, h.cap, fun i hi => ?_⟩
  obtain ⟨b, o, A1, n1, c1, e, hb, hc, hs⟩ := h.at_ i hi
  refine ⟨b, o, A1, n1, c1, e, hb, by rw [World.cell?_of_block (w := w) (hF b hb)]; exact hc, hs.len, hs.cap, hs.nil, hs.foot, hs.rd.of_eq fun ad e hne => hF _ (hs.foot ad e hne)⟩
end Go.Proofs.Ytjfnpndpigpaiaa
