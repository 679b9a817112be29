/- Readings of things opened. -/
import Derived.Test.YtnejcciociinmaaOpn
import Derived.Test.YtnejcciociinmaaBox6
namespace Go.Proofs.Ytnejcciociinmaa
open Go.RowKit Go.ChangeShapes Go.WideShapes Go.Deep

theorem spot_none {w : World} {a : Addr} {v : Value} (h : w.cell? a = some v) : a = ⟨a.block, a.off, none⟩ := by
  obtain ⟨b, o, s⟩ := a
  unfold World.cell? at h
  simp only at h
  split at h
  · cases s with
    | none => rfl
    | some _ => simp at h
  · cases h

instance thInhabited : Inhabited (Th × List Value) := ⟨(⟨[], [], [], []⟩, [])⟩
section
variable {H : Type} {enc : TypeId × Value → H} {w : World} {base : Nat} {spare : Nat → Bool} {held : Bool} {fuel : Nat} {cs : List Value} {x : DataW H × List MemPlace}

theorem open_thing (h : DataW.trod enc Try.prog w base spare held fuel 50 cs = some x) : ∃ r, ThOk w (Old w) r cs := by
  obtain ⟨ys, m, _, _, hlen, _, hf⟩ := DataW.trod_struct Try.underlying50 h
  have hC : Try.prog.cellsOf 50 = 46 := by kernel_rfl
  rw [hC] at hlen
  have hK : Try.prog.cellsOf 38 = 32 := by kernel_rfl
  have hN : Try.prog.cellsOf 40 = 12 := by kernel_rfl
  have hS : Try.prog.cellsOf 22 = 1 := by kernel_rfl
  have h0 : DataW.trod enc Try.prog w base spare held m 38 ((cs.drop 0).take (Try.prog.cellsOf 38)) = ys[0]? := hf 0 _ rfl
  have h1 : DataW.trod enc Try.prog w base spare held m 40 ((cs.drop 32).take (Try.prog.cellsOf 40)) = ys[1]? := hf 1 _ rfl
  have h2 : DataW.trod enc Try.prog w base spare held m 22 ((cs.drop 44).take (Try.prog.cellsOf 22)) = ys[2]? := hf 2 _ rfl
  have h3 : DataW.trod enc Try.prog w base spare held m 22 ((cs.drop 45).take (Try.prog.cellsOf 22)) = ys[3]? := hf 3 _ rfl
  rw [hK] at h0; rw [hN] at h1; rw [hS] at h2 h3
  have hyl : ys.length = 4 := by assumption
  rw [List.getElem?_eq_getElem (by omega)] at h0 h1 h2 h3
  obtain ⟨k, hk, ek⟩ := open_arr Try.underlying38 hK h0
  obtain ⟨n, hn, en⟩ := open_arr Try.underlying40 hN h1
  obtain ⟨A1, n1, c1, l1, e1, s1, _⟩ := open_sl h2
  obtain ⟨A2, n2, c2, l2, e2, s2, _⟩ := open_sl h3
  refine ⟨⟨k, n, l1, l2⟩, hk, hn, .slice A1 n1 c1, .slice A2 n2 c2, ?_, ⟨_, _, _, rfl, s1⟩, ⟨_, _, _, rfl, s2⟩⟩
  have d0 : cs = cs.take 32 ++ cs.drop 32 := (List.take_append_drop 32 cs).symm
  have d1 : cs.drop 32 = (cs.drop 32).take 12 ++ cs.drop 44 := by
    have := (List.take_append_drop 12 (cs.drop 32)).symm
    rw [List.drop_drop] at this; exact this
  have d2 : cs.drop 44 = (cs.drop 44).take 1 ++ cs.drop 45 := by
    have := (List.take_append_drop 1 (cs.drop 44)).symm
    rw [List.drop_drop] at this; exact this
  have d3 : cs.drop 45 = (cs.drop 45).take 1 := by
    rw [List.take_of_length_le (by rw [List.length_drop]; omega)]
  rw [List.drop_zero] at ek
  rw [thC, d0, ek, d1, en, d2, e1, d3, e2]
  rfl

theorem open_things (h : DataW.trod enc Try.prog w base spare held fuel 46 cs = some x) :
    ∃ A n c l, cs = [.slice A n c] ∧ ThSl w (Old w) A n c l ∧ (n = 0 ∨ ∃ e s, x.1 = .slice e s ∧ e.length = n) := by
  rcases open_slice Try.underlying46 h with ⟨rfl, rfl⟩ | ⟨a, len, cap, m, nf, D, Pl, rfl, _, hl, _, hm, hx, hi⟩
  · exact ⟨none, 0, 0, [], rfl, ⟨rfl, Nat.le_refl _, fun i hi => by simp at hi⟩, .inl rfl⟩
  · have hC : Try.prog.cellsOf 50 = 46 := by kernel_rfl
    rw [hC] at hi
    have hlm : len ≤ m := by rw [hm]; split <;> omega
    obtain ⟨f, hf⟩ := choose_lt (α := Th × List Value) (n := len) (p := fun i r => ThOk w (Old w) r.1 r.2 ∧ ∀ j x, r.2[j]? = some x → w.cell? ((a.add (i * 46)).add j) = some x) (fun i hil => by
      obtain ⟨cs', hc, ht⟩ := hi i (by omega)
      obtain ⟨r, hr⟩ := open_thing ht
      obtain ⟨_, hcl, hat⟩ := World.cells?_some hc
      refine ⟨(r, cs'), hr, fun j x hx => ?_⟩
      have hj : j < 46 := by have h1 : j < cs'.length := (List.getElem?_eq_some_iff.1 hx).1; omega
      exact (hat j hj).trans hx)
    refine ⟨some a, len, cap, (List.range len).map fun i => (f i).1, rfl, ⟨by simp, hl, fun i hil => ?_⟩, .inr ⟨_, _, congrArg Prod.fst hx, by simp⟩⟩
    have hil' : i < len := by simpa using hil
    obtain ⟨hok, hcell⟩ := hf i hil'
    have hok0 := (hf 0 (by omega)).1
    obtain ⟨_, _, h0, p0, e0, _⟩ := hok0
    have hlen0 : (f 0).2.length = 46 := by rw [e0]; simp [thC, bs_length, *]
    have hsp := (hf 0 (by omega)).2 0 _ (List.getElem?_eq_getElem (by omega))
    have hsp' : w.cell? a = some ((f 0).2[0]'(by omega)) := by simpa [Addr.add] using hsp
    have ha := spot_none hsp'
    have hal := block_of_cell hsp'
    refine ⟨a.block, a.off, (f i).2, by rw [← ha], hal, by simpa using hok, fun j x hx => ?_⟩
    have := hcell j x hx
    rw [addr_add_add, ha, addr_add_zero] at this
    rw [Nat.add_assoc]; exact this
end
theorem things_sized {H : Type} {ts : List TypeId} {ds : List (DataW H)} (h : (DataW.weightsEach Try.prog ts ds).all (· ≤ reachBytes) = true) {j n : Nat} {d : DataW H} (ht : ts[j]? = some 46) (hd : ds[j]? = some d)
    (hn : n = 0 ∨ ∃ e s, d = .slice e s ∧ e.length = n) : n ≤ 140737488351232 := by
  rcases hn with rfl | ⟨e, s, rfl, rfl⟩
  · omega
  · have := sized_slice h ht hd Try.underlying46
    have hb : Try.prog.bytesOf 50 = 96 := by kernel_rfl
    rw [hb] at this
    simp only [reachBytes] at this
    omega
end Go.Proofs.Ytnejcciociinmaa
