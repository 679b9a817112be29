/- Readings opened: bytes, arrays of bytes. -/
import Derived.Test.YtohaaejonlijeaaMem
import Derived.ChangeSlices
import Derived.OpenShut
import Derived.SizedLaws
import Derived.Deep.Slices
namespace Go.Proofs.Ytohaaejonlijeaa
open Go.RowKit Go.ChangeShapes Go.WideShapes Go.Deep

theorem byte_of_wf {z : Int} (h : (Lit.int .u8 z).wf = true) : ((UInt8.ofNat z.toNat).toNat : Int) = z := by
  have := bounds_u8 h
  rw [UInt8.toNat_ofNat', Nat.mod_eq_of_lt (by simp; omega)]
  omega
theorem block_of_cell {w : World} {ad : Addr} {v : Value} (h : w.cell? ad = some v) : ad.block < w.heap.size := World.block_lt_of_cell? _ _ h

section
variable {H : Type} {enc : TypeId × Value → H} {w : World} {base : Nat} {spare : Nat → Bool} {held : Bool} {fuel : Nat} {cs : List Value} {x : DataW H × List MemPlace}

theorem open_byte (h : DataW.trod enc Try.prog w base spare held fuel 5 cs = some x) : ∃ u, cs = [bv u] := by
  obtain ⟨n, rfl, _, hw⟩ := DataW.trod_int Try.underlying5 h
  exact ⟨UInt8.ofNat n.toNat, by rw [bv, byte_of_wf hw]⟩
theorem bs_of_all : ∀ cs : List Value, (∀ v ∈ cs, ∃ u, v = bv u) → ∃ l, cs = bs l
  | [], _ => ⟨[], rfl⟩
  | v :: cs, h => by
    obtain ⟨u, rfl⟩ := h v List.mem_cons_self
    obtain ⟨l, rfl⟩ := bs_of_all cs (fun v hv => h v (List.mem_cons_of_mem _ hv))
    exact ⟨u :: l, rfl⟩
theorem open_arr {T n : Nat} (hu : Try.prog.underlying T = some (.array n 5)) (hC : Try.prog.cellsOf T = n) (h : DataW.trod enc Try.prog w base spare held fuel T cs = some x) : ∃ l : List UInt8, l.length = n ∧ cs = bs l := by
  obtain ⟨xs, m, _, _, hlen, hxl, hf⟩ := DataW.trod_array hu h
  have hc1 : Try.prog.cellsOf 5 = 1 := by kernel_rfl
  rw [hC] at hlen
  obtain ⟨l, rfl⟩ := bs_of_all cs (fun v hv => by
    obtain ⟨i, hi⟩ := List.getElem?_of_mem hv
    have hin : i < cs.length := (List.getElem?_eq_some_iff.1 hi).1
    have h1 := hf i (by omega)
    rw [hc1, Nat.mul_one, List.getElem?_eq_getElem (show i < xs.length by omega)] at h1
    obtain ⟨u, hu⟩ := open_byte h1
    have h2 : (cs.drop i).take 1 = [cs[i]] := by
      rw [List.drop_eq_getElem_cons hin]; rfl
    rw [h2] at hu
    injection hu with hu
    refine ⟨u, ?_⟩
    rw [List.getElem?_eq_getElem hin] at hi
    injection hi with hi
    rw [← hi, hu])
  exact ⟨l, by rw [bs_length] at hlen; exact hlen, rfl⟩
end
end Go.Proofs.Ytohaaejonlijeaa
