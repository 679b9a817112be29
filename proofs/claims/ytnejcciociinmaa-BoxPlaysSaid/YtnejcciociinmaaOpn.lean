/- Readings opened: bytes, arrays of bytes. -/
import Derived.Test.YtnejcciociinmaaMem
import Derived.ChangeSlices
import Derived.OpenShut
import Derived.SizedLaws
import Derived.Deep.Slices
namespace Go.Proofs.Ytnejcciociinmaa
open Go.RowKit Go.ChangeShapes Go.WideShapes Go.Deep

theorem byte_of_wf {z : Int} (h : (Lit.int .u8 z).wf = true) : ((UInt8.ofNat z.toNat).toNat : Int) = z := by
  have := bounds_u8 h
  rw [UInt8.toNat_ofNat', Nat.mod_eq_of_lt (by simp; omega)]
  omega
theorem block_of_cell {w : World} {ad : Addr} {v : Value} (h : w.cell? ad = some v) : ad.block < w.heap.size := World.block_lt_of_cell? _ _ h

section
variable {H : Type} {enc : TypeId × Value → H} {w : World} {base : Nat} {spare : Nat → Bool} {held : Bool} {fuel : Nat} {cs : List Value} {x : DataW H × List MemPlace}

theorem open_sl (h : DataW.trod enc Try.prog w base spare held fuel 22 cs = some x) :
    ∃ A n c l, cs = [.slice A n c] ∧ Sl w (Old w) A n c l ∧ (n = 0 ∨ ∃ e s, x.1 = .slice e s ∧ e.length = n) := by
  rcases open_ints Try.underlying22 Try.underlying5 (by kernel_rfl) h with ⟨rfl, rfl⟩ | ⟨a, len, cap, zs, rfl, _, hl, hm, hz, hx, hcell, hwz⟩
  · exact ⟨none, 0, 0, [], rfl, Sl.nil_ _ _, .inl rfl⟩
  · have hzl : len ≤ zs.length := by rw [hz]; split <;> omega
    have hget : ∀ j v, (bs ((zs.take len).map fun z => UInt8.ofNat z.toNat))[j]? = some v → w.cell? (a.add j) = some v := by
      intro j v hv
      have hj : j < len := by
        have := (List.getElem?_eq_some_iff.1 hv).1
        simp [bs] at this; omega
      have hc := hcell j (by omega)
      have hzj : zs[j]? = some zs[j] := List.getElem?_eq_getElem (by omega)
      rw [hc]
      simp only [bs, List.map_map, List.getElem?_map, List.getElem?_take, if_pos hj, hzj, Option.map_some, Option.some.injEq, Function.comp] at hv
      rw [← hv, bv, byte_of_wf (hwz _ (List.getElem_mem _))]
      simp [List.getD, hzj]
    refine ⟨some a, len, cap, (zs.take len).map fun z => UInt8.ofNat z.toNat, rfl, ⟨by simp; omega, hl, (fun e => by cases e), ?_, ?_⟩, .inr ⟨_, _, congrArg Prod.fst hx, by simp [lits]; omega⟩⟩
    · intro ad he hne
      injection he with he; subst he
      obtain ⟨v, hv⟩ := List.exists_mem_of_ne_nil _ hne
      obtain ⟨j, hj⟩ := List.getElem?_of_mem hv
      have := block_of_cell (hget j v hj)
      rw [addr_add_block] at this
      exact this
    · exact fun j v hv => ⟨a, rfl, hget j v hv⟩

theorem open_byte (h : DataW.trod enc Try.prog w base spare held fuel 5 cs = some x) : ∃ u, cs = [bv u] := by
  obtain ⟨n, rfl, _, hw⟩ := DataW.trod_int Try.underlying5 h
  exact ⟨UInt8.ofNat n.toNat, by rw [bv, byte_of_wf hw]⟩
theorem bs_of_all : ∀ cs : List Value, (∀ v ∈ cs, ∃ u, v = bv u) → ∃ l, cs = bs l
  | [], _ => ⟨[], rfl⟩
  | v :: cs, h => by
    obtain ⟨u, rfl⟩ := h v List.mem_cons_self
    obtain ⟨l, rfl⟩ := bs_of_all cs (fun v hv => h v (List.mem_cons_of_mem _ hv))
    exact ⟨u :: l, rfl⟩
theorem open_arr {T n : Nat} (hu : Try.prog.underlying T = some (.array n 5)) (hC : Try.prog.cellsOf T = n) (h : DataW.trod enc Try.prog w base spare held fuel T cs = some x) : ∃ l : List UInt8, l.length = n ∧ cs = bs l := by
  obtain ⟨xs, m, _, _, hlen, hxl, hf⟩ := DataW.trod_array hu h
  have hc1 : Try.prog.cellsOf 5 = 1 := by kernel_rfl
  rw [hC] at hlen
  obtain ⟨l, rfl⟩ := bs_of_all cs (fun v hv => by
    obtain ⟨i, hi⟩ := List.getElem?_of_mem hv
    have hin : i < cs.length := (List.getElem?_eq_some_iff.1 hi).1
    have h1 := hf i (by omega)
    rw [hc1, Nat.mul_one, List.getElem?_eq_getElem (show i < xs.length by omega)] at h1
    obtain ⟨u, hu⟩ := open_byte h1
    have h2 : (cs.drop i).take 1 = [cs[i]] := by
      rw [List.drop_eq_getElem_cons hin]; rfl
    rw [h2] at hu
    injection hu with hu
    refine ⟨u, ?_⟩
    rw [List.getElem?_eq_getElem hin] at hi
    injection hi with hi
    rw [← hi, hu])
  exact ⟨l, by rw [bs_length] at hlen; exact hlen, rfl⟩
end
/-- how long an argument's bytes may be -/
theorem sl_sized {H : Type} {ts : List TypeId} {ds : List (DataW H)} (h : (DataW.weightsEach Try.prog ts ds).all (· ≤ reachBytes) = true) {j n : Nat} {d : DataW H} (ht : ts[j]? = some 22) (hd : ds[j]? = some d)
    (hn : n = 0 ∨ ∃ e s, d = .slice e s ∧ e.length = n) : n ≤ 140737488351232 := by
  rcases hn with rfl | ⟨e, s, rfl, rfl⟩
  · omega
  · have := sized_slice h ht hd Try.underlying22
    have hb : Try.prog.bytesOf 5 = 1 := by kernel_rfl
    rw [hb] at this
    simp only [reachBytes] at this
    omega
end Go.Proofs.Ytnejcciociinmaa
