/- Aead: appends to lines. -/
import Derived.Test.YtklclbppdoahjaaCh11
import Derived.Test.YtklclbppdoahjaaPo12
import Derived.Lib.AppendStr
namespace Go.Proofs.Ytklclbppdoahjaa
set_option maxRecDepth 100000
open Go.RowKit

theorem zero_cells (m : Nat) : Builtin.zeroCells #[Value.int .u8 0] m = (bs (List.replicate m 0)).toArray := by
  apply Array.ext'
  simp [Builtin.zeroCells, bs, bv]
  apply List.ext_getElem
  · simp
  · intro i h1 h2
    simp [Nat.mod_one]
def zStr (m : Nat) : ByteArray := ⟨(List.replicate m 0).toArray⟩
theorem run_append_slice_eq (w : World) (ty : TypeId) (A : Option Addr) (n c : Nat) (x : Value) : (Builtin.append_ #[62, 26] ty #[.slice A n c, x]).run Try.prog w = (Builtin.append_ #[62, 62] ty #[.slice A n c, x]).run Try.prog w := by
  simp [Builtin.append_, run_underlying Try.underlying62, run_underlying Try.underlying26]
theorem run_append_zeros_eq (w : World) (ty : TypeId) (A : Option Addr) (n c m : Nat) (h : n + m ≤ 1000000000) :
    (Builtin.append_ #[62, 3] ty #[.slice A n c, .int .i64 (m : Nat)]).run Try.prog w = (Builtin.append_ #[62, 9] ty #[.slice A n c, .string (zStr m)]).run Try.prog w := by
  obtain ⟨i0, hi, hz0, hz1, hz2⟩ := info_parts Try.infoB
  have hw : IntKind.i64.wrap (m : Int) = m := by rw [IntKind.wrap_i64]; omega
  have hw0 : IntKind.i64.wrap 0 = 0 := by rw [IntKind.wrap_i64]; rfl
  have hneg : ¬ ((m : Int) < 0) := by omega
  have hbig : ¬ (281474976710656 < (m : Int)) := by omega
  have hsz : (zStr m).size = m := by simp [zStr, ByteArray.size]
  have h63 : ¬ (9223372036854775807 < ((n : Int) + (m : Int))) := by omega
  have hfc := fun w : World => Lib.run_firstCells_string (P := Try.prog) (w := w) 1 (zStr m)
  rw [hsz] at hfc
  have hcells : Lib.strCells (zStr m) = bs (List.replicate m 0) := by
    simp [Lib.strCells, zStr, bs, bv]
  rw [hcells] at hfc
  have hzc : Builtin.zeroCells (Value.int IntKind.u8 0).cells m = (bs (List.replicate m 0)).toArray := zero_cells m
  have h48 : n + m ≤ c ∨ ¬ (281474976710656 < Builtin.nextslicecap (n + m) c) := by
    by_cases hc : n + m ≤ c
    · exact .inl hc
    · right
      have := growslice_fits (need := n + m) (old := c) (bytes := 1) (by omega) (by omega)
      omega
  by_cases hroom : n + m ≤ c
  · by_cases hm : m = 0
    · subst hm
      have e0 : (bs (List.replicate 0 0)).toArray = #[] := rfl
      rw [e0] at hfc
      have hr2 : n ≤ c := by omega
      simp [Builtin.append_, run_underlying Try.underlying62, run_underlying Try.underlying3, run_underlying Try.underlying9, sizeOf, typeInfo, zeroValue, hi, hz0, hz1, hz2, asInt, asIntOf, hw, hw0, hneg, hbig, Builtin.lenOf, hsz, h63, hroom, hr2, hfc]
    · simp [Builtin.append_, run_underlying Try.underlying62, run_underlying Try.underlying3, run_underlying Try.underlying9, sizeOf, typeInfo, zeroValue, hi, hz0, hz1, hz2, asInt, asIntOf, hw, hw0, hneg, hbig, Builtin.lenOf, hsz, h63, hroom, hfc, hm, hzc]
  · have h48' := h48.resolve_left hroom
    by_cases hm : m = 0
    · subst hm
      have e0 : (bs (List.replicate 0 0)).toArray = #[] := rfl
      rw [e0] at hfc
      have hr2 : ¬ (n ≤ c) := by omega
      have h632 : ¬ (9223372036854775807 < (n : Int)) := by omega
      rw [Nat.add_zero] at h48'
      simp [Builtin.append_, run_underlying Try.underlying62, run_underlying Try.underlying3, run_underlying Try.underlying9, sizeOf, typeInfo, zeroValue, hi, hz0, hz1, hz2, asInt, asIntOf, hw, hw0, hneg, hbig, Builtin.lenOf, hsz, h63, hroom, hr2, h632, hfc, h48']
    · simp [Builtin.append_, run_underlying Try.underlying62, run_underlying Try.underlying3, run_underlying Try.underlying9, sizeOf, typeInfo, zeroValue, hi, hz0, hz1, hz2, asInt, asIntOf, hw, hw0, hneg, hbig, Builtin.lenOf, hsz, h63, hroom, hfc, hm, hzc, h48']
      trace_state
end Go.Proofs.Ytklclbppdoahjaa
