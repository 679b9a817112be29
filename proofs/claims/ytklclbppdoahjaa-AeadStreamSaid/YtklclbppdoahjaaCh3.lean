/- Words out of bytes; the square that a block begins with. -/
import Derived.Test.YtklclbppdoahjaaCh2
import Derived.Lib.SlBytesConst
import Derived.Test.YtklclbppdoahjaaArr
import Derived.Test.YtklclbppdoahjaaKit3
import Derived.Test.YtklclbppdoahjaaByb
namespace Go.Proofs.Ytklclbppdoahjaa
set_option maxRecDepth 100000
open Go.RowKit
attribute [local go_sem] yld yldUpon_value

def leAt (l : List UInt8) (i : Nat) : BitVec 32 := leW (l.getD i 0) (l.getD (i + 1) 0) (l.getD (i + 2) 0) (l.getD (i + 3) 0)
theorem wrap64_id (x : Int) (h0 : -9223372036854775808 ≤ x) (h : x ≤ 9223372036854775807) : IntKind.i64.wrap x = x := by
  simp only [IntKind.wrap, IntKind.signed, IntKind.bits]
  simp
  omega
theorem wrap_u32 (x : Int) : IntKind.u32.wrap x = x % 4294967296 := by
  simp only [IntKind.wrap, IntKind.signed, IntKind.bits]
  simp
theorem getD_eq {l : List UInt8} {i : Nat} (h : i < l.length) : l.getD i 0 = l[i] := by simp [List.getD, h]

theorem Sl.four {w : World} {F : Nat → Prop} {A : Option Addr} {n c : Nat} {l : List UInt8} (h : Sl w F A n c l) (i : Nat) (hi : i + 3 < n) : ∃ ad b0 b1 b2 b3, A = some ad ∧ leAt l i = leW b0 b1 b2 b3 ∧
    w.cell? (ad.add i) = some (.int .u8 (b0.toNat : Int)) ∧ w.cell? (ad.add (i + 1)) = some (.int .u8 (b1.toNat : Int)) ∧ w.cell? (ad.add (i + 2)) = some (.int .u8 (b2.toNat : Int)) ∧ w.cell? (ad.add (i + 3)) = some (.int .u8 (b3.toNat : Int)) := by
  have hlen := h.len
  obtain ⟨ad, rfl, h0⟩ := h.rd i _ (bs_get l i (by omega))
  obtain ⟨ad1, e1, h1⟩ := h.rd (i + 1) _ (bs_get l (i + 1) (by omega))
  obtain ⟨ad2, e2, h2⟩ := h.rd (i + 2) _ (bs_get l (i + 2) (by omega))
  obtain ⟨ad3, e3, h3⟩ := h.rd (i + 3) _ (bs_get l (i + 3) (by omega))
  injection e1 with e1; injection e2 with e2; injection e3 with e3
  subst e1 e2 e3
  refine ⟨_, _, _, _, _, rfl, ?_, h0, h1, h2, h3⟩
  unfold leAt
  rw [getD_eq (by omega), getD_eq (by omega), getD_eq (by omega), getD_eq (by omega)]

set_option maxHeartbeats 1000000 in
theorem at_any {w : World} {F : Nat → Prop} {A : Option Addr} {n c : Nat} {l : List UInt8} (h : Sl w F A n c l) (i : Nat) (hi : i + 3 < n) (hn : n ≤ 9223372036854775000) :
    Calls Try.prog 64 #[.slice A n c, .int .i64 i] w fun e w' => e = .returned (.int .u32 (wv (leAt l i))) ∧ ∃ k, w' = w.drewN k := by
  obtain ⟨ad, b0, b1, b2, b3, rfl, hle, h0, h1, h2, h3⟩ := h.four i hi
  rw [hle]
  obtain ⟨i1, e1⟩ : ∃ i1, i1 = i + 1 := ⟨_, rfl⟩
  obtain ⟨i2, e2⟩ : ∃ i2, i2 = i + 2 := ⟨_, rfl⟩
  obtain ⟨i3, e3⟩ : ∃ i3, i3 = i + 3 := ⟨_, rfl⟩
  rw [← e1] at h1; rw [← e2] at h2; rw [← e3] at h3
  have j0 : (i : Int) < n := by omega
  have j1 : (i1 : Int) < n := by omega
  have j2 : (i2 : Int) < n := by omega
  have j3 : (i3 : Int) < n := by omega
  have i0 : (0 : Int) ≤ (i : Int) := by omega
  have v1 : IntKind.i64.wrap ((i : Int) + 1) = (i1 : Int) := by rw [wrap64_id _ (by omega) (by omega)]; omega
  have v2 : IntKind.i64.wrap ((i : Int) + 2) = (i2 : Int) := by rw [wrap64_id _ (by omega) (by omega)]; omega
  have v3 : IntKind.i64.wrap ((i : Int) + 3) = (i3 : Int) := by rw [wrap64_id _ (by omega) (by omega)]; omega
  clear e1 e2 e3
  clear h hn hi hle
  go_enter Try.func64, Try.ntmps64
  go_wp2_with fail
  go_quiet (fail)
  go_wp2
  go_ret
  exact ⟨ret_int (le_num _ _ _ _), nq, rfl⟩
theorem at_at {w : World} {F : Nat → Prop} {A : Option Addr} {n c : Nat} {l : List UInt8} (h : Sl w F A n c l) (I : Int) (i : Nat) (hI : I = i) (hi : i + 3 < n) (hn : n ≤ 9223372036854775000) :
    Calls Try.prog 64 #[.slice A n c, .int .i64 I] w fun e w' => e = .returned (.int .u32 (wv (leAt l i))) ∧ ∃ k, w' = w.drewN k := by
  subst hI; exact at_any h i hi hn
end Go.Proofs.Ytklclbppdoahjaa
