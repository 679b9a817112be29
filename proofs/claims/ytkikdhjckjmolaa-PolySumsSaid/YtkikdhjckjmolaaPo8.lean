/- Poly: words, Add64. -/
import Derived.Test.YtkikdhjckjmolaaPo7
namespace Go.Proofs.Ytkikdhjckjmolaa
open Go.RowKit
attribute [local go_sem] yld yldUpon_value

theorem words_val {l : List Nat} (_ : l.length = 5) (hb : LeL l 67108863) :
    l.getD 0 0 + 67108864 * l.getD 1 0 + 4503599627370496 * (l.getD 2 0 % 4096) = valL l % 18446744073709551616 ∧
    l.getD 2 0 / 4096 + 16384 * l.getD 3 0 + 1099511627776 * (l.getD 4 0 % 16777216) = valL l / 18446744073709551616 % 18446744073709551616 := by
  have h0 := getD_le hb 0; have h1 := getD_le hb 1; have h2 := getD_le hb 2; have h3 := getD_le hb 3; have h4 := getD_le hb 4
  unfold valL
  omega
set_option maxRecDepth 100000 in
set_option maxHeartbeats 8000000 in
theorem pwords_any {w : World} {g : Nat} {l : List Nat} (h : Num w g l) (hb : LeL l 67108863) :
    Calls Try.prog 24 #[.pointer (some ⟨g, 0, none⟩)] w fun e w' => e = .returned (.tuple #[.int .u64 ((valL l % 18446744073709551616 : Nat) : Int), .int .u64 ((valL l / 18446744073709551616 % 18446744073709551616 : Nat) : Int)]) ∧ Below w.heap.size w w' := by
  obtain ⟨v1, v2⟩ := words_val h.len hb
  have V1 := Lib.hid v1.symm; have V2 := Lib.hid v2.symm
  have b0 := getD_le hb 0; have b1 := getD_le hb 1; have b2 := getD_le hb 2; have b3 := getD_le hb 3; have b4 := getD_le hb 4
  have c0 := h.cell (i := 0) (by decide); have c1 := h.cell (i := 1) (by decide); have c2 := h.cell (i := 2) (by decide); have c3 := h.cell (i := 3) (by decide); have c4 := h.cell (i := 4) (by decide)
  clear v1 v2 hb h
  generalize l.getD 0 0 = n0 at *
  generalize l.getD 1 0 = n1 at *
  generalize l.getD 2 0 = n2 at *
  generalize l.getD 3 0 = n3 at *
  generalize l.getD 4 0 = n4 at *
  obtain ⟨X, hX⟩ : ∃ X, X = n0 + 67108864 * n1 + 4503599627370496 * (n2 % 4096) := ⟨_, rfl⟩
  obtain ⟨Y, hY⟩ : ∃ Y, Y = n2 / 4096 + 16384 * n3 + 1099511627776 * (n4 % 16777216) := ⟨_, rfl⟩
  obtain ⟨s1, hs1⟩ : ∃ s, s = 67108864 * n1 := ⟨_, rfl⟩
  obtain ⟨s2, hs2⟩ : ∃ s, s = 4503599627370496 * (n2 % 4096) := ⟨_, rfl⟩
  obtain ⟨s3, hs3⟩ : ∃ s, s = 16384 * n3 := ⟨_, rfl⟩
  obtain ⟨s4, hs4⟩ : ∃ s, s = 1099511627776 * (n4 % 16777216) := ⟨_, rfl⟩
  obtain ⟨o1, ho1⟩ : ∃ s, s = n0 + s1 := ⟨_, rfl⟩
  obtain ⟨q2, hq2⟩ : ∃ s, s = n2 / 4096 := ⟨_, rfl⟩
  obtain ⟨o3, ho3⟩ : ∃ s, s = q2 + s3 := ⟨_, rfl⟩
  have w1 : IntKind.u64.wrap ((n1 : Int) * 67108864) = (s1 : Int) := by rw [wrap_u64]; omega
  have w2 : IntKind.u64.wrap ((n2 : Int) * 4503599627370496) = (s2 : Int) := by rw [wrap_u64]; omega
  have w3 : IntKind.u64.wrap ((n3 : Int) * 16384) = (s3 : Int) := by rw [wrap_u64]; omega
  have w4 : IntKind.u64.wrap ((n4 : Int) * 1099511627776) = (s4 : Int) := by rw [wrap_u64]; omega
  have d2 : (n2 : Int) / 4096 = (q2 : Int) := by omega
  have r1 : bits .or .u64 (n0 : Int) (s1 : Int) = (o1 : Int) := by rw [hs1, ho1, hs1]; exact or64 n0 n1 26 (by omega) (by omega)
  have r2 : bits .or .u64 (o1 : Int) (s2 : Int) = (X : Int) := by rw [hs2, hX, show n0 + 67108864 * n1 = o1 by omega]; exact or64 o1 (n2 % 4096) 52 (by omega) (by omega)
  have r3 : bits .or .u64 (q2 : Int) (s3 : Int) = (o3 : Int) := by rw [hs3, ho3, hs3]; exact or64 q2 n3 14 (by omega) (by omega)
  have r4 : bits .or .u64 (o3 : Int) (s4 : Int) = (Y : Int) := by rw [hs4, hY, show n2 / 4096 + 16384 * n3 = o3 by omega]; exact or64 o3 (n4 % 16777216) 40 (by omega) (by omega)
  rw [← hX] at V1; rw [← hY] at V2
  clear hs1 hs2 hs3 hs4 ho1 hq2 ho3 hX hY b0 b1 b2 b3 b4
  go_enter Try.func24, Try.ntmps24
  go_wp2_with fail
  go_region
  go_wp2_with fail
  refine bodyPost_ret (v := .tuple #[.int .u64 (X : Int), .int .u64 (Y : Int)]) (by simp [results, Try.results24, go_sem]) rfl ⟨by rw [V1.out, V2.out], Below.dr1 w⟩
end Go.Proofs.Ytkikdhjckjmolaa
