/- Poly: published, sum. -/
import Derived.Test.YtkikdhjckjmolaaPo14
namespace Go.Proofs.Ytkikdhjckjmolaa
open Go.RowKit
attribute [local go_sem] yld yldUpon_value

def pubL : List UInt8 := [0x85, 0xD6, 0xBE, 0x78, 0x57, 0x55, 0x6D, 0x33, 0x7F, 0x44, 0x52, 0xFE, 0x42, 0xD5, 0x06, 0xA8, 0x01, 0x03, 0x80, 0x8A, 0xFB, 0x0D, 0xB2, 0xFD, 0x4A, 0xBF, 0xF6, 0xAF, 0x41, 0x49, 0xF5, 0x1B]
set_option maxRecDepth 100000 in
set_option maxHeartbeats 8000000 in
theorem published_any (w : World) :
    Calls Try.prog 17 #[] w fun e w' => e = .returned (.agg (bs pubL).toArray) ∧ Below w.heap.size w w' := by
  obtain ⟨iK, hiK, zK, _, _⟩ := info_parts Try.infoK
  have HiK := Lib.hid hiK; have HzK := Lib.hid zK
  clear hiK zK
  have uK := Lib.hid Try.underlying23
  have iK2 : Hid ((Try.prog.info? 23).map (·.size) = some (bs pubL).length) := Try.sizeKey
  go_enter Try.func17, Try.ntmps17
  go_wp2_with (first
    | ((with_reducible refine lst_alloc_d 0 rfl 23 rfl iK _ HiK.out HzK.out ?_ ?_)
       (focus rfl)
       intro g4 w2 Hg4 Hh4 hb2
       have G4 : Hid (w2.heap[g4]? = some (.cells (bs (List.replicate 32 0)).toArray 23 (0, 0))) := Hh4
       have B2 := Lib.hid hb2
       have E4 : Hid (w.heap.size ≤ g4) := by have := Hg4.out.1; show _ ≤ _; omega
       clear Hg4 Hh4 hb2)
    | (refine lst_store_abs 23 (.tmp 0) (.tmp 1) rfl g4 23 (bs (List.replicate 32 0)).toArray (bs pubL).toArray rfl rfl G4.out (by simpa using iK2.out) (by simp [bs_length]; rfl) (by simp; exact bs_oneCell _) rfl ?_
       intro w20 Hh20 hg20))
  refine bodyPost_ret (v := .agg (bs pubL).toArray) ?_ rfl ⟨rfl, ?_⟩
  · exact results_cell Try.results17 rfl (run_loadVar_mid w20 g4 0 23 (bs pubL) _ (range_block Hh20.out) uK.out rfl iK2.out)
  · exact B2.out.grown hg20 B2.out.size (fun j hj => by injection hj with hj; have := E4.out; omega)

/-- what is carried into place i of a sum -/
def cyN (a b : List UInt8) (i : Nat) : Nat := (leN (a.take i) + leN (b.take i)) / 256 ^ i
def partT (N : Nat) (L : List UInt8) (j : Nat) : List UInt8 := L.take j ++ List.replicate (N - j) 0
theorem partT_set (N : Nat) (L : List UInt8) (hL : L.length = N) (j : Nat) (hj : j < N) : (partT N L j).set j L[j] = partT N L (j + 1) := by
  unfold partT
  rw [List.set_append_right _ _ (by simp; omega)]
  rw [show j - (L.take j).length = 0 by simp; omega]
  rw [show N - j = (N - (j + 1)) + 1 by omega, List.replicate_succ, List.set_cons_zero]
  rw [List.take_succ_eq_append_getElem (i := j) (by omega)]
  rw [List.append_assoc]
  simp
theorem partT_len (N : Nat) (L : List UInt8) (hL : L.length = N) (j : Nat) (hj : j ≤ N) : (partT N L j).length = N := by simp [partT]; omega
theorem partT_end (N : Nat) (L : List UInt8) (hL : L.length = N) : partT N L N = L := by
  unfold partT
  rw [List.take_of_length_le (by omega)]; simp
def sumL (a b : List UInt8) : List UInt8 := leB 16 (leN a + leN b)
theorem sumL_len (a b : List UInt8) : (sumL a b).length = 16 := leB_len _ _
theorem cy_step {a b : List UInt8} (i : Nat) (ha : i < a.length) (hb : i < b.length) : (a[i].toNat + b[i].toNat + cyN a b i) / 256 = cyN a b (i + 1) := by
  unfold cyN
  rw [leN_take_succ a i ha, leN_take_succ b i hb, Nat.pow_succ, ← Nat.div_div_eq_div_mul]
  congr 1
  rw [show leN (a.take i) + 256 ^ i * a[i].toNat + (leN (b.take i) + 256 ^ i * b[i].toNat) = (leN (a.take i) + leN (b.take i)) + 256 ^ i * (a[i].toNat + b[i].toNat) by rw [Nat.mul_add]; omega,
    Nat.add_mul_div_left _ _ (Nat.pow_pos (by decide))]
  omega
theorem cy_byte {a b : List UInt8} (i : Nat) (ha : i < a.length) (hb : i < b.length) (hi : i < 16) : (a[i].toNat + b[i].toNat + cyN a b i) % 256 = ((sumL a b)[i]'(by rw [sumL_len]; exact hi)).toNat := by
  have e : (sumL a b)[i]'(by rw [sumL_len]; exact hi) = UInt8.ofNat ((leN a + leN b) / 256 ^ i) := by simp [sumL, leB]
  have e2 : (UInt8.ofNat ((leN a + leN b) / 256 ^ i)).toNat = (leN a + leN b) / 256 ^ i % 256 := UInt8.toNat_ofNat'
  rw [e, e2]
  have sp : ∀ l : List UInt8, (h : i < l.length) → leN l = leN (l.take i) + 256 ^ i * (l[i].toNat + 256 * leN (l.drop (i + 1))) := fun l h => by
    have := leN_append (l.take i) (l.drop i)
    rw [List.take_append_drop, List.length_take, Nat.min_eq_left (by omega), List.drop_eq_getElem_cons h] at this
    exact this
  rw [sp a ha, sp b hb]
  unfold cyN
  generalize leN (a.take i) = x; generalize leN (b.take i) = y
  generalize leN (a.drop (i + 1)) = u; generalize leN (b.drop (i + 1)) = v
  generalize a[i].toNat = p; generalize b[i].toNat = q
  have hpos : 0 < 256 ^ i := Nat.pow_pos (by decide)
  generalize 256 ^ i = m at hpos ⊢
  rw [show x + m * (p + 256 * u) + (y + m * (q + 256 * v)) = (x + y) + m * ((p + q) + 256 * (u + v)) by simp only [Nat.mul_add]; omega, Nat.add_mul_div_left _ _ hpos]
  omega
theorem cy_le (a b : List UInt8) (i : Nat) : cyN a b i ≤ 1 := by
  unfold cyN
  have h1 := leN_lt (a.take i); have h2 := leN_lt (b.take i)
  have h3 : 256 ^ (a.take i).length ≤ 256 ^ i := Nat.pow_le_pow_right (by decide) (by simp; omega)
  have h4 : 256 ^ (b.take i).length ≤ 256 ^ i := Nat.pow_le_pow_right (by decide) (by simp; omega)
  have hpos : 0 < 256 ^ i := Nat.pow_pos (by decide)
  apply Nat.lt_succ_iff.1
  apply Nat.div_lt_of_lt_mul
  omega
end Go.Proofs.Ytkikdhjckjmolaa
