/- counted, words. -/
import Derived.Test.YtobbcnajmocpfaaCh6
namespace Go.Proofs.Ytobbcnajmocpfaa
open Go.RowKit
attribute [local go_sem] yld yldUpon_value

def partN (N : Nat) (L : List UInt8) (j : Nat) : List UInt8 := L.take j ++ List.replicate (N - j) 0
theorem partN_set (N : Nat) (L : List UInt8) (hL : L.length = N) (j : Nat) (hj : j < N) : (partN N L j).set j L[j] = partN N L (j + 1) := by
  unfold partN
  rw [List.set_append_right _ _ (by simp; omega)]
  rw [show j - (L.take j).length = 0 by simp; omega]
  rw [show N - j = (N - (j + 1)) + 1 by omega, List.replicate_succ, List.set_cons_zero]
  rw [List.take_succ_eq_append_getElem (i := j) (by omega)]
  rw [List.append_assoc]
  simp
theorem partN_len (N : Nat) (L : List UInt8) (hL : L.length = N) (j : Nat) (hj : j ≤ N) : (partN N L j).length = N := by simp [partN]; omega
def countedL : List UInt8 := (List.range 32).map UInt8.ofNat
theorem Try.infoK : (Try.prog.info? 23).map (fun i => (i.zero, i.size, i.bytes)) = some (some (.agg (bs (List.replicate 32 0)).toArray), 32, 32) := by kernel_rfl
theorem countedL_len : countedL.length = 32 := by simp [countedL]

set_option maxRecDepth 100000 in
set_option maxHeartbeats 4000000 in
theorem counted_any (w : World) :
    Calls Try.prog 21 #[] w fun e w' => e = .returned (.agg (bs countedL).toArray) ∧ Below w.heap.size w w' := by
  obtain ⟨io, hio, hzo, _, _⟩ := info_parts Try.infoK
  have Hio := Lib.hid hio; have Hzo := Lib.hid hzo
  have uK := Lib.hid Try.underlying23
  have iK : Hid ((Try.prog.info? 23).map (·.size) = some (bs countedL).length) := by rw [bs_length, countedL_len]; exact Try.sizeK
  clear hio hzo
  go_enter Try.func21, Try.ntmps21
  go_wp2_with (first
    | ((with_reducible refine lst_alloc_d 0 rfl 23 rfl io _ Hio.out Hzo.out ?_ ?_)
       (focus rfl)
       intro g0 w1 Hg0 Hh0 hb1
       have Hb1 := Lib.hid hb1
       clear hb1)
    | ((with_reducible refine lst_alloc_d 1 rfl 23 rfl io _ Hio.out Hzo.out ?_ ?_)
       (focus rfl)
       intro g1 w2 Hg1 Hh1 hb2
       have Hb2 := Lib.hid hb2
       clear hb2))
  have hI : Hid (w2.heap[g0]? = some (.cells (bs (List.replicate 32 0)).toArray 23 (0, 0)) ∧ ByB w2 23 g1 32 (partN 32 countedL 0) ∧ Below w.heap.size w w2) := by
    have e1 := Hg0.out; have e2 := Hg1.out
    refine ⟨by rw [Hb2.out.block _ (by omega)]; exact Hh0.out, ByB.of_block Hh1.out rfl rfl (by decide), Hb1.out.trans (Hb2.out.mono (by omega))⟩
  have hg : g0 ≠ g1 := by have e1 := Hg0.out; have e2 := Hg1.out; omega
  have hg0 : w.heap.size ≤ g0 := by have e1 := Hg0.out; omega
  have hg1 : w.heap.size ≤ g1 := by have e1 := Hg0.out; have e2 := Hg1.out; omega
  clear Hg0 Hg1 Hh0 Hh1 Hb1 Hb2 Hio Hzo
  go_loopw [2] (fun i w' => ∃ k : Nat, k ≤ 32 ∧ i = .int .i64 (k : Nat) ∧ Hid (w'.heap[g0]? = some (.cells (bs (List.replicate 32 0)).toArray 23 (0, 0)) ∧ ByB w' 23 g1 32 (partN 32 countedL k) ∧ Below w.heap.size w w')) (fun i _ => 32 - (intOf i).toNat)
  case atStart => exact ⟨0, Nat.zero_le _, rfl, hI.out⟩
  case round =>
    clear hI
    obtain ⟨k, hk, rfl, hI⟩ := hrel
    by_cases hlt : k < 32
    · have hkI : (k : Int) < 32 := by omega
      have hk0 : (0 : Int) ≤ (k : Int) := by omega
      have hc := hI.out.2.1.cell (i := k) (by rw [partN_len 32 _ countedL_len k (by omega)]; omega)
      have hz := World.ownsRow.frozenAt hI.out.2.1 k
      go_wp2_with fail
      have hv : Value.int .u8 (k : Int) = bv (countedL[k]'(by rw [countedL_len]; omega)) := by
        have e : (countedL[k]'(by rw [countedL_len]; omega)).toNat = k := by
          have e : countedL[k]'(by rw [countedL_len]; omega) = UInt8.ofNat k := by simp [countedL]
          rw [e]
          have : (UInt8.ofNat k).toNat = k % 256 := UInt8.toNat_ofNat'
          omega
        unfold bv
        rw [e]
      rw [hv]
      have hs := Lib.hid (hI.out.2.1.set k (countedL[k]'(by rw [countedL_len]; omega)))
      have hs2 : Hid (ByB (wr.setCell ⟨g1, k, none⟩ (bv (countedL[k]'(by rw [countedL_len]; omega)))) 23 g1 32 (partN 32 countedL (k + 1))) := by
        rw [← partN_set 32 countedL countedL_len k hlt]; exact hs.out
      clear hs
      have hf : Hid (Fr (fun k => k = g1) wr (wr.setCell ⟨g1, k, none⟩ (bv (countedL[k]'(by rw [countedL_len]; omega))))) := (Fr.refl (fun k => k = g1) wr).setCell (p := ⟨g1, k, none⟩) (.inl rfl) _
      refine ⟨⟨k + 1, by omega, by go_num, ?_, hs2.out, ?_⟩, by simp [intOf]; omega⟩
      · rcases Nat.lt_or_ge g0 wr.heap.size with h | h
        · rw [hf.out.block _ h hg]; exact hI.out.1
        · exact absurd hI.out.1 (by simp [h])
      · exact ((Fr.of_below hI.out.2.2).trans hf.out (fun i _ h => h)).to_below (fun i hi => by omega)
    · have hkI : decide ((k : Int) < 32) = false := decide_eq_false (by omega)
      have hk4 : k = 32 := by omega
      rw [hk4] at hI
      clear hlt hk hk4
      have hout : Hid (wr.rangeAt g1 0 (bs countedL)) := by
        have e : partN 32 countedL 32 = countedL := rfl
        have h := hI.out.2.1
        rw [e] at h
        exact h.range
      have Hz : Hid (wr.heap[g0]? = some (.cells (bs (List.replicate 32 0)).toArray 23 (0, 0))) := hI.out.1
      go_wp2_with (first
        | ((with_reducible refine lst_load_mid 23 (.tmp 1) rfl g1 0 rfl (bs countedL) _ hout.out uK.out rfl iK.out ?_ ?_)
           (focus rfl))
        | ((with_reducible refine lst_store_abs 23 (.tmp 0) (.tmp 11) rfl g0 23 (bs (List.replicate 32 0)).toArray (bs countedL).toArray rfl rfl Hz.out (by simpa using iK.out) (by simp [bs_length, countedL_len]) (by simp; exact bs_oneCell _) ?_ ?_)
           (focus rfl)
           intro w10 Hh10 hg10))
      refine bodyPost_ret (v := .agg (bs countedL).toArray) ?_ rfl ⟨rfl, ?_⟩
      · exact results_cell Try.results21 rfl (run_loadVar_mid w10 g0 0 23 (bs countedL) _ (range_block Hh10.out) uK.out rfl iK.out)
      · exact hI.out.2.2.grown hg10 hI.out.2.2.size (fun j hj => by injection hj with hj; omega)
end Go.Proofs.Ytobbcnajmocpfaa
