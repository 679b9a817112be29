/- Nonce. -/
import Derived.Test.YtglbhoamknjdeaaRg2
import Derived.Test.YtglbhoamknjdeaaByb
namespace Go.Proofs.Ytglbhoamknjdeaa
open Go.RowKit

/-- a number as a nonce -/
def nonceN (n : Int) : List UInt8 := (List.range 12).map fun j => if j < 4 then 0 else UInt8.ofNat ((n / 2 ^ (8 * (11 - j))) % 256).toNat
/-- its last k bytes -/
def nonceK (n : Int) (k : Nat) : List UInt8 := (List.range 12).map fun j => if 12 - k ≤ j then UInt8.ofNat ((n / 2 ^ (8 * (11 - j))) % 256).toNat else 0
theorem nonceK_len (n : Int) (k : Nat) : (nonceK n k).length = 12 := by simp [nonceK]
theorem nonceN_len (n : Int) : (nonceN n).length = 12 := by simp [nonceN]
theorem nonceK_8 (n : Int) : nonceK n 8 = nonceN n := by
  unfold nonceK nonceN
  apply List.map_congr_left
  intro j hj
  simp at hj
  by_cases h : j < 4
  · rw [if_neg (by omega), if_pos h]
  · rw [if_pos (by omega), if_neg h]
theorem nonceK_set (n : Int) (k : Nat) (hk : k < 8) : (nonceK n k).set (11 - k) (UInt8.ofNat ((n / 2 ^ (8 * k)) % 256).toNat) = nonceK n (k + 1) := by
  apply List.ext_getElem?
  intro i
  rw [List.getElem?_set, nonceK_len]
  by_cases h : 11 - k = i
  · subst h
    rw [if_pos rfl, if_pos (by omega)]
    unfold nonceK
    rw [List.getElem?_map, List.getElem?_range (by omega)]
    simp only [Option.map_some]
    rw [if_pos (by omega), show 11 - (11 - k) = k by omega]
  · rw [if_neg h]
    unfold nonceK
    rw [List.getElem?_map, List.getElem?_map]
    by_cases hi : i < 12
    · rw [List.getElem?_range hi]
      simp only [Option.map_some]
      by_cases h1 : 12 - k ≤ i
      · rw [if_pos h1, if_pos (by omega)]
      · rw [if_neg h1, if_neg (by omega)]
    · rw [List.getElem?_eq_none (by simp; omega)]; rfl
theorem Try.inNc : (Try.prog.info? 36).map (fun i => (i.zero, i.size, i.bytes)) = some (some (.agg (bs (List.replicate 12 0)).toArray), 12, 12) := by kernel_rfl
theorem Try.szNc : (Try.prog.info? 36).map (·.size) = some 12 := by kernel_rfl

theorem wf_i64 {n : Int} (h : (Lit.int .i64 n).wf = true) : -9223372036854775808 ≤ n ∧ n ≤ 9223372036854775807 := by
  have h1 : (decide (-9223372036854775808 ≤ n) && decide (n ≤ 9223372036854775807)) = true := h
  simpa using h1
set_option maxRecDepth 100000 in
set_option maxHeartbeats 4000000 in
theorem Nonce_any (w : World) (n : Int) (hn : (Lit.int .i64 n).wf = true) :
    Calls Try.prog 14 #[.int .i64 n] w fun e w' => e = .returned (.agg (bs (nonceN n)).toArray) ∧ Below w.heap.size w w' := by
  have hb := wf_i64 hn
  have Hn := Lib.hid hb
  clear hn hb
  go_enter Try.func14, Try.ntmps14
  go_wp2_with fail
  have Hz : Hid (((w.alloc (.cells #[.int .u8 0, .int .u8 0, .int .u8 0, .int .u8 0, .int .u8 0, .int .u8 0, .int .u8 0, .int .u8 0, .int .u8 0, .int .u8 0, .int .u8 0, .int .u8 0] 36)).alloc (.cells #[.int .u8 0, .int .u8 0, .int .u8 0, .int .u8 0, .int .u8 0, .int .u8 0, .int .u8 0, .int .u8 0, .int .u8 0, .int .u8 0, .int .u8 0, .int .u8 0] 36)).heap[w.heap.size]? = some (.cells (bs (List.replicate 12 0)).toArray 36 (0, 0))) := heap_alloc2_old w _ _
  have Ho : Hid (ByB ((w.alloc (.cells #[.int .u8 0, .int .u8 0, .int .u8 0, .int .u8 0, .int .u8 0, .int .u8 0, .int .u8 0, .int .u8 0, .int .u8 0, .int .u8 0, .int .u8 0, .int .u8 0] 36)).alloc (.cells #[.int .u8 0, .int .u8 0, .int .u8 0, .int .u8 0, .int .u8 0, .int .u8 0, .int .u8 0, .int .u8 0, .int .u8 0, .int .u8 0, .int .u8 0, .int .u8 0] 36)) 36 (w.heap.size + 1) 12 (nonceK n 0)) := ByB.of_block (heap_alloc2_new w _ _) rfl rfl (by decide)
  have Hb : Hid (Below w.heap.size w ((w.alloc (.cells #[.int .u8 0, .int .u8 0, .int .u8 0, .int .u8 0, .int .u8 0, .int .u8 0, .int .u8 0, .int .u8 0, .int .u8 0, .int .u8 0, .int .u8 0, .int .u8 0] 36)).alloc (.cells #[.int .u8 0, .int .u8 0, .int .u8 0, .int .u8 0, .int .u8 0, .int .u8 0, .int .u8 0, .int .u8 0, .int .u8 0, .int .u8 0, .int .u8 0, .int .u8 0] 36))) := ((Below.refl _ _).alloc (Nat.le_refl _) _).alloc (by simp) _
  generalize (w.alloc (.cells #[.int .u8 0, .int .u8 0, .int .u8 0, .int .u8 0, .int .u8 0, .int .u8 0, .int .u8 0, .int .u8 0, .int .u8 0, .int .u8 0, .int .u8 0, .int .u8 0] 36)).alloc (.cells #[.int .u8 0, .int .u8 0, .int .u8 0, .int .u8 0, .int .u8 0, .int .u8 0, .int .u8 0, .int .u8 0, .int .u8 0, .int .u8 0, .int .u8 0, .int .u8 0] 36) = w0 at Hz Ho Hb ⊢
  have hgz : w.heap.size ≤ w.heap.size := Nat.le_refl _
  have hgo : w.heap.size ≤ w.heap.size + 1 := Nat.le_succ _
  have hne : w.heap.size ≠ w.heap.size + 1 := by omega
  generalize hg1 : w.heap.size + 1 = go at Ho hgo hne ⊢
  generalize hg0 : w.heap.size = gz at Hz hgz hne ⊢
  rw [← hg0] at hgz
  have Hg0 := Lib.hid hg0
  clear hg1 hg0
  go_loopw [5] (fun i w' => ∃ k : Nat, k ≤ 8 ∧ i = .int .i64 (k : Nat) ∧ Hid (w'.heap[gz]? = some (.cells (bs (List.replicate 12 0)).toArray 36 (0, 0)) ∧ ByB w' 36 go 12 (nonceK n k) ∧ Below w.heap.size w w')) (fun i _ => 8 - (intOf i).toNat)
  case atStart => exact ⟨0, Nat.zero_le _, rfl, Hz.out, Ho.out, Hb.out⟩
  case round =>
    clear Hz Ho Hb
    obtain ⟨k, hk, rfl, HI⟩ := hrel
    by_cases hlt : k < 8
    · have hkI : (k : Int) < 8 := by omega
      have hk0 : (0 : Int) ≤ (k : Int) := by omega
      have hfz := World.ownsRow.frozenAt HI.out.2.1 (11 - k)
      have h11 : (11 : Int) - (k : Int) = ((11 - k : Nat) : Int) := by omega
      have hc := HI.out.2.1.cell (i := 11 - k) (by rw [nonceK_len]; omega)
      have hv : Value.int .u8 (n / 2 ^ (8 * k) % 256) = bv (UInt8.ofNat (n / 2 ^ (8 * k) % 256).toNat) := by
        unfold bv
        rw [UInt8.toNat_ofNat']
        congr 1
        have h1 := Int.emod_nonneg (n / 2 ^ (8 * k)) (show (256 : Int) ≠ 0 by decide)
        have h2 := Int.emod_lt_of_pos (n / 2 ^ (8 * k)) (show (0 : Int) < 256 by decide)
        omega
      have Hv := Lib.hid hv
      clear hv
      go_wp2_with fail
      have hs2 : Hid (ByB (wr.setCell ⟨go, 11 - k, none⟩ (.int .u8 (n / 2 ^ (8 * k) % 256))) 36 go 12 (nonceK n (k + 1))) := by
        rw [← nonceK_set n k hlt, Hv.out]; exact HI.out.2.1.set (11 - k) _
      have hf : Hid (Fr (fun k => k = go) wr (wr.setCell ⟨go, 11 - k, none⟩ (.int .u8 (n / 2 ^ (8 * k) % 256)))) := (Fr.refl (fun k => k = go) wr).setCell (p := ⟨go, 11 - k, none⟩) (.inl rfl) _
      refine ⟨⟨k + 1, by omega, by go_num, ?_, hs2.out, ?_⟩, by simp [intOf]; omega⟩
      · rw [hf.out.block _ (Array.getElem?_eq_some_iff.1 HI.out.1).1 hne]; exact HI.out.1
      · exact ((Fr.of_below HI.out.2.2).trans hf.out (fun i _ h => h)).to_below (fun i hi => by omega)
    · have hkI : decide ((k : Int) < 8) = false := decide_eq_false (by omega)
      have hk8 : k = 8 := by omega
      subst hk8
      have hout : Hid (wr.rangeAt go 0 (bs (nonceN n))) := by
        have h := HI.out.2.1
        rw [nonceK_8] at h
        exact h.range
      have uN := Lib.hid Try.underlying36
      have iN : Hid ((Try.prog.info? 36).map (·.size) = some (bs (nonceN n)).length) := by rw [bs_length, nonceN_len]; exact Try.szNc
      have Hz : Hid (wr.heap[gz]? = some (.cells (bs (List.replicate 12 0)).toArray 36 (0, 0))) := HI.out.1
      go_wp2_with (first
        | ((with_reducible refine lst_load_mid 36 (.tmp 3) rfl go 0 rfl (bs (nonceN n)) _ hout.out uN.out rfl iN.out ?_ ?_)
           (focus rfl))
        | ((with_reducible refine lst_store_abs 36 (.tmp 2) (.tmp 17) rfl gz 36 (bs (List.replicate 12 0)).toArray (bs (nonceN n)).toArray rfl rfl Hz.out (by simpa using iN.out) (by simp [bs_length, nonceN_len]) (by simp; exact bs_oneCell _) ?_ ?_)
           (focus rfl)
           intro w10 Hh10 hg10))
      refine bodyPost_ret (v := .agg (bs (nonceN n)).toArray) ?_ rfl ⟨rfl, ?_⟩
      · exact results_cell Try.results14 rfl (run_loadVar_mid w10 gz 0 36 (bs (nonceN n)) _ (range_block Hh10.out) uN.out rfl iN.out)
      · exact HI.out.2.2.grown hg10 HI.out.2.2.size (fun j hj => by injection hj with hj; have := Hg0.out; omega)
end Go.Proofs.Ytglbhoamknjdeaa
