/- The reference's Nonce. -/
import Derived.Test.YtglbhoamknjdeaaRg5
import Derived.Test.YtglbhoamknjdeaaRr6
namespace Go.Proofs.Ytglbhoamknjdeaa
open Go.RowKit
set_option maxRecDepth 100000 in
set_option maxHeartbeats 4000000 in
theorem rNonce_any (w : World) (n : Int) (hn : (Lit.int .i64 n).wf = true) :
    Calls Try.prog 17 #[.int .i64 n] w fun e w' => e = .returned (.agg (bs (nonceN n)).toArray) ∧ Below w.heap.size w w' := by
  have hb := wf_i64 hn
  have Hn := Lib.hid hb
  have hconv : IntKind.u64.wrap n = ((uOf n : Nat) : Int) := by simp [IntKind.wrap, IntKind.signed, IntKind.bits, uOf]; omega
  have hul := uOf_lt n
  clear hn hb
  go_enter Try.func17, Try.ntmps17
  go_wp2_with fail
  have Hz : Hid (((w.alloc (.cells #[.int .u8 0, .int .u8 0, .int .u8 0, .int .u8 0, .int .u8 0, .int .u8 0, .int .u8 0, .int .u8 0, .int .u8 0, .int .u8 0, .int .u8 0, .int .u8 0] 36)).alloc (.cells #[.int .u8 0, .int .u8 0, .int .u8 0, .int .u8 0, .int .u8 0, .int .u8 0, .int .u8 0, .int .u8 0, .int .u8 0, .int .u8 0, .int .u8 0, .int .u8 0] 36)).heap[w.heap.size]? = some (.cells (bs (List.replicate 12 0)).toArray 36 (0, 0))) := heap_alloc2_old w _ _
  have Ho : Hid (ByB ((w.alloc (.cells #[.int .u8 0, .int .u8 0, .int .u8 0, .int .u8 0, .int .u8 0, .int .u8 0, .int .u8 0, .int .u8 0, .int .u8 0, .int .u8 0, .int .u8 0, .int .u8 0] 36)).alloc (.cells #[.int .u8 0, .int .u8 0, .int .u8 0, .int .u8 0, .int .u8 0, .int .u8 0, .int .u8 0, .int .u8 0, .int .u8 0, .int .u8 0, .int .u8 0, .int .u8 0] 36)) 36 (w.heap.size + 1) 12 (nonceK n 0)) := ByB.of_block (heap_alloc2_new w _ _) rfl rfl (by decide)
  have Hb : Hid (Below w.heap.size w ((w.alloc (.cells #[.int .u8 0, .int .u8 0, .int .u8 0, .int .u8 0, .int .u8 0, .int .u8 0, .int .u8 0, .int .u8 0, .int .u8 0, .int .u8 0, .int .u8 0, .int .u8 0] 36)).alloc (.cells #[.int .u8 0, .int .u8 0, .int .u8 0, .int .u8 0, .int .u8 0, .int .u8 0, .int .u8 0, .int .u8 0, .int .u8 0, .int .u8 0, .int .u8 0, .int .u8 0] 36))) := ((Below.refl _ _).alloc (Nat.le_refl _) _).alloc (by simp) _
  generalize (w.alloc (.cells #[.int .u8 0, .int .u8 0, .int .u8 0, .int .u8 0, .int .u8 0, .int .u8 0, .int .u8 0, .int .u8 0, .int .u8 0, .int .u8 0, .int .u8 0, .int .u8 0] 36)).alloc (.cells #[.int .u8 0, .int .u8 0, .int .u8 0, .int .u8 0, .int .u8 0, .int .u8 0, .int .u8 0, .int .u8 0, .int .u8 0, .int .u8 0, .int .u8 0, .int .u8 0] 36) = w0 at Hz Ho Hb ⊢
  have hgz : w.heap.size ≤ w.heap.size := Nat.le_refl _
  have hgo : w.heap.size ≤ w.heap.size + 1 := Nat.le_succ _
  have hne : w.heap.size ≠ w.heap.size + 1 := by omega
  generalize hg1 : w.heap.size + 1 = go at Ho hgo hne ⊢
  generalize hg0 : w.heap.size = gz at Hz hgz hne ⊢
  rw [← hg0] at hgz
  have Hg0 := Lib.hid hg0
  clear hg1 hg0
  go_loopw [3, 5] (fun u i w' => ∃ k : Nat, k ≤ 8 ∧ i = .int .i64 (11 - (k : Int)) ∧ u = .int .u64 ((uOf n / 256 ^ k : Nat) : Int) ∧ Hid (w'.heap[gz]? = some (.cells (bs (List.replicate 12 0)).toArray 36 (0, 0)) ∧ ByB w' 36 go 12 (nonceK n k) ∧ Below w.heap.size w w')) (fun _ i _ => (intOf i - 3).toNat)
  case atStart => exact ⟨0, Nat.zero_le _, rfl, by simp, Hz.out, Ho.out, Hb.out⟩
  case round =>
    clear Hz Ho Hb
    obtain ⟨k, hk, rfl, rfl, HI⟩ := hrel
    by_cases hlt : k < 8
    · obtain ⟨u, hu⟩ : ∃ u : Nat, uOf n / 256 ^ k = u := ⟨_, rfl⟩
      have hul2 : u < 18446744073709551616 := by rw [← hu]; exact Nat.lt_of_le_of_lt (Nat.div_le_self _ _) hul
      have hun : Hid (uOf n / 256 ^ (k + 1) = u / 256) := by show _ = _; rw [Nat.pow_succ, ← Nat.div_div_eq_div_mul, hu]
      obtain ⟨j, hj⟩ : ∃ j : Nat, 11 - k = j := ⟨_, rfl⟩
      have hji : (11 : Int) - (k : Int) = (j : Int) := by omega
      have hj4 : 4 ≤ j := by omega
      have hj4I : (4 : Int) ≤ (j : Int) := by omega
      have hj12 : j < 12 := by omega
      have hjI : (j : Int) ≤ 11 := by omega
      have hj0 : (0 : Int) ≤ (j : Int) := by omega
      have hfz := World.ownsRow.frozenAt HI.out.2.1 j
      have hc := HI.out.2.1.cell (i := j) (by rw [nonceK_len]; exact hj12)
      have hv : Hid (Value.int .u8 ((u : Int) % 256) = bv (UInt8.ofNat (n / 2 ^ (8 * k) % 256).toNat)) := by
        show _ = _
        have h1 := byteK n j hj4 hj12
        have h2 : (nonceN n)[j]'(by rw [nonceN_len]; exact hj12) = UInt8.ofNat (n / 2 ^ (8 * k) % 256).toNat := by
          simp only [nonceN, List.getElem_map, List.getElem_range]
          rw [if_neg (by omega), show 11 - j = k by omega]
        rw [h2] at h1
        unfold bv
        rw [h1, show 11 - j = k by omega]
        congr 1
        have h3 : (2 : Nat) ^ (8 * k) = 256 ^ k := by rw [Nat.pow_mul]
        rw [h3, hu]
        omega
      rw [hji, hu]
      have HJ := Lib.hid hj
      clear hu hj hji hul
      go_wp2_with fail
      have hs2 : Hid (ByB (wr.setCell ⟨go, j, none⟩ (.int .u8 ((u : Int) % 256))) 36 go 12 (nonceK n (k + 1))) := by
        rw [← nonceK_set n k hlt, hv.out, HJ.out]; exact HI.out.2.1.set j _
      have hf : Hid (Fr (fun k => k = go) wr (wr.setCell ⟨go, j, none⟩ (.int .u8 ((u : Int) % 256)))) := (Fr.refl (fun k => k = go) wr).setCell (p := ⟨go, j, none⟩) (.inl rfl) _
      refine ⟨⟨k + 1, by omega, ?_, ?_, Lib.hid ⟨?_, hs2.out, ?_⟩⟩, ?_⟩
      · have := HJ.out; congr 1; omega
      · rw [hun.out]; congr 1
      · rw [hf.out.block _ (Array.getElem?_eq_some_iff.1 HI.out.1).1 hne]; exact HI.out.1
      · exact ((Fr.of_below HI.out.2.2).trans hf.out (fun i _ h => h)).to_below (fun i hi => by omega)
      · simp only [intOf]; omega
    · have hkI : decide ((4 : Int) ≤ 11 - (k : Int)) = false := decide_eq_false (by omega)
      have hk8 : k = 8 := by omega
      subst hk8
      have hout : Hid (wr.rangeAt go 0 (bs (nonceN n))) := by
        have h := HI.out.2.1
        rw [nonceK_8] at h
        exact h.range
      have uN := Lib.hid Try.underlying36
      have iN : Hid ((Try.prog.info? 36).map (·.size) = some (bs (nonceN n)).length) := by rw [bs_length, nonceN_len]; exact Try.szNc
      have Hz : Hid (wr.heap[gz]? = some (.cells (bs (List.replicate 12 0)).toArray 36 (0, 0))) := HI.out.1
      go_wp2_with (first
        | ((with_reducible refine lst_load_mid 36 (.tmp 4) rfl go 0 rfl (bs (nonceN n)) _ hout.out uN.out rfl iN.out ?_ ?_)
           (focus rfl))
        | ((with_reducible refine lst_store_abs 36 (.tmp 2) (.tmp 19) rfl gz 36 (bs (List.replicate 12 0)).toArray (bs (nonceN n)).toArray rfl rfl Hz.out (by simpa using iN.out) (by simp [bs_length, nonceN_len]) (by simp; exact bs_oneCell _) ?_ ?_)
           (focus rfl)
           intro w10 Hh10 hg10))
      refine bodyPost_ret (v := .agg (bs (nonceN n)).toArray) ?_ rfl ⟨rfl, ?_⟩
      · exact results_cell Try.results17 rfl (run_loadVar_mid w10 gz 0 36 (bs (nonceN n)) _ (range_block Hh10.out) uN.out rfl iN.out)
      · exact HI.out.2.2.grown hg10 HI.out.2.2.size (fun j hj => by injection hj with hj; have := Hg0.out; omega)
end Go.Proofs.Ytglbhoamknjdeaa
