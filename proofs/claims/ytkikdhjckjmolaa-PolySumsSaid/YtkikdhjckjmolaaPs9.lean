/- The reference's Clamp. -/
import Derived.Test.YtkikdhjckjmolaaPs8
import Derived.Test.YtkikdhjckjmolaaPo12
namespace Go.Proofs.Ytkikdhjckjmolaa
open Go.RowKit
attribute [local go_sem] yld yldUpon_value

theorem u8and15 (x : UInt8) : (x &&& 15).toNat = x.toNat % 16 := by
  rw [UInt8.toNat_and]
  exact Nat.and_two_pow_sub_one_eq_mod x.toNat 4
theorem and252N : ∀ n : Fin 256, n.val &&& 252 = n.val / 4 * 4 := by decide +kernel
theorem and252 (x : UInt8) : (x &&& 252).toNat = x.toNat / 4 * 4 := by
  rw [UInt8.toNat_and]
  exact and252N ⟨x.toNat, x.toNat_lt⟩
theorem rclampL_get {K : List UInt8} {i : Nat} (hi : i < 16) : (clampL K)[i]'(by rw [clampL_len]; exact hi) = if i % 4 = 3 then K.getD i 0 &&& 15 else if i % 4 = 0 ∧ 0 < i then K.getD i 0 &&& 252 else K.getD i 0 := by
  simp only [clampL, List.getElem_take]
  have h1 : ∀ j, j < 32 → (clampS K 3 3 15 19).getD j 0 = if j % 4 = 3 ∧ 3 ≤ j ∧ j < 19 then K.getD j 0 &&& 15 else K.getD j 0 := by
    intro j hj
    simp [clampS, List.getD, hj]
  have h2 : ∀ (h : i < (clampS (clampS K 3 3 15 19) 0 4 252 16).length), (clampS (clampS K 3 3 15 19) 0 4 252 16)[i] = if i % 4 = 0 ∧ 4 ≤ i ∧ i < 16 then (clampS K 3 3 15 19).getD i 0 &&& 252 else (clampS K 3 3 15 19).getD i 0 := by
    intro h
    simp only [clampS, List.getElem_map, List.getElem_range]
  rw [h2, h1 i (by omega)]
  by_cases e3 : i % 4 = 3
  · rw [if_neg (by omega), if_pos ⟨e3, by omega, by omega⟩, if_pos e3]
  · have hin : (if i % 4 = 3 ∧ 3 ≤ i ∧ i < 19 then K.getD i 0 &&& 15 else K.getD i 0) = K.getD i 0 := if_neg (by omega)
    rw [hin, if_neg e3]
    by_cases e0 : i % 4 = 0 ∧ 0 < i
    · rw [if_pos ⟨e0.1, by omega, by omega⟩, if_pos e0]
    · rw [if_neg (by omega), if_neg e0]
set_option maxRecDepth 100000 in
set_option maxHeartbeats 4000000 in
theorem Clamp_any (w : World) {K : List UInt8} (hK : K.length = 32) :
    Calls Try.prog 28 #[.agg (bs K).toArray] w fun e w' => ∃ A' c', e = .returned (.slice A' 16 c') ∧ w'.ownsRow w.heap.size 5 1 (.slice A' 16 c') 16 (bs (clampL K)) ∧ Below w.heap.size w w' := by
  have HK := Lib.hid hK
  clear hK
  go_enter Try.func28, Try.ntmps28
  go_wp2_with fail
  obtain ⟨w0, hw0⟩ : ∃ w0, w0 = w.alloc (.cells (bs K).toArray 23) := ⟨_, rfl⟩
  have hh : Hid (w0.heap[w.heap.size]? = some (.cells (bs K).toArray 23 (0, 0))) := by rw [hw0]; exact heap_alloc_new w _
  have B0 : Hid (Below w.heap.size w w0) := by rw [hw0]; exact Below.al w _
  rw [← hw0]
  clear hw0
  go_loopw [3, 4] (fun out z wr => ∃ (i : Nat) (A' : Option Addr) (c' : Nat), i ≤ 16 ∧ z = .int .i64 (i : Nat) ∧ out = .slice A' i c' ∧ Hid (wr.ownsRow w0.heap.size 5 1 (.slice A' i c') i (bs ((clampL K).take i)) ∧ Below w0.heap.size w0 wr)) (fun _ z _ => 16 - (intOf z).toNat)
  case atStart => exact ⟨0, none, 0, by omega, rfl, rfl, Lib.hid ⟨World.ownsRow_nil _ _ _ _, Below.refl _ _⟩⟩
  case round =>
    obtain ⟨i, A1, c1, hi, rfl, rfl, I⟩ := hrel
    have hi0 : (0 : Int) ≤ (i : Int) := by omega
    by_cases hlt : i < 16
    · have hiI : (i : Int) < 16 := by omega
      have HI := Lib.hid hlt
      have hc : wr.cell? ⟨w.heap.size, i, none⟩ = some (.int .u8 (((K.getD i 0).toNat : Nat) : Int)) := by
        rw [cell_of_row wr w.heap.size i _ _ _ (heap_bel hh.out I.out.2)]
        simp [bs, List.getD, show i < K.length by have := HK.out; omega, bv]
      have hz : Hid ((clampL K)[i]'(by rw [clampL_len]; exact hlt) = if i % 4 = 3 then K.getD i 0 &&& 15 else if i % 4 = 0 ∧ 0 < i then K.getD i 0 &&& 252 else K.getD i 0) := rclampL_get hlt
      have htk : Hid ((clampL K).take (i + 1) = (clampL K).take i ++ [(clampL K)[i]'(by rw [clampL_len]; exact hlt)]) := List.take_succ_eq_append_getElem (by rw [clampL_len]; exact hlt)
      generalize (clampL K)[i]'(by rw [clampL_len]; exact hlt) = zb at hz htk
      obtain ⟨x, hx⟩ : ∃ x, K.getD i 0 = x := ⟨_, rfl⟩
      rw [hx] at hc hz
      have hxl := Lib.hid x.toNat_lt
      obtain ⟨X, hX⟩ : ∃ X, x.toNat = X := ⟨_, rfl⟩
      have hXb : X ≤ 255 := by have := hxl.out; omega
      rw [hX] at hc
      have HX := Lib.hid hX
      have step : Hid (∀ (w' : World) (A' : Option Addr) (c' : Nat), w'.ownsRow w0.heap.size 5 1 (.slice A' (i + 1) c') (i + 1) (bs ((clampL K).take i ++ [zb])) → Fr (fun j => w0.heap.size ≤ j) wr w' →
          (w'.ownsRow w0.heap.size 5 1 (.slice A' (i + 1) c') (i + 1) (bs ((clampL K).take (i + 1))) ∧ Below w0.heap.size w0 w')) := by
        intro w' A' c' ho hf
        exact ⟨by rw [htk.out]; exact ho, ((Fr.of_below I.out.2).trans hf (fun i _ h => h)).to_below (fun i hi e => by omega)⟩
      obtain ⟨r, hr⟩ : ∃ r, i % 4 = r := ⟨_, rfl⟩
      have hrI : (i : Int) % 4 = (r : Int) := by omega
      have hr4 : r = 0 ∨ r = 1 ∨ r = 2 ∨ r = 3 := by omega
      rw [hr] at hz
      clear hx hX hr hlt
      rcases hr4 with rfl | rfl | rfl | rfl
      · by_cases hi00 : 0 < i
        · have hiJ : (0 : Int) < (i : Int) := by omega
          obtain ⟨z, hz2⟩ : ∃ z, X / 4 * 4 = z := ⟨_, rfl⟩
          have hzI : (X : Int) / 4 * 4 = (z : Int) := by omega
          have hzb : z ≤ 255 := by omega
          have HZ : Hid (zb.toNat = z) := by show _ = _; rw [hz.out, if_neg (by decide), if_pos ⟨rfl, hi00⟩, and252, HX.out, hz2]
          clear hz hz2 hi00
          go_wp2_with (first
            | (at_builtin
               refine append_bytes rfl (.tmp 28) (.tmp 30) rfl w0.heap.size A1 i c1 ((clampL K).take i) rfl (own_fr I.out.1 (Fr.of_below (M := NoB) (Below.al wr _)) (fun _ _ e => e)) (some ⟨wr.heap.size, 0, none⟩) 1 1 [zb] rfl rfl (by rw [show bs [zb] = [.int .u8 (z : Int)] by simp [bs, bv, HZ.out]]; exact Rd.of_block (heap_alloc_new wr _)) (by omega) (by have := I.out.2.size; rw [World.size_alloc]; omega) ?_
               intro A2 c2 w2 ho hg _
               have S2 := Lib.hid (step.out w2 A2 c2 ho ((Fr.of_below (Below.al wr (.cells #[.int .u8 (z : Int)] 5))).tr ((Fr.of_grown hg).mono (fun k _ e => (I.out.1.lt k e.symm).1))))
               clear ho hg))
          go_roundw
          case rel => exact ⟨i + 1, A2, c2, by have := HI.out; omega, by go_num, rfl, S2⟩
          case measure => simp [intOf]; have := HI.out; omega
        · have hiJ : ¬ (0 : Int) < (i : Int) := by omega
          have HZ : Hid (zb.toNat = X) := by show _ = _; rw [hz.out, if_neg (by decide), if_neg (by omega), HX.out]
          clear hz hi00
          go_wp2_with (first
            | (at_builtin
               refine append_bytes rfl (.tmp 28) (.tmp 30) rfl w0.heap.size A1 i c1 ((clampL K).take i) rfl (own_fr I.out.1 (Fr.of_below (M := NoB) (Below.al wr _)) (fun _ _ e => e)) (some ⟨wr.heap.size, 0, none⟩) 1 1 [zb] rfl rfl (by rw [show bs [zb] = [.int .u8 (X : Int)] by simp [bs, bv, HZ.out]]; exact Rd.of_block (heap_alloc_new wr _)) (by omega) (by have := I.out.2.size; rw [World.size_alloc]; omega) ?_
               intro A2 c2 w2 ho hg _
               have S2 := Lib.hid (step.out w2 A2 c2 ho ((Fr.of_below (Below.al wr (.cells #[.int .u8 (X : Int)] 5))).tr ((Fr.of_grown hg).mono (fun k _ e => (I.out.1.lt k e.symm).1))))
               clear ho hg))
          go_roundw
          case rel => exact ⟨i + 1, A2, c2, by have := HI.out; omega, by go_num, rfl, S2⟩
          case measure => simp [intOf]; have := HI.out; omega
      · have HZ : Hid (zb.toNat = X) := by show _ = _; rw [hz.out, if_neg (by decide), if_neg (by omega), HX.out]
        clear hz
        go_wp2_with (first
          | (at_builtin
             refine append_bytes rfl (.tmp 28) (.tmp 30) rfl w0.heap.size A1 i c1 ((clampL K).take i) rfl (own_fr I.out.1 (Fr.of_below (M := NoB) (Below.al wr _)) (fun _ _ e => e)) (some ⟨wr.heap.size, 0, none⟩) 1 1 [zb] rfl rfl (by rw [show bs [zb] = [.int .u8 (X : Int)] by simp [bs, bv, HZ.out]]; exact Rd.of_block (heap_alloc_new wr _)) (by omega) (by have := I.out.2.size; rw [World.size_alloc]; omega) ?_
             intro A2 c2 w2 ho hg _
             have S2 := Lib.hid (step.out w2 A2 c2 ho ((Fr.of_below (Below.al wr (.cells #[.int .u8 (X : Int)] 5))).tr ((Fr.of_grown hg).mono (fun k _ e => (I.out.1.lt k e.symm).1))))
             clear ho hg))
        go_roundw
        case rel => exact ⟨i + 1, A2, c2, by have := HI.out; omega, by go_num, rfl, S2⟩
        case measure => simp [intOf]; have := HI.out; omega
      · have HZ : Hid (zb.toNat = X) := by show _ = _; rw [hz.out, if_neg (by decide), if_neg (by omega), HX.out]
        clear hz
        go_wp2_with (first
          | (at_builtin
             refine append_bytes rfl (.tmp 28) (.tmp 30) rfl w0.heap.size A1 i c1 ((clampL K).take i) rfl (own_fr I.out.1 (Fr.of_below (M := NoB) (Below.al wr _)) (fun _ _ e => e)) (some ⟨wr.heap.size, 0, none⟩) 1 1 [zb] rfl rfl (by rw [show bs [zb] = [.int .u8 (X : Int)] by simp [bs, bv, HZ.out]]; exact Rd.of_block (heap_alloc_new wr _)) (by omega) (by have := I.out.2.size; rw [World.size_alloc]; omega) ?_
             intro A2 c2 w2 ho hg _
             have S2 := Lib.hid (step.out w2 A2 c2 ho ((Fr.of_below (Below.al wr (.cells #[.int .u8 (X : Int)] 5))).tr ((Fr.of_grown hg).mono (fun k _ e => (I.out.1.lt k e.symm).1))))
             clear ho hg))
        go_roundw
        case rel => exact ⟨i + 1, A2, c2, by have := HI.out; omega, by go_num, rfl, S2⟩
        case measure => simp [intOf]; have := HI.out; omega
      · obtain ⟨z, hz2⟩ : ∃ z, X % 16 = z := ⟨_, rfl⟩
        have hzI : (X : Int) % 16 = (z : Int) := by omega
        have hzb : z ≤ 255 := by omega
        have HZ : Hid (zb.toNat = z) := by show _ = _; rw [hz.out, if_pos rfl, u8and15, HX.out, hz2]
        clear hz hz2
        go_wp2_with (first
          | (at_builtin
             refine append_bytes rfl (.tmp 28) (.tmp 30) rfl w0.heap.size A1 i c1 ((clampL K).take i) rfl (own_fr I.out.1 (Fr.of_below (M := NoB) (Below.al wr _)) (fun _ _ e => e)) (some ⟨wr.heap.size, 0, none⟩) 1 1 [zb] rfl rfl (by rw [show bs [zb] = [.int .u8 (z : Int)] by simp [bs, bv, HZ.out]]; exact Rd.of_block (heap_alloc_new wr _)) (by omega) (by have := I.out.2.size; rw [World.size_alloc]; omega) ?_
             intro A2 c2 w2 ho hg _
             have S2 := Lib.hid (step.out w2 A2 c2 ho ((Fr.of_below (Below.al wr (.cells #[.int .u8 (z : Int)] 5))).tr ((Fr.of_grown hg).mono (fun k _ e => (I.out.1.lt k e.symm).1))))
             clear ho hg))
        go_roundw
        case rel => exact ⟨i + 1, A2, c2, by have := HI.out; omega, by go_num, rfl, S2⟩
        case measure => simp [intOf]; have := HI.out; omega
    · have hi16 : i = 16 := by omega
      subst hi16
      go_wp2_with fail
      go_ret
      have h1 := I.out.1
      rw [show (clampL K).take 16 = clampL K from List.take_of_length_le (by rw [clampL_len]; exact Nat.le_refl _)] at h1
      exact ⟨A1, c1, rfl, own_mono h1 B0.out.size, Below.tr B0.out I.out.2⟩
end Go.Proofs.Ytkikdhjckjmolaa
