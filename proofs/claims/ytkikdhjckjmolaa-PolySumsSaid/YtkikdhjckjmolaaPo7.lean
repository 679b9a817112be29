/- Poly: least. -/
import Derived.Test.YtkikdhjckjmolaaPo6
namespace Go.Proofs.Ytkikdhjckjmolaa
open Go.RowKit
theorem Fr.new {w w' : World} {g2 : Nat} {M : Nat → Prop} (h : Fr (fun j => j = g2) w w') (hg : w.heap.size ≤ g2) : Fr M w w' :=
  ⟨h.os, h.tape, h.output, h.size, fun i hi _ => h.block i hi (by omega)⟩
attribute [local go_sem] yld yldUpon_value

set_option maxRecDepth 100000 in
set_option maxHeartbeats 8000000 in
theorem least_any {w : World} {g : Nat} {l : List Nat} (h : Num w g l) (hb : LeL l 1152921504606846976) (hb2 : LeL (settleL l) 1152921504606846976) (hb3 : LeL (settleL (settleL l)) 67108863) :
    Calls Try.prog 23 #[.pointer (some ⟨g, 0, none⟩)] w fun e w' => e = .returned (.tuple #[]) ∧ Num w' g (leastL (settleL (settleL l))) ∧ Fr (fun j => j = g) w w' := by
  have H := Lib.hid h; have HB := Lib.hid hb; have HB2 := Lib.hid hb2
  clear h hb hb2
  obtain ⟨iN, hiN, zN, _, _⟩ := info_parts Try.infoNum
  have HiN := Lib.hid hiN; have HzN := Lib.hid zN
  clear hiN zN
  have uN := Lib.hid Try.underlying41
  go_enter Try.func23, Try.ntmps23
  go_wp2_with fail
  refine (settle_any H.out HB.out).mono ?_
  rintro e w1 ⟨rfl, hn1, hf1⟩
  have H1 := Lib.hid hn1; have F1 := Lib.hid hf1
  clear hn1 hf1
  go_wp2_with fail
  refine (settle_any H1.out HB2.out).mono ?_
  rintro e w2 ⟨rfl, hn2, hf2⟩
  have H2 := Lib.hid hn2; have F2 := Lib.hid (F1.out.tr hf2)
  clear hn2 hf2 H1 F1
  have HM0 : Hid ((settleL (settleL l)).length = 5) := settleL_len _
  obtain ⟨m, hme'⟩ : ∃ m, m = settleL (settleL l) := ⟨_, rfl⟩
  rw [← hme'] at H2 HM0 hb3
  have hme := Lib.hid hme'
  clear hme'
  have hrm : Hid (w2.rangeAt g 0 (nl m)) := H2.out.range
  have iM : Hid ((Try.prog.info? 41).map (·.size) = some (nl m).length) := by rw [nl_length, HM0.out]; exact Try.sizeNum
  have hg2 : g < w2.heap.size := H2.out.lt
  obtain ⟨m0, hm0⟩ : ∃ x, x = m.set 0 (m.getD 0 0 + 5) := ⟨_, rfl⟩
  have hm0l : Hid (m0.length = 5) := by rw [hm0]; show _ = _; rw [List.length_set]; exact HM0.out
  have hm0b : Hid (LeL m0 1152921504606846976) := by
    intro x hx
    rw [hm0] at hx
    rcases List.mem_or_eq_of_mem_set hx with h | h
    · exact Nat.le_trans (hb3 x h) (by decide)
    · have := getD_le hb3 0
      rw [h]; omega
  have HM3 := Lib.hid hm0
  have hm0e : Hid (m0 = m.set 0 (m.getD 0 0 + 5)) := hm0
  obtain ⟨x0, hx0'⟩ : ∃ x, x = m.getD 0 0 := ⟨_, rfl⟩
  have hx0b : x0 ≤ 67108863 := by rw [hx0']; exact getD_le hb3 0
  obtain ⟨y0, hy0'⟩ : ∃ y, y = x0 + 5 := ⟨_, rfl⟩
  have hadd0 : IntKind.u64.wrap ((x0 : Int) + 5) = (y0 : Int) := by rw [wrap_u64]; omega
  have hx0 := Lib.hid hx0'; have hy0 := Lib.hid hy0'
  clear hx0' hy0' hx0b
  have HB3 := Lib.hid hb3
  clear hm0 hb3
  go_wp2_with (first
    | ((with_reducible refine lst_load_mid 41 (.tmp 10) rfl g 0 rfl (nl m) _ hrm.out uN.out rfl iM.out ?_ ?_)
       (focus rfl))
    | ((with_reducible refine lst_alloc_d 2 rfl 41 rfl iN _ HiN.out HzN.out ?_ ?_)
       (focus rfl)
       intro g2 w3 Hg2 Hh2 hb2
       have B3 := Lib.hid hb2
       have G3 : Hid (w3.heap[g2]? = some (.cells (nl (List.replicate 5 0)).toArray 41 (0, 0))) := Hh2
       have E3 : Hid (w2.heap.size = g2) := Hg2.out.1.symm
       clear Hg2 Hh2 hb2)
    | ((with_reducible refine lst_store_abs 41 (.tmp 2) (.tmp 11) rfl g2 41 (nl (List.replicate 5 0)).toArray (nl m).toArray rfl rfl G3.out (by simpa using iM.out) (by simp [nl_length, HM0.out]) (by simp; exact nl_oneCell _) ?_ ?_)
       (focus rfl)
       intro w4 Hh4 hg4
       have N4 : Hid (Num w4 g2 m) := ⟨Hh4.out, HM0.out⟩
       have F4 : Hid (Fr (fun j => j = g2) w2 w4) := (Fr.of_below (M := fun j => j = g2) B3.out).tr ((Fr.of_grown hg4).mono (fun i _ e => by injection e))
       have hc4 : w4.cell? ⟨g2, 0, none⟩ = some (.int .u64 (x0 : Int)) := by rw [hx0.out]; exact N4.out.cell (by decide)
       have hz4 := N4.out.frz 0
       clear Hh4 hg4 B3 G3))
  have N5 : Hid (Num (w4.setCell ⟨g2, 0, none⟩ (.int .u64 (y0 : Int))) g2 (midL m0 0)) := by
    have h := N4.out.set 0 y0
    rw [hy0.out, hx0.out, ← HM3.out] at h
    rw [midL_0 hm0l.out, hy0.out, hx0.out]; exact h
  have F5 : Hid (Fr (fun j => j = g2) w2 (w4.setCell ⟨g2, 0, none⟩ (.int .u64 (y0 : Int)))) := F4.out.setCell (p := ⟨g2, 0, none⟩) (.inl rfl) _
  clear hc4 hz4 N4 F4 hadd0 HM3 hrm
  generalize w4.setCell ⟨g2, 0, none⟩ (.int .u64 (y0 : Int)) = w5 at N5 F5 ⊢
  go_loopw [3, 16] (fun c i wr => ∃ k : Nat, k ≤ 5 ∧ i = .int .i64 (k : Nat) ∧ c = .int .u64 (carryL m0 k : Nat) ∧ Hid (Num wr g2 (midL m0 k) ∧ Fr (fun j => j = g2) w2 wr)) (fun _ i _ => 5 - (intOf i).toNat)
  case atStart => exact ⟨0, Nat.zero_le _, rfl, rfl, N5.out, F5.out⟩
  case round =>
    clear N5 F5
    obtain ⟨k, hk, rfl, rfl, HJ⟩ := hrel
    by_cases hlk : k < 5
    · have hkI : (k : Int) < 5 := by omega
      have hk0 : (0 : Int) ≤ (k : Int) := by omega
      obtain ⟨x, hx⟩ : ∃ x, x = m0.getD k 0 := ⟨_, rfl⟩
      obtain ⟨c, hc⟩ : ∃ c, c = carryL m0 k := ⟨_, rfl⟩
      have hxb : x ≤ 1152921504606846976 := by rw [hx]; exact getD_le hm0b.out k
      have hcb : c ≤ 17179869700 := by rw [hc]; exact carry_le hm0b.out k
      obtain ⟨y, hy⟩ : ∃ y, y = x + c := ⟨_, rfl⟩
      rw [← hc]
      have hcell : wr.cell? ⟨g2, k, none⟩ = some (.int .u64 (x : Int)) := by rw [hx, ← mid_cell m0 k hlk]; exact HJ.out.1.cell hlk
      have hfz := HJ.out.1.frz k
      have hsum : IntKind.u64.wrap ((x : Int) + (c : Int)) = (y : Int) := by rw [wrap_u64]; omega
      have hyb : y ≤ 1152921521786716676 := by omega
      have Hx := Lib.hid hx; have Hc := Lib.hid hc; have Hy := Lib.hid hy; have Hyb := Lib.hid hyb
      clear hx hc hy hxb hcb hyb
      have G1 : Hid (Num (wr.setCell ⟨g2, k, none⟩ (.int .u64 (y : Int))) g2 ((midL m0 k).set k y)) := HJ.out.1.set k y
      have F1 : Hid (Fr (fun j => j = g2) w2 (wr.setCell ⟨g2, k, none⟩ (.int .u64 (y : Int)))) := HJ.out.2.setCell (p := ⟨g2, k, none⟩) (.inl rfl) _
      have hget : ((midL m0 k).set k y).getD k 0 = y := by
        rw [List.getD_eq_getElem?_getD, List.getElem?_set_self (by rw [midL_len]; exact hlk)]; rfl
      have hcell1 : (wr.setCell ⟨g2, k, none⟩ (.int .u64 (y : Int))).cell? ⟨g2, k, none⟩ = some (.int .u64 (y : Int)) := by
        have := G1.out.cell hlk
        rw [hget] at this; exact this
      have hfz1 := G1.out.frz k
      obtain ⟨z, hz⟩ : ∃ z, z = y % 67108864 := ⟨_, rfl⟩
      obtain ⟨d, hd⟩ : ∃ d, d = y / 67108864 := ⟨_, rfl⟩
      have hyl : y < 18446744073709551616 := by have := Hyb.out; omega
      have hand : bits .and .u64 (y : Int) 67108863 = (z : Int) := by rw [and26 y hyl, hz]
      have hdiv : (y : Int) / 67108864 = (d : Int) := by rw [hd]; omega
      have hyI : (y : Int) < 18446744073709551616 := by omega
      have hy0 : (0 : Int) ≤ (y : Int) := by omega
      have G2 : Hid (Num ((wr.setCell ⟨g2, k, none⟩ (.int .u64 (y : Int))).setCell ⟨g2, k, none⟩ (.int .u64 (z : Int))) g2 (midL m0 (k + 1))) := by
        have h := G1.out.set k z
        rw [List.set_set] at h
        have e := midL_set m0 k hlk
        rw [← Hx.out, ← Hc.out, ← Hy.out, ← hz] at e
        rw [e] at h
        exact h
      have F2' : Hid (Fr (fun j => j = g2) w2 ((wr.setCell ⟨g2, k, none⟩ (.int .u64 (y : Int))).setCell ⟨g2, k, none⟩ (.int .u64 (z : Int)))) := F1.out.setCell (p := ⟨g2, k, none⟩) (.inl rfl) _
      have Hz := Lib.hid hz; have Hd := Lib.hid hd
      clear hget hz hd hyl G1 F1 HJ
      go_wp2_with fail
      go_roundw
      case rel =>
        refine ⟨k + 1, by omega, by go_num, ?_, Lib.hid ⟨G2.out, F2'.out⟩⟩
        rw [Hd.out, Hy.out, Hx.out, Hc.out]; rfl
      case measure => simp [intOf]; omega
    · have hkI : decide ((k : Int) < 5) = false := decide_eq_false (by omega)
      have hk5 : k = 5 := by omega
      rw [hk5] at HJ ⊢
      clear hk5
      have hkI2 : ¬ k < 5 := hlk
      have hov : Hid (Num wr g2 (overL m)) := by
        have := HJ.out.1
        rw [hm0e.out] at this; exact this
      have hne : g ≠ g2 := by have := E3.out; omega
      have hmw : Hid (Num wr g m) := H2.out.fr HJ.out.2 hne
      obtain ⟨c, hc⟩ : ∃ c, c = carryL m0 5 := ⟨_, rfl⟩
      rw [← hc]
      have hle : Hid (leastL m = if 0 < c then overL m else m) := by show _ = _; rw [hc, hm0e.out]; rfl
      clear hc
      by_cases h0 : 0 < c
      · have h0I : (0 : Int) < (c : Int) := by omega
        have hro : Hid (wr.rangeAt g2 0 (nl (overL m))) := hov.out.range
        have iO : Hid ((Try.prog.info? 41).map (·.size) = some (nl (overL m)).length) := by rw [nl_length, hov.out.len]; exact Try.sizeNum
        go_wp2_with (first
          | ((with_reducible refine lst_load_mid 41 (.tmp 2) rfl g2 0 rfl (nl (overL m)) _ hro.out uN.out rfl iO.out ?_ ?_)
             (focus rfl))
          | ((with_reducible refine lst_store_abs 41 (.tmp 39) (.tmp 38) rfl g 41 (nl m).toArray (nl (overL m)).toArray rfl rfl hmw.out.h (by simpa using iO.out) (by simp [nl_length, hov.out.len, hmw.out.len]) (by simp; exact nl_oneCell _) ?_ ?_)
             (focus rfl)
             intro w9 Hh9 hg9))
        go_end0
        refine ⟨rfl, ⟨?_, ?_⟩, ?_⟩
        · rw [← hme.out, hle.out, if_pos h0]; exact Hh9.out
        · rw [← hme.out, hle.out, if_pos h0]; exact hov.out.len
        · exact (F2.out.tr (HJ.out.2.new (by have := E3.out; omega))).tr ((Fr.of_grown hg9).mono (fun i _ e => by injection e))
      · have h0I : decide ((0 : Int) < (c : Int)) = false := decide_eq_false (by omega)
        have h02 : c = 0 := by omega
        go_wp2_with fail
        go_end0
        refine ⟨rfl, ?_, ?_⟩
        · rw [← hme.out, hle.out, if_neg h0]; exact hmw.out
        · exact F2.out.tr (HJ.out.2.new (by have := E3.out; omega))
end Go.Proofs.Ytkikdhjckjmolaa
