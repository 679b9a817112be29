/- Poly: limbs. -/
import Derived.Test.YtkikdhjckjmolaaPo3
namespace Go.Proofs.Ytkikdhjckjmolaa
open Go.RowKit
attribute [local go_sem] yld yldUpon_value

theorem and26 (x : Nat) (h : x < 18446744073709551616) : bits .and .u64 (x : Int) 67108863 = ((x % 67108864 : Nat) : Int) := by
  show IntKind.u64.wrap ((BitVec.ofInt 64 (x : Int) &&& BitVec.ofInt 64 67108863).toNat : Int) = _
  have e1 : (BitVec.ofInt 64 (x : Int)).toNat = x := by rw [BitVec.toNat_ofInt]; omega
  have e2 : (BitVec.ofInt 64 67108863).toNat = 2 ^ 26 - 1 := by decide
  rw [BitVec.toNat_and, e1, e2, Nat.and_two_pow_sub_one_eq_mod, wrap_u64]
  omega
def partQ (l : List Nat) (k : Nat) : List Nat := l.take k ++ List.replicate (5 - k) 0
theorem partQ_len {l : List Nat} (h : l.length = 5) (k : Nat) (hk : k ≤ 5) : (partQ l k).length = 5 := by simp [partQ]; omega
theorem partQ_set {l : List Nat} (hL : l.length = 5) (j : Nat) (hj : j < 5) : (partQ l j).set j (l.getD j 0) = partQ l (j + 1) := by
  unfold partQ
  rw [List.set_append_right _ _ (by simp; omega)]
  rw [show j - (l.take j).length = 0 by simp; omega]
  rw [show 5 - j = (5 - (j + 1)) + 1 by omega, List.replicate_succ, List.set_cons_zero]
  rw [List.take_succ_eq_append_getElem (i := j) (by omega)]
  rw [List.append_assoc]
  simp [List.getD, List.getElem?_eq_getElem (show j < l.length by omega), show 5 - (j + 1) = 4 - j by omega]

set_option maxRecDepth 100000 in
set_option maxHeartbeats 8000000 in
theorem limbs_any {w : World} {F : Nat → Prop} {A : Option Addr} {n c : Nat} {l : List UInt8} (h : Sl w F A n c l) (hF : ∀ k, F k → k < w.heap.size) (h17 : n ≤ 17) :
    Calls Try.prog 21 #[.slice A n c] w fun e w' => e = .returned (.agg (nl (limbsN (leN l))).toArray) ∧ Below w.heap.size w w' := by
  have H := Lib.hid h; have HF := Lib.hid hF; have H17 := Lib.hid h17
  have HL := Lib.hid h.len
  clear h hF
  obtain ⟨iN, hiN, zN, _, _⟩ := info_parts Try.infoNum
  obtain ⟨iR, hiR, zR, _, _⟩ := info_parts Try.infoRoom
  have HiN := Lib.hid hiN; have HzN := Lib.hid zN; have HiR := Lib.hid hiR; have HzR := Lib.hid zR
  clear hiN zN hiR zR
  obtain ⟨R, hR⟩ : ∃ R, R = l ++ List.replicate (24 - n) 0 := ⟨_, rfl⟩
  have HRl : Hid (R.length = 24) := by rw [hR]; show _ = _; rw [List.length_append, List.length_replicate, HL.out]; omega
  have HRv : Hid (leN R = leN l) := by rw [hR]; exact leN_zeros _ _
  have HR := Lib.hid hR
  have HRe : Hid (R = (List.replicate 24 0).take 0 ++ (l.take 24 ++ (List.replicate 24 0).drop (0 + min n 24))) := by
    show _ = _
    rw [hR, List.take_of_length_le (l := l) (by rw [HL.out]; omega), Nat.zero_add, Nat.min_eq_left (by omega), List.drop_replicate, List.take_zero, List.nil_append]
  clear hR
  have hs5 : (5 : Int) = 5 := rfl
  go_enter Try.func21, Try.ntmps21
  go_wp2_with (first
    | ((with_reducible refine lst_alloc_d 2 rfl 41 rfl iN _ HiN.out HzN.out ?_ ?_)
       (focus rfl)
       intro g2 w2 Hg2 Hh2 hb2
       have B2 := Lib.hid hb2
       have G2 : Hid (w2.heap[g2]? = some (.cells (nl (List.replicate 5 0)).toArray 41 (0, 0))) := Hh2
       have E2 : Hid (w.heap.size ≤ g2) := Nat.le_of_eq Hg2.out.1.symm
       clear Hg2 Hh2 hb2)
    | ((with_reducible refine lst_alloc_d 3 rfl 56 rfl iR _ HiR.out HzR.out ?_ ?_)
       (focus rfl)
       intro g3 w3 Hg3 Hh3 hb3
       have G23 := Lib.hid (heap_bel G2.out hb3)
       have G3 : Hid (w3.heap[g3]? = some (.cells (bs (List.replicate 24 0)).toArray 56 (0, 0))) := Hh3
       have E3 : Hid (w.heap.size ≤ g3 ∧ g2 < g3) := by
         have := Hg3.out.1; have := B2.out.size; have := (Array.getElem?_eq_some_iff.1 G2.out).1
         show _ ∧ _; omega
       have B3 := Lib.hid (Below.tr B2.out hb3)
       have S3 := Lib.hid (H.out.belF B3.out HF.out)
       clear Hg3 Hh3 hb3 B2 G2)
    | ((with_reducible refine copy_blk (.tmp 7) (.tmp 8) rfl g3 0 24 24 24 56 (List.replicate 24 0) rfl G3.out (by simp) (by decide) rfl S3.out ?_ ?_)
       (focus rfl)
       intro w4 Hh4 hg4
       have G4 : Hid (w4.heap[g3]? = some (.cells (bs R).toArray 56 (0, 0))) := by
         rw [HRe.out]; exact Hh4.out
       have G24 := Lib.hid ((hg4.block g2 (Array.getElem?_eq_some_iff.1 G23.out).1 (by have := E3.out; simp; omega)).trans G23.out)
       have B4 := Lib.hid (B3.out.grown hg4 B3.out.size (fun j hj => by injection hj with hj; have := E3.out; omega))
       clear hg4 Hh4 G3 G23 B3 S3)
    | ((with_reducible refine lst_alloc_d 4 rfl 41 rfl iN _ HiN.out HzN.out ?_ ?_)
       (focus rfl)
       intro g4 w5 Hg5 Hh5 hb5
       have G25 := Lib.hid (heap_bel G24.out hb5)
       have G35 := Lib.hid (heap_bel G4.out hb5)
       have G5 : Hid (Num w5 g4 (partQ (limbsN (leN l)) 0)) := ⟨Hh5.out, partQ_len (limbsN_len _) 0 (by decide)⟩
       have E4 : Hid (w.heap.size ≤ g4 ∧ g2 < g4 ∧ g3 < g4) := by
         have := Hg5.out.1; have := B4.out.size; have := (Array.getElem?_eq_some_iff.1 G24.out).1; have := (Array.getElem?_eq_some_iff.1 G4.out).1
         show _ ∧ _ ∧ _; omega
       have B5 := Lib.hid (Below.tr B4.out hb5)
       clear Hg5 Hh5 hb5 G24 G4 B4))
  go_loopw [10] (fun i wr => ∃ k : Nat, k ≤ 5 ∧ i = .int .i64 (k : Nat) ∧ Hid (wr.heap[g2]? = some (.cells (nl (List.replicate 5 0)).toArray 41 (0, 0)) ∧ wr.heap[g3]? = some (.cells (bs R).toArray 56 (0, 0)) ∧ Num wr g4 (partQ (limbsN (leN l)) k) ∧ Below w.heap.size w wr)) (fun i _ => 5 - (intOf i).toNat)
  case atStart => exact ⟨0, Nat.zero_le _, rfl, G25.out, G35.out, G5.out, B5.out⟩
  case round =>
    clear G25 G35 G5 B5
    obtain ⟨k, hk, rfl, HI⟩ := hrel
    by_cases hlt : k < 5
    · have hkI : (k : Int) < 5 := by omega
      have hk0 : (0 : Int) ≤ (k : Int) := by omega
      obtain ⟨t, ht⟩ : ∃ t : Nat, (26 : Int) * (k : Int) = (t : Int) := ⟨26 * k, by omega⟩
      obtain ⟨o, ho⟩ : ∃ o : Nat, o = 26 * k / 8 := ⟨_, rfl⟩
      obtain ⟨r, hr⟩ : ∃ r : Nat, r = 26 * k % 8 := ⟨_, rfl⟩
      have hto : (t : Int) / 8 = (o : Int) := by omega
      have htr : (t : Int) % 8 = (r : Int) := by omega
      have ho13 : o ≤ 13 := by omega
      have hoI : (o : Int) ≤ 24 := by omega
      have ho0 : (0 : Int) ≤ (o : Int) := by omega
      have hr8 : (r : Int) < 8 := by omega
      have hr0 : (0 : Int) ≤ (r : Int) := by omega
      have ht0 : (0 : Int) ≤ (t : Int) := by omega
      have ht104 : (t : Int) ≤ 104 := by omega
      have Ho := Lib.hid ho; have Hr := Lib.hid hr
      have hS : Hid (Sl wr (fun j => j = g3) (some ⟨g3, o, none⟩) (24 - o) (24 - o) (R.drop o)) := by
        have h := (Sl.of_block HI.out.2.1 rfl 24 HRl.out).drop_ (m := o) (A' := some ⟨g3, o, none⟩) (by omega) (.inr (by simp [addr_add_zero]))
        exact h
      have hc := HI.out.2.2.1.cell hlt
      have hz := HI.out.2.2.1.frz k
      have hrd := Lib.hid (limb_read R k hlt)
      have h24 : Hid ((24 : Int) - (o : Int) = ((24 - o : Nat) : Int)) := by show _ = _; omega
      clear ho hr
      go_wp2_with fail
      refine (pword_any hS.out (by omega) (by omega)).mono ?_
      rintro e w6 ⟨rfl, rfl⟩
      obtain ⟨V, hV⟩ : ∃ V, V = leN ((R.drop o).take 8) := ⟨_, rfl⟩
      have hVl : V < 18446744073709551616 := by
        have h := leN_lt ((R.drop o).take 8)
        rw [List.length_take, Nat.min_eq_left (by rw [List.length_drop, HRl.out]; omega), ← hV] at h
        exact h
      rw [← hV]
      have hV0 : (0 : Int) ≤ (V : Int) := by omega
      have hVI : (V : Int) < 18446744073709551616 := by omega
      have HV := Lib.hid hV
      obtain ⟨Z, hZ⟩ : ∃ Z, Z = (limbsN (leN l)).getD k 0 := ⟨_, rfl⟩
      have hand : bits .and .u64 ((V : Int) / 2 ^ r) 67108863 = (Z : Int) := by
        have e1 : (V : Int) / 2 ^ r = ((V / 2 ^ r : Nat) : Int) := by simp
        rw [e1, and26 _ (Nat.lt_of_le_of_lt (Nat.div_le_self _ _) hVl), hV, hZ]
        congr 1
        rw [Ho.out, Hr.out, hrd.out, HRv.out]
        simp [limbsN, hlt, List.getD]
      have HZ := Lib.hid hZ
      clear hV hVl hZ
      go_wp2_with fail
      clear hand
      have hN := HI.out.2.2.1.set k Z
      have hf : Fr (fun j => j = g4) w6 (w6.setCell ⟨g4, k, none⟩ (.int .u64 (Z : Int))) := (Fr.refl (fun j => j = g4) w6).setCell (p := ⟨g4, k, none⟩) (.inl rfl) _
      have he4 := E4.out
      refine ⟨⟨k + 1, by omega, by go_num, ?_⟩, by simp [intOf]; omega⟩
      refine Lib.hid ⟨(hf.block g2 (Array.getElem?_eq_some_iff.1 HI.out.1).1 (by omega)).trans HI.out.1, (hf.block g3 (Array.getElem?_eq_some_iff.1 HI.out.2.1).1 (by omega)).trans HI.out.2.1, ?_, ?_⟩
      · rw [← partQ_set (limbsN_len _) k hlt, ← HZ.out]; exact hN
      · exact ((Fr.of_below HI.out.2.2.2).trans hf (fun i _ h => h)).to_below (fun i hi => by omega)
    · have hkI : decide ((k : Int) < 5) = false := decide_eq_false (by omega)
      have hk5 : k = 5 := by omega
      subst hk5
      have hP : partQ (limbsN (leN l)) 5 = limbsN (leN l) := by
        unfold partQ
        rw [List.take_of_length_le (by rw [limbsN_len]; exact Nat.le_refl _)]; simp
      have hNn := HI.out.2.2.1
      rw [hP] at hNn
      have hout : Hid (wr.rangeAt g4 0 (nl (limbsN (leN l)))) := hNn.range
      have uN := Lib.hid Try.underlying41
      have iN : Hid ((Try.prog.info? 41).map (·.size) = some (nl (limbsN (leN l))).length) := by rw [nl_length, limbsN_len]; exact Try.sizeNum
      have Hz : Hid (wr.heap[g2]? = some (.cells (nl (List.replicate 5 0)).toArray 41 (0, 0))) := HI.out.1
      clear hP hNn
      go_wp2_with (first
        | ((with_reducible refine lst_load_mid 41 (.tmp 4) rfl g4 0 rfl (nl (limbsN (leN l))) _ hout.out uN.out rfl iN.out ?_ ?_)
           (focus rfl))
        | ((with_reducible refine lst_store_abs 41 (.tmp 2) (.tmp 26) rfl g2 41 (nl (List.replicate 5 0)).toArray (nl (limbsN (leN l))).toArray rfl rfl Hz.out (by simpa using iN.out) (by simp [nl_length, limbsN_len]) (by simp; exact nl_oneCell _) ?_ ?_)
           (focus rfl)
           intro w10 Hh10 hg10))
      refine bodyPost_ret (v := .agg (nl (limbsN (leN l))).toArray) ?_ rfl ⟨rfl, ?_⟩
      · exact results_cell Try.results21 rfl (run_loadVar_mid w10 g2 0 41 (nl (limbsN (leN l))) _ (range_block Hh10.out) uN.out rfl iN.out)
      · exact HI.out.2.2.2.grown hg10 HI.out.2.2.2.size (fun j hj => by injection hj with hj; have := E2.out; omega)
end Go.Proofs.Ytkikdhjckjmolaa
