/- The reference's Sum. -/
import Derived.Test.YtkikdhjckjmolaaPs10
namespace Go.Proofs.Ytkikdhjckjmolaa
open Go.RowKit
attribute [local go_sem] yld yldUpon_value

theorem own_empty (w : World) : (w.alloc (.cells #[] 5)).ownsRow w.heap.size 5 1 (.slice (some ⟨w.heap.size, 0, none⟩) 0 0) 0 (bs []) :=
  ⟨rfl, .inr ⟨w.heap.size, 0, #[], rfl, Nat.le_refl _, heap_alloc_new w _, Nat.le_refl _, by unfold maxLen; omega, rfl, rfl⟩⟩
theorem Rd.one1 (w : World) : Rd (w.alloc (.cells #[.int .u8 1] 5)) (some ⟨w.heap.size, 0, none⟩) (bs [1]) := Rd.one w 1
/-- where Sum stands: j blocks -/
structure RSuI (w wr : World) (K l : List UInt8) (j : Nat) (A : Option Addr) (n c : Nat) (a : List Nat) : Prop where
  dg : Dg wr (fun k => k < wr.heap.size) A n c a
  d4 : D4 a
  val : dgval a = accN (leN (clampL K)) l j
  le : n ≤ 65
  bel : Below w.heap.size w wr
set_option maxRecDepth 100000 in
set_option maxHeartbeats 8000000 in
theorem rSum_any {w : World} {K : List UInt8} (hK : K.length = 32) {F : Nat → Prop} {A : Option Addr} {n c : Nat} {l : List UInt8} (h : Sl w F A n c l) (hF : ∀ k, F k → k < w.heap.size) (hn : n ≤ 100000) :
    Calls Try.prog 11 #[.agg (bs K).toArray, .slice A n c] w fun e w' => e = .returned (.agg (bs (tagL K l)).toArray) ∧ Below w.heap.size w w' := by
  have HK := Lib.hid hK; have H := Lib.hid h; have HF := Lib.hid hF; have HN := Lib.hid hn; have HL := Lib.hid h.len
  clear hK h hF hn
  obtain ⟨iT, hiT, zT, _, _⟩ := info_parts Try.infoTag
  have HiT := Lib.hid hiT; have HzT := Lib.hid zT
  clear hiT zT
  have uK := Lib.hid Try.underlying23
  have i1 : Hid ((Try.prog.info? 23).map (·.size) = some (bs K).length) := by rw [bs_length, HK.out]; exact Try.sizeKey
  obtain ⟨w0, hw0⟩ : ∃ w0, w0 = w.alloc (.cells (bs K).toArray 23) := ⟨_, rfl⟩
  have X0 : Hid (Has w w0 [(w.heap.size, .cells (bs K).toArray 23 (0, 0))]) := by
    rw [hw0]; exact (Has.start (Below.refl _ w)).new (Below.al _ _) (Nat.le_refl _) (heap_alloc_new w _)
  subst hw0
  go_enter Try.func11, Try.ntmps11
  go_wp2_with (first
    | ((with_reducible refine lst_alloc_d 4 rfl 28 rfl iT _ HiT.out HzT.out ?_ ?_)
       (focus rfl)
       intro g4 w4 Hg Hh hb
       have X4 : Hid (Has w w4 [(g4, .cells (bs (List.replicate 16 0)).toArray 28 (0, 0)), (w.heap.size, .cells (bs K).toArray 23 (0, 0))]) := X0.out.new hb (Nat.le_of_eq Hg.out.1.symm) Hh.out
       have r1 : Hid (w4.rangeAt w.heap.size 0 (bs K)) := range_block (X4.out.get (by simp) : w4.heap[w.heap.size]? = some (.cells (bs K).toArray 23 (0, 0)))
       clear Hg Hh hb X0)
    | ((with_reducible refine lst_load_mid 23 (.tmp 2) rfl w.heap.size 0 rfl (bs K) _ r1.out uK.out rfl i1.out ?_ ?_)
       (focus rfl)))
  refine (Clamp_any w4 HK.out).mono ?_
  rintro e w5 ⟨A5, c5, rfl, ho5, hb5⟩
  have X5 := Lib.hid (X4.out.bl hb5)
  have S5 := Lib.hid (Sl.of_own ho5)
  have E4 : Hid (w.heap.size ≤ g4) := Lib.hid (X4.out.ge (by simp : (g4, Obj.cells (bs (List.replicate 16 0)).toArray 28 (0, 0)) ∈ _))
  clear ho5 hb5 X4 r1
  go_wp2_with fail
  refine (Digits_any S5.out (fun _ h => h.2.1) (by decide)).mono ?_
  rintro e w6 ⟨A6, c6, rfl, ho6, hb6⟩
  have X6 := Lib.hid (X5.out.bl hb6)
  have R6 : Hid (Dg w6 (fun k => k < w6.heap.size) A6 64 c6 (digitsL (clampL K))) := (Dg.of_own ho6).mono (fun k h => h.2)
  clear ho6 hb6 X5 S5
  go_wp2_with fail
  go_loopw [6, 7] (fun av z wr => ∃ (j i : Nat) (A' : Option Addr) (n' c' : Nat) (a : List Nat), i = 16 * j ∧ j ≤ (n + 15) / 16 ∧ z = .int .i64 (i : Nat) ∧ av = .slice A' n' c' ∧ Hid (RSuI w6 wr K l j A' n' c' a)) (fun _ z _ => n - (intOf z).toNat)
  case atStart => exact ⟨0, 0, none, 0, 0, [], rfl, Nat.zero_le _, rfl, rfl, Lib.hid ⟨Dg.nil _ _, fun d hd => (by cases hd), rfl, by decide, Below.refl _ _⟩⟩
  case round =>
    obtain ⟨j, i, A1, n1, c1, a, hij, hj, rfl, rfl, I⟩ := hrel
    have hi0 : (0 : Int) ≤ (i : Int) := by omega
    have HIJ := Lib.hid hij
    have HJ := Lib.hid hj
    by_cases hlt : i < n
    · have hiI : (i : Int) < (n : Int) := by omega
      have HI := Lib.hid hlt
      have hnb : n ≤ 100000 := HN.out
      have Hs := Lib.hid (H.out.belF (Below.tr X6.out.bel I.out.bel) HF.out)
      obtain ⟨ad, rfl⟩ : ∃ ad, A = some ad := by
        cases A with
        | some ad => exact ⟨ad, rfl⟩
        | none => have := (H.out.zero rfl).1; omega
      have hcap := H.out.cap
      obtain ⟨t, ht⟩ : ∃ t, i + 16 = t := ⟨_, rfl⟩
      have htI : (i : Int) + 16 = (t : Int) := by omega
      obtain ⟨q, hq⟩ : ∃ q, (if n < t then n else t) = q := ⟨_, rfl⟩
      have hqI : (if n < t then (n : Int) else (t : Int)) = (q : Int) := by rw [← hq]; split <;> rfl
      have hqf : i < q ∧ q ≤ n ∧ q ≤ i + 16 ∧ (q = n ∨ q = i + 16) := by rw [← hq]; split <;> omega
      have hqiI : (i : Int) ≤ (q : Int) := by omega
      have hqcI : (q : Int) ≤ (c : Int) := by omega
      have hqi : i ≤ q := by omega
      have hqc : q ≤ c := by omega
      have hne : ¬ c = i := by omega
      have HQ := Lib.hid hqf
      obtain ⟨P, hP⟩ : ∃ P, P = (l.drop i).take (q - i) := ⟨_, rfl⟩
      have HPl : Hid (P.length = q - i) := by rw [hP, List.length_take, List.length_drop, HL.out]; exact Lib.hid (by omega)
      have HSP : Hid (Sl wr F (some (ad.add i)) (q - i) (c - i) P) := by
        have h1 := Hs.out.drop_ (m := i) (A' := some (ad.add i)) (by omega) (.inr rfl)
        rw [← List.take_append_drop (q - i) (l.drop i), ← hP] at h1
        exact Lib.hid (h1.take_ HPl.out)
      have HB1 : Hid (P ++ [1] = (l.drop (16 * j)).take 16 ++ [1]) := by
        rw [hP, ← HIJ.out]
        refine Lib.hid ?_
        congr 1
        rcases hqf.2.2.2 with e | e
        · rw [List.take_of_length_le (by rw [List.length_drop, HL.out]; omega), List.take_of_length_le (by rw [List.length_drop, HL.out]; omega)]
        · rw [show q - i = 16 by omega]
      have hwsz := I.out.bel.size
      have hW0 := Lib.hid hwsz
      have HFw : Hid (∀ k, F k → k < wr.heap.size) := Lib.hid fun k hk => Nat.lt_of_lt_of_le (HF.out k hk) (Nat.le_trans X6.out.bel.size hwsz)
      clear hq hqf hij hj hP hwsz
      have hqi17 : Hid (q - i ≤ 16) := Lib.hid (by have := HQ.out; omega)
      have HR6 : Hid (Rd (wr.alloc (.cells #[] 5)) (some (ad.add i)) (bs P)) := Lib.hid (HSP.out.belF (Below.al wr _) HFw.out).rd
      have HO6 := Lib.hid (own_empty wr)
      have hs6 : Hid (wr.heap.size ≤ (wr.alloc (.cells #[] 5)).heap.size) := Lib.hid (by rw [World.size_alloc]; omega)
      have hl6 : Hid (0 + (q - i) ≤ 140737488355328) := Lib.hid (by have := hqi17.out; omega)
      obtain ⟨m7, hm7⟩ : ∃ m7, 0 + (q - i) = m7 := ⟨_, rfl⟩
      have HM7 : Hid (m7 ≤ 16 ∧ m7 = P.length) := Lib.hid ⟨by have := hqi17.out; omega, by have := HPl.out; omega⟩
      have hl7 : Hid (m7 + 1 ≤ 140737488355328) := Lib.hid (by have := HM7.out; omega)
      go_wp2_with (first
        | (at_builtin
           refine append_bytes rfl (.tmp 20) (.tmp 28) rfl wr.heap.size _ 0 0 [] rfl HO6.out (some (ad.add i)) (q - i) (c - i) P rfl HPl.out HR6.out hl6.out hs6.out ?_
           intro A7 c7 w7 hown7 hg7 _
           rw [hm7] at hown7
           rw [hm7]
           rw [List.nil_append] at hown7
           have HO7 := Lib.hid (hown7.alloc (.cells #[.int .u8 1] 5))
           have B7 : Hid (Below wr.heap.size wr (w7.alloc (.cells #[.int .u8 1] 5))) := Lib.hid (Below.tr ((Below.al wr _).grown hg7 hs6.out (fun j hj => by have e : some wr.heap.size = some j := hj; injection e with e; omega)) (Below.al w7 _))
           have hs7 := Lib.hid B7.out.size
           clear hown7 hg7)
        | (at_builtin
           refine append_bytes rfl (.tmp 30) (.tmp 31) rfl wr.heap.size A7 m7 c7 P rfl HO7.out (some ⟨w7.heap.size, 0, none⟩) 1 1 [1] rfl rfl (Rd.one1 w7) hl7.out hs7.out ?_
           intro A8 c8 w8 hown8 hg8 _
           have HO8 := Lib.hid hown8
           have B8 : Hid (Below wr.heap.size wr w8) := Lib.hid (B7.out.grown hg8 hs7.out (fun j hj => (HO7.out.lt j hj).1))
           clear hown8 hg8))
      have S8 := Lib.hid (Sl.of_own HO8.out)
      have I8 := I
      clear HO8 HO7 B7 hs7 HSP HR6 HO6 hs6 hl6 hl7 hqi17 HPl
      refine (Digits_any S8.out (fun _ h => h.2.1) (by have := HM7.out; omega)).mono ?_
      rintro e w9 ⟨A9, c9, rfl, ho9, hb9⟩
      have B9 := Lib.hid (Below.tr B8.out hb9)
      have D9 := Lib.hid (Dg.of_own ho9)
      clear ho9 hb9 S8 B8
      go_wp2_with fail
      refine (plus_any (I.out.dg.belF B9.out) D9.out (by have := I.out.le; omega) (by have := HM7.out; omega) I.out.d4.le (digitsL_d4 _).le).mono ?_
      rintro e w10 ⟨A10, n10, c10, r10, rfl, ho10, hb10, hd10, hv10, hn10⟩
      have B10 := Lib.hid (Below.tr B9.out hb10)
      have D10 := Lib.hid (Dg.of_own ho10)
      have F10 := Lib.hid hd10
      have V10 : Hid (dgval r10 = accN (leN (clampL K)) l j + blkN l j) := Lib.hid (by rw [hv10, I.out.val, digitsL_val, HB1.out]; rfl)
      have N10 : Hid (n10 ≤ 100) := Lib.hid (by have := HM7.out; have := I.out.le; omega)
      clear ho10 hb10 hd10 hv10 hn10 D9 B9
      go_wp2_with fail
      refine (rTimes_any D10.out (R6.out.belF (Below.tr I.out.bel B10.out)) (by have := N10.out; omega) (by decide) F10.out.le (digitsL_d4 _).le).mono ?_
      rintro e w11 ⟨A11, n11, c11, r11, rfl, ho11, hb11, hd11, hv11, hn11⟩
      have B11 := Lib.hid (Below.tr B10.out hb11)
      have D11 := Lib.hid (Dg.of_own ho11)
      have F11 := Lib.hid hd11
      have V11 : Hid (dgval r11 = (accN (leN (clampL K)) l j + blkN l j) * leN (clampL K)) := Lib.hid (by rw [hv11, V10.out, digitsL_val])
      have N11 : Hid (n11 ≤ 200) := Lib.hid (by have := N10.out; omega)
      clear ho11 hb11 hd11 hv11 hn11 D10 B10 F10 V10 N10
      go_wp2_with fail
      refine (rest_any D11.out (fun _ h => h.2) (by have := N11.out; omega) F11.out).mono ?_
      rintro e w12 ⟨A12, n12, c12, r12, rfl, ho12, hb12, hd12, hv12, hn12⟩
      have B12 := Lib.hid (Below.tr B11.out hb12)
      have J : Hid (RSuI w6 w12 K l (j + 1) A12 n12 c12 r12) := Lib.hid ⟨ho12, hd12, by rw [hv12, V11.out, PP_pP]; rfl, hn12, Below.tr I.out.bel B12.out⟩
      clear ho12 hb12 hd12 hv12 hn12 D11 B11 F11 V11 N11
      go_wp2_with fail
      go_roundw
      case rel => exact ⟨j + 1, i + 16, A12, n12, c12, r12, by have := HIJ.out; omega, by have := HIJ.out; have := HI.out; omega, by go_num, rfl, J⟩
      case measure => simp [intOf]; have := HI.out; omega
    · have hiI : ¬ (i : Int) < (n : Int) := by omega
      have hjn : j = (n + 15) / 16 := by omega
      have HJN := Lib.hid hjn
      have Xr := Lib.hid (X6.out.bl I.out.bel)
      clear hij hj hjn
      go_wp2_with fail
      have SK : Hid (Sl wr (fun k => k < wr.heap.size) (some ⟨w.heap.size, 16, none⟩) 16 16 (K.drop 16)) := by
        have hb : wr.heap[w.heap.size]? = some (.cells (bs K).toArray 23 (0, 0)) := Xr.out.get (by simp)
        have h1 := (Sl.of_block hb rfl 32 HK.out).drop_ (m := 16) (A' := some ⟨w.heap.size, 16, none⟩) (by decide) (.inr rfl)
        exact Lib.hid (h1.mono fun k e => by rw [e]; exact (Array.getElem?_eq_some_iff.1 hb).1)
      refine (Digits_any SK.out (fun _ h => h) (by decide)).mono ?_
      rintro e w9 ⟨A9, c9, rfl, ho9, hb9⟩
      have B9 := Lib.hid hb9
      have D9 := Lib.hid (Dg.of_own ho9)
      clear ho9 hb9 SK
      go_wp2_with fail
      refine (plus_any (I.out.dg.belF B9.out) D9.out (by have := I.out.le; omega) (by decide) I.out.d4.le (digitsL_d4 _).le).mono ?_
      rintro e w10 ⟨A10, n10, c10, r10, rfl, ho10, hb10, hd10, hv10, hn10⟩
      obtain ⟨T, hT⟩ : ∃ T, T = tagL K l := ⟨_, rfl⟩
      have HT := Lib.hid hT
      have TL : Hid (T.length = 16) := Lib.hid (by rw [hT]; exact tagL_len _ _)
      have D10 := Lib.hid (Dg.of_own ho10)
      have F10 := Lib.hid hd10
      have V10 : Hid (T = leB 16 (dgval r10)) := Lib.hid (by rw [hT, hv10, I.out.val, digitsL_val, HJN.out, ← HL.out]; rfl)
      have X10 := Lib.hid (Xr.out.bl (Below.tr B9.out hb10))
      clear ho10 hb10 hd10 hv10 hn10 D9 B9 I Xr hT
      have z10 : Hid (w.heap.size ≤ w10.heap.size) := Lib.hid X10.out.bel.size
      go_wp2_with (
        (with_reducible refine lst_alloc_d 9 rfl 28 rfl iT _ HiT.out HzT.out ?_ ?_)
        (focus rfl)
        intro g9 w11 Hg Hh hb
        have G11 : Hid (ByB w11 28 g9 16 (tagK T 0)) := by rw [show tagK T 0 = List.replicate 16 0 from rfl]; exact ByB.of_block Hh.out rfl (by simp) (by decide)
        have D11 : Hid (Dg w11 (fun k => k < g9) A10 n10 c10 r10) := Lib.hid (by rw [Hg.out.1]; exact (D10.out.mono (fun _ h => h.2)).belF hb)
        have E11 : Hid (g4 < g9) := Lib.hid (by rw [Hg.out.1]; exact X10.out.lt (by simp : (g4, Obj.cells (bs (List.replicate 16 0)).toArray 28 (0, 0)) ∈ _))
        have E12 : Hid (w.heap.size ≤ g9) := Lib.hid (by rw [Hg.out.1]; exact z10.out)
        have E13 : Hid (w.heap.size < g9) := Lib.hid (by rw [Hg.out.1]; exact X10.out.lt (by simp : (w.heap.size, Obj.cells (bs K).toArray 23 (0, 0)) ∈ _))
        have X11 := Lib.hid (X10.out.bl hb)
        clear Hg Hh hb X10 D10)
      go_loopw [10] (fun iv wr => ∃ k : Nat, k ≤ 16 ∧ iv = .int .i64 (k : Nat) ∧ Hid (ByB wr 28 g9 16 (tagK T k)) ∧ Hid (Has w wr [(g4, .cells (bs (List.replicate 16 0)).toArray 28 (0, 0)), (w.heap.size, .cells (bs K).toArray 23 (0, 0))]) ∧ Hid (Dg wr (fun k => k < g9) A10 n10 c10 r10)) (fun i _ => 16 - (intOf i).toNat)
      case atStart => exact ⟨0, Nat.zero_le _, rfl, G11, X11, D11⟩
      case round =>
        rename World => wi
        clear G11 X11 D11
        obtain ⟨k, hk, rfl, G, X, D⟩ := hrel
        by_cases hlt : k < 16
        · have hkI : (k : Int) < 16 := by omega
          have hk0 : (0 : Int) ≤ (k : Int) := by omega
          obtain ⟨m0, hm0⟩ : ∃ m : Nat, m = 4 * k := ⟨_, rfl⟩
          obtain ⟨m1, hm1⟩ : ∃ m : Nat, m = 4 * k + 1 := ⟨_, rfl⟩
          obtain ⟨m2, hm2⟩ : ∃ m : Nat, m = 4 * k + 2 := ⟨_, rfl⟩
          obtain ⟨m3, hm3⟩ : ∃ m : Nat, m = 4 * k + 3 := ⟨_, rfl⟩
          have i0 : (4 : Int) * (k : Int) = (m0 : Int) := by omega
          have i1' : (m0 : Int) + 1 = (m1 : Int) := by omega
          have i2 : (m0 : Int) + 2 = (m2 : Int) := by omega
          have i3 : (m0 : Int) + 3 = (m3 : Int) := by omega
          have hm0b : m0 ≤ 100 := by omega
          obtain ⟨d0, hd0⟩ : ∃ d, d = r10.getD m0 0 := ⟨_, rfl⟩
          obtain ⟨d1, hd1⟩ : ∃ d, d = r10.getD m1 0 := ⟨_, rfl⟩
          obtain ⟨d2, hd2⟩ : ∃ d, d = r10.getD m2 0 := ⟨_, rfl⟩
          obtain ⟨d3, hd3⟩ : ∃ d, d = r10.getD m3 0 := ⟨_, rfl⟩
          have hB := byte_digits F10.out k
          rw [← hm1, ← hm2, ← hm3, ← hm0, ← hd0, ← hd1, ← hd2, ← hd3] at hB
          have b0 : d0 ≤ 3 := by rw [hd0]; exact getD_leD F10.out.le _
          have b1 : d1 ≤ 3 := by rw [hd1]; exact getD_leD F10.out.le _
          have b2 : d2 ≤ 3 := by rw [hd2]; exact getD_leD F10.out.le _
          have b3 : d3 ≤ 3 := by rw [hd3]; exact getD_leD F10.out.le _
          obtain ⟨x, hx⟩ : ∃ x, x = T[k]'(by rw [TL.out]; exact hlt) := ⟨_, rfl⟩
          have hxT : x.toNat = d0 + 4 * d1 + 16 * d2 + 64 * d3 := by
            rw [hB, hx]
            have hg : T[k]'(by rw [TL.out]; exact hlt) = UInt8.ofNat (dgval r10 / 256 ^ k) := by
              have e := V10.out
              have : T[k]? = (leB 16 (dgval r10))[k]? := by rw [← e]
              rw [List.getElem?_eq_getElem (by rw [TL.out]; exact hlt), List.getElem?_eq_getElem (by rw [leB_len]; exact hlt)] at this
              injection this with this
              rw [this]; simp [leB]
            rw [hg]; simp
          obtain ⟨s1, hs1⟩ : ∃ s : Nat, s = 4 * d1 := ⟨_, rfl⟩
          obtain ⟨s2, hs2⟩ : ∃ s : Nat, s = d0 + s1 := ⟨_, rfl⟩
          obtain ⟨s3, hs3⟩ : ∃ s : Nat, s = 16 * d2 := ⟨_, rfl⟩
          obtain ⟨s4, hs4⟩ : ∃ s : Nat, s = s2 + s3 := ⟨_, rfl⟩
          obtain ⟨s5, hs5⟩ : ∃ s : Nat, s = 64 * d3 := ⟨_, rfl⟩
          have e1 : (4 : Int) * (d1 : Int) = (s1 : Int) := by omega
          have e2 : (d0 : Int) + (s1 : Int) = (s2 : Int) := by omega
          have e3 : (16 : Int) * (d2 : Int) = (s3 : Int) := by omega
          have e4 : (s2 : Int) + (s3 : Int) = (s4 : Int) := by omega
          have e5 : (64 : Int) * (d3 : Int) = (s5 : Int) := by omega
          have e6 : (s4 : Int) + (s5 : Int) = (x.toNat : Int) := by omega
          have c1' : s1 ≤ 12 := by omega
          have c2' : s2 ≤ 15 := by omega
          have c3' : s3 ≤ 48 := by omega
          have c4' : s4 ≤ 63 := by omega
          have c5' : s5 ≤ 192 := by omega
          have hxw : IntKind.u8.wrap (x.toNat : Int) = (x.toNat : Int) := by rw [IntKind.wrap_u8]; have := x.toNat_lt; omega
          have DX0 := digit_any D.out m0; have DX1 := digit_any D.out m1; have DX2 := digit_any D.out m2; have DX3 := digit_any D.out m3
          rw [← hd0] at DX0; rw [← hd1] at DX1; rw [← hd2] at DX2; rw [← hd3] at DX3
          have HX := Lib.hid hx; have HXT := Lib.hid hxT
          have hcell := G.out.cell (i := k) (by rw [tagK_len TL.out (by omega)]; exact hlt)
          have hz := World.ownsRow.frozenAt G.out k
          clear hm0 hm1 hm2 hm3 hd0 hd1 hd2 hd3 hB hx hxT hs1 hs2 hs3 hs4 hs5
          go_wp2_with fail
          refine DX0.mono ?_
          rintro e w' ⟨rfl, rfl⟩
          go_wp2_with fail
          refine DX1.mono ?_
          rintro e w' ⟨rfl, rfl⟩
          go_wp2_with fail
          refine DX2.mono ?_
          rintro e w' ⟨rfl, rfl⟩
          go_wp2_with fail
          refine DX3.mono ?_
          rintro e w' ⟨rfl, rfl⟩
          go_wp2_with fail
          have hf : Fr (fun i => i = g9) wi (wi.setCell ⟨g9, k, none⟩ (.int .u8 (x.toNat : Int))) := (Fr.refl (fun i => i = g9) wi).setCell (p := ⟨g9, k, none⟩) (.inl rfl) _
          have G' : Hid (ByB (wi.setCell ⟨g9, k, none⟩ (.int .u8 (x.toNat : Int))) 28 g9 16 (tagK T (k + 1))) := by
            have h1 := G.out.set k x
            rw [HX.out, tagK_set TL.out hlt, ← HX.out] at h1
            exact h1
          have X' := Lib.hid (X.out.fr hf (by intro p hp e; simp only [List.mem_cons, List.not_mem_nil, or_false] at hp; have := E11.out; have := E13.out; rcases hp with rfl | rfl <;> simp only at e <;> omega) (fun k hk => by rw [hk]; exact E12.out))
          have D' := Lib.hid (D.out.fr hf (fun j hj => ⟨Nat.lt_trans hj (Array.getElem?_eq_some_iff.1 (ByB.heap G.out)).1, fun e => by omega⟩))
          go_roundw
          case rel => exact ⟨k + 1, by omega, by go_num, G', X', D'⟩
          case measure => simp [intOf]; omega
        · have hkI : ¬ (k : Int) < 16 := by omega
          have hk16 : k = 16 := by omega
          have GT : Hid (ByB wi 28 g9 16 T) := by
            have := G.out
            rw [hk16, show tagK T 16 = T by unfold tagK; rw [List.take_of_length_le (by rw [TL.out]; omega)]; simp] at this
            exact this
          have hro : Hid (wi.rangeAt g9 0 (bs T)) := GT.out.range
          have uT := Lib.hid Try.underlying28
          have iT2 : Hid ((Try.prog.info? 28).map (·.size) = some (bs T).length) := by rw [bs_length, TL.out]; exact Try.sizeTag
          have hP : Hid (wi.heap[g4]? = some (.cells (bs (List.replicate 16 0)).toArray 28 (0, 0))) := X.out.get (by simp)
          have Xb := Lib.hid X.out.bel
          clear G X D hk16
          go_wp2_with (first
            | ((with_reducible refine lst_load_mid 28 (.tmp 9) rfl g9 0 rfl (bs T) _ hro.out uT.out rfl iT2.out ?_ ?_)
               (focus rfl))
            | ((with_reducible refine lst_store_abs 28 (.tmp 4) (.tmp 76) rfl g4 28 (bs (List.replicate 16 0)).toArray (bs T).toArray rfl rfl hP.out (by simpa using iT2.out) (by simp [bs_length, TL.out]) (by simp; exact bs_oneCell _) ?_ ?_)
               (focus rfl)
               intro w13 Hh13 hg13
               have P13 := Hh13
               have B13 := Lib.hid hg13
               clear hg13))
          rw [← HT.out]
          refine bodyPost_ret (v := .agg (bs T).toArray) ?_ rfl ⟨rfl, ?_⟩
          · exact results_cell Try.results11 rfl (run_loadVar_mid w13 g4 0 28 (bs T) _ (range_block P13.out) uT.out rfl iT2.out)
          · exact Xb.out.grown B13.out Xb.out.size (fun j hj => by injection hj with hj; have := E4.out; omega)
end Go.Proofs.Ytkikdhjckjmolaa
