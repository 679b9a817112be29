/- Poly: Sum. -/
import Derived.Test.YtkikdhjckjmolaaPo11
namespace Go.Proofs.Ytkikdhjckjmolaa
open Go.RowKit
attribute [local go_sem] yld yldUpon_value

theorem Try.infoTag : (Try.prog.info? 28).map (fun i => (i.zero, i.size, i.bytes)) = some (some (.agg (bs (List.replicate 16 0)).toArray), 16, 16) := by kernel_rfl
theorem Try.sizeTag : (Try.prog.info? 28).map (·.size) = some 16 := by kernel_rfl
theorem Try.sizeKey : (Try.prog.info? 23).map (·.size) = some 32 := by kernel_rfl

/-- what Sum holds -/
structure SumI (w wr : World) (g2 g4 g5 g6 : Nat) (K : List UInt8) (r : List Nat) (a : List Nat) : Prop where
  key : wr.heap[g2]? = some (.cells (bs K).toArray 23 (0, 0))
  res : wr.heap[g4]? = some (.cells (bs (List.replicate 16 0)).toArray 28 (0, 0))
  r : Num wr g5 r
  a : Num wr g6 a
  ord : w.heap.size ≤ g2 ∧ g2 < g4 ∧ g4 < g5 ∧ g5 < g6
  bel : Below w.heap.size w wr
theorem SumI.below {w wr wx : World} {g2 g4 g5 g6 : Nat} {K : List UInt8} {r a : List Nat} (h : SumI w wr g2 g4 g5 g6 K r a) (hb : Below wr.heap.size wr wx) : SumI w wx g2 g4 g5 g6 K r a :=
  ⟨heap_bel h.key hb, heap_bel h.res hb, h.r.bel hb, h.a.bel hb, h.ord, Below.tr h.bel hb⟩
theorem SumI.acc {w wr wx : World} {g2 g4 g5 g6 : Nat} {K : List UInt8} {r a a' : List Nat} (h : SumI w wr g2 g4 g5 g6 K r a) (hf : Fr (fun j => j = g6) wr wx) (hn : Num wx g6 a') : SumI w wx g2 g4 g5 g6 K r a' := by
  have ho := h.ord
  refine ⟨?_, ?_, h.r.fr hf (by omega), hn, h.ord, ?_⟩
  · exact (hf.block g2 (Array.getElem?_eq_some_iff.1 h.key).1 (by omega)).trans h.key
  · exact (hf.block g4 (Array.getElem?_eq_some_iff.1 h.res).1 (by omega)).trans h.res
  · exact ((Fr.of_below h.bel).trans hf (fun i _ h => h)).to_below (fun i hi => by omega)

theorem Sl.via {w wr wx : World} {F : Nat → Prop} {A : Option Addr} {n c : Nat} {l : List UInt8} (h : Sl wr F A n c l) (h1 : Below w.heap.size w wr) (h2 : Below w.heap.size w wx) (hF : ∀ k, F k → k < w.heap.size) : Sl wx F A n c l :=
  ⟨h.len, h.cap, h.nil, h.foot, h.rd.of_eq fun ad he hne => by rw [h2.block _ (hF _ (h.foot ad he hne)), h1.block _ (hF _ (h.foot ad he hne))]⟩
set_option maxRecDepth 100000 in
set_option maxHeartbeats 8000000 in
theorem Sum_any {w : World} {F : Nat → Prop} {A : Option Addr} {n c : Nat} {l K : List UInt8} (h : Sl w F A n c l) (hF : ∀ k, F k → k < w.heap.size) (hn : n ≤ 1000000000) (hK : K.length = 32) :
    Calls Try.prog 10 #[.agg (bs K).toArray, .slice A n c] w fun e w' => e = .returned (.agg (bs (tagL K l)).toArray) ∧ Below w.heap.size w w' := by
  have H := Lib.hid h; have HF := Lib.hid hF; have Hn := Lib.hid hn; have HK := Lib.hid hK
  have HL := Lib.hid h.len
  clear h hF hn hK
  obtain ⟨iN, hiN, zN, _, _⟩ := info_parts Try.infoNum
  have HiN := Lib.hid hiN; have HzN := Lib.hid zN
  obtain ⟨iT, hiT, zT, _, _⟩ := info_parts Try.infoTag
  have HiT := Lib.hid hiT; have HzT := Lib.hid zT
  clear hiN zN hiT zT
  obtain ⟨iB, hiB, zB, sB, bB⟩ := info_parts Try.infoB
  have HiB := Lib.hid hiB; have hzB := Lib.hid (And.intro zB (And.intro sB bB))
  clear hiB zB sB bB
  have uN := Lib.hid Try.underlying41
  have uK := Lib.hid Try.underlying23
  have uT := Lib.hid Try.underlying28
  have iK : Hid ((Try.prog.info? 23).map (·.size) = some (bs K).length) := by rw [bs_length, HK.out]; exact Try.sizeKey
  obtain ⟨R, hR⟩ : ∃ R, R = limbsN (leN (clampL K)) := ⟨_, rfl⟩
  have hRl : Hid (R.length = 5) := by rw [hR]; exact limbsN_len _
  have HR := Lib.hid hR
  have iR : Hid ((Try.prog.info? 41).map (·.size) = some (nl R).length) := by rw [nl_length, hRl.out]; exact Try.sizeNum
  clear hR
  have hk0 : Hid ((w.alloc (.cells (bs K).toArray 23)).heap[w.heap.size]? = some (.cells (bs K).toArray 23 (0, 0))) := heap_alloc_new w _
  have B1 : Hid (Below w.heap.size w (w.alloc (.cells (bs K).toArray 23))) := Below.al _ _
  go_enter Try.func10, Try.ntmps10
  go_wp2_with (first
    | ((with_reducible refine lst_alloc_d 4 rfl 28 rfl iT _ HiT.out HzT.out ?_ ?_)
       (focus rfl)
       intro g4 w2 Hg4 Hh4 hb2
       have G4 : Hid (w2.heap[g4]? = some (.cells (bs (List.replicate 16 0)).toArray 28 (0, 0))) := Hh4
       have G2 := Lib.hid (heap_bel hk0.out hb2)
       have B2 := Lib.hid (Below.tr B1.out hb2)
       have E4 : Hid (w.heap.size < g4) := by have := Hg4.out.1; rw [World.size_alloc] at this; show _ < _; omega
       have hr2 : Hid (w2.rangeAt w.heap.size 0 (bs K)) := range_block G2.out
       clear Hg4 Hh4 hb2 hk0 B1)
    | ((with_reducible refine lst_load_mid 23 (.tmp 2) rfl w.heap.size 0 rfl (bs K) _ hr2.out uK.out rfl iK.out ?_ ?_)
       (focus rfl)))
  obtain ⟨g2, hg2⟩ : ∃ g2, g2 = w.heap.size := ⟨_, rfl⟩
  rw [← hg2] at G2 E4 ⊢
  have Hg2 := Lib.hid hg2
  clear hg2 hr2
  refine (clamp_any HK.out).mono ?_
  rintro e w3 ⟨rfl, hb3⟩
  rw [← HR.out]
  have G23 := Lib.hid (heap_bel G2.out hb3); have G43 := Lib.hid (heap_bel G4.out hb3); have B3 := Lib.hid (Below.tr B2.out hb3)
  have E43 : Hid (g4 < w3.heap.size) := (Array.getElem?_eq_some_iff.1 G43.out).1
  clear hb3 G2 G4 B2
  go_wp2_with (first
    | ((with_reducible refine lst_alloc_d 5 rfl 41 rfl iN _ HiN.out HzN.out ?_ ?_)
       (focus rfl)
       intro g5 w4 Hg5 Hh5 hb4
       have G5 : Hid (w4.heap[g5]? = some (.cells (nl (List.replicate 5 0)).toArray 41 (0, 0))) := Hh5
       have G24 := Lib.hid (heap_bel G23.out hb4); have G44 := Lib.hid (heap_bel G43.out hb4); have B4 := Lib.hid (Below.tr B3.out hb4)
       have E5 : Hid (g5 = w3.heap.size) := Hg5.out.1
       clear Hg5 Hh5 hb4 G23 G43 B3)
    | ((with_reducible refine lst_store_abs 41 (.tmp 5) (.tmp 15) rfl g5 41 (nl (List.replicate 5 0)).toArray (nl R).toArray rfl rfl G5.out (by simpa using iR.out) (by simp [nl_length, hRl.out]) (by simp; exact nl_oneCell _) ?_ ?_)
       (focus rfl)
       intro w5 Hh5 hg5
       have R5 : Hid (Num w5 g5 R) := ⟨Hh5.out, hRl.out⟩
       have hne2 : Hid (g2 ≠ g5 ∧ g4 ≠ g5) := by have := E5.out; have := E43.out; have := E4.out; show _ ∧ _; omega
       have G25 := Lib.hid ((hg5.block g2 (Array.getElem?_eq_some_iff.1 G24.out).1 (by have := hne2.out.1; simp; omega)).trans G24.out)
       have G45 := Lib.hid ((hg5.block g4 (Array.getElem?_eq_some_iff.1 G44.out).1 (by have := hne2.out.2; simp; omega)).trans G44.out)
       have B5 := Lib.hid (B4.out.grown hg5 B4.out.size (fun j hj => by injection hj with hj; have := E5.out; have := E43.out; have := E4.out; have := Hg2.out; omega))
       clear Hh5 hg5 G24 G44 B4)
    | ((with_reducible refine lst_alloc_d 6 rfl 41 rfl iN _ HiN.out HzN.out ?_ ?_)
       (focus rfl)
       intro g6 w6 Hg6 Hh6 hb6))
  have I0 : Hid (SumI w w6 g2 g4 g5 g6 K R (List.replicate 5 0)) := by
    refine ⟨heap_bel G25.out hb6, heap_bel G45.out hb6, R5.out.bel hb6, ⟨Hh6.out, rfl⟩, ?_, Below.tr B5.out hb6⟩
    have := Hg6.out.1; have := R5.out.lt; have := E5.out; have := E43.out; have := E4.out; have := Hg2.out
    omega
  clear Hg6 Hh6 hb6 G25 G45 R5 B5 G5 E43 E5 hne2 E4 HiN HzN
  simp only [Act.put, List.setIfInBounds_toArray, List.set_cons_succ, List.set_cons_zero]
  go_loopw [1] (fun b wr => ∃ (k : Nat) (A' : Option Addr) (m c' : Nat) (a : List Nat), m + 16 * k < n + 16 ∧ m = (l.drop (16 * k)).length ∧ b = .slice A' m c' ∧ Hid (Sl wr F A' m c' (l.drop (16 * k)) ∧ SumI w wr g2 g4 g5 g6 K R a ∧ Acc a (accN (leN (clampL K)) l k))) (fun b _ => match b with | .slice _ m _ => m | _ => 0)
  case atStart =>
    refine ⟨0, A, n, c, _, by omega, by rw [Nat.mul_zero, List.drop_zero, HL.out], rfl, ?_, I0.out, Acc.zero _ rfl⟩
    exact H.out.belF I0.out.bel HF.out
  case round =>
    clear I0
    obtain ⟨k, A', m, c', a, hkm, hml, rfl, HI⟩ := hrel
    by_cases hlt : 0 < m
    · have hltI : (0 : Int) < (m : Int) := by omega
      have hHI := HI.out.1
      obtain ⟨ad, rfl⟩ : ∃ ad, A' = some ad := by
        cases A' with
        | some ad => exact ⟨ad, rfl⟩
        | none => have := hHI.zero rfl; omega
      have hcap := hHI.cap
      clear hHI
      obtain ⟨t, ht⟩ : ∃ t, t = min 16 m := ⟨_, rfl⟩
      have hmin : (if (m : Int) < 16 then (m : Int) else 16) = (t : Int) := by split <;> omega
      have htm : t ≤ m := by omega
      have htI : (t : Int) ≤ (m : Int) := by omega
      have htc : (t : Int) ≤ (c' : Int) := by omega
      have ht0 : (0 : Int) ≤ (t : Int) := by omega
      have hlb : (l.drop (16 * k)).length = m := hml.symm
      have Hdt : Hid ((l.drop (16 * k)).drop t = l.drop (16 * (k + 1))) := by
        show _ = _
        rw [List.drop_drop]
        rcases Nat.lt_or_ge m 16 with h | h
        · rw [List.length_drop] at hlb
          rw [List.drop_of_length_le (by omega), List.drop_of_length_le (by omega)]
        · congr 1; omega
      have Htt : Hid ((l.drop (16 * k)).take t = (l.drop (16 * k)).take 16 ∧ ((l.drop (16 * k)).take t).length = t) := by
        refine ⟨?_, by rw [List.length_take, hlb]; omega⟩
        rcases Nat.lt_or_ge m 16 with h | h
        · rw [List.take_of_length_le (by omega), List.take_of_length_le (by omega)]
        · congr 1; omega
      have ht1 : 0 < t := by omega
      have ht16 : Hid (t ≤ 16) := by show _ ≤ _; omega
      have Hnx : Hid ((m - t) + 16 * (k + 1) < n + 16 ∧ m - t = (l.drop (16 * (k + 1))).length) := by
        rw [← Hdt.out, List.length_drop, hlb]
        refine ⟨?_, rfl⟩
        have e := HL.out
        rw [List.length_drop] at hlb
        omega
      have HS := Lib.hid HI.out.1
      have Hbk : Hid (blkN l k = leN ((l.drop (16 * k)).take t ++ [1])) := by show _ = _; rw [Htt.out.1]; rfl
      obtain ⟨P, hP⟩ : ∃ P, P = (l.drop (16 * k)).take t := ⟨_, rfl⟩
      rw [← hP] at Htt Hbk
      have HPe := Lib.hid hP
      have HPl : Hid (P.length = t) := Htt.out.2
      have Hml := Lib.hid hml
      clear ht hkm hlt hml hlb hP Htt
      have hsz := HI.out.2.1.bel.size
      have HCP : Hid (∀ b, some ad = some b → ∀ j u, (bs P)[j]? = some u → (wr.alloc (.cells #[.int .u8 1] 5)).cell? (b.add j) = some u) := by
        intro b e j u hu
        injection e with e; subst e
        have hS1 := HI.out.1.belF (Below.al wr (.cells #[.int .u8 1] 5)) (fun k hk => Nat.lt_of_lt_of_le (HF.out k hk) hsz)
        have hrd : Rd (wr.alloc (.cells #[.int .u8 1] 5)) (some ad) (bs P) := by
          have := hS1.rd
          rw [← List.take_append_drop t (l.drop (16 * k)), bs_append, ← HPe.out] at this
          exact Rd.prefix_ this
        obtain ⟨ad', e, hc⟩ := hrd j u hu
        injection e with e; subst e; exact hc
      have Hc1 : Hid (∀ j u, ([.int .u8 1] : List Value)[j]? = some u → (wr.alloc (.cells #[.int .u8 1] 5)).cell? ((⟨wr.heap.size, 0, none⟩ : Addr).add j) = some u) := by
        intro j u hu
        obtain rfl : j = 0 := by
          rcases j with _ | j
          · rfl
          · simp at hu
        simp at hu; subst hu
        rw [addr_add_zero]
        rw [cell_of_row _ wr.heap.size 0 _ _ _ (heap_alloc_new wr _)]; rfl
      clear hsz
      by_cases hct : c' = t
      · have hmt : m = t := by omega
        have HS2 : Hid (Sl wr F (some ad) 0 0 (l.drop (16 * (k + 1)))) := by
          have := HI.out.1.drop_ (m := t) (A' := some ad) (by omega) (.inl ⟨rfl, by omega⟩)
          rw [Hdt.out, show m - t = 0 by omega, show c' - t = 0 by omega] at this
          exact this
        have Hn2 : Hid (0 + 16 * (k + 1) < n + 16 ∧ 0 = (l.drop (16 * (k + 1))).length) := by
          have := Hnx.out
          rw [show m - t = 0 by omega] at this
          exact this
        subst hmt
        subst hct
        go_wp2_with (
          at_builtin
          refine wpList_append_grows _ rfl (.tmp 29) (.tmp 30) 24 rfl 5 iB (.int .u8 0) 1 1 Try.underlying24 HiB.out hzB.out.1 hzB.out.2.1 hzB.out.2.2 rfl (by decide) (some ad) _ _ (bs P) rfl (fun e => by cases e) (by rw [bs_length, HPl.out, Nat.mul_one]) HCP.out ⟨wr.heap.size, 0, none⟩ 1 1 [.int .u8 1] rfl rfl Hc1.out (by intro u hu; simp at hu; subst hu; rfl) (by omega) (by have := ht16.out; simp only [maxLen]; omega) (by have := ht16.out; omega) ?_
          intro v7 w7 hown7 hg7
          obtain ⟨g7, c7, rfl, hge7, hlt7⟩ := World.ownsRow.form hown7 (by omega)
          have HO7 := Lib.hid hown7
          have B7 : Hid (Below wr.heap.size wr w7) := ((Below.al wr _).grown hg7 (Nat.le_of_lt (by rw [World.size_alloc]; omega)) (fun j hj => by cases hj))
          clear hown7 hg7 hge7 hlt7)
        have I7 := Lib.hid (HI.out.2.1.below B7.out)
        have A7 := Lib.hid HI.out.2.2
        have S7 := Lib.hid (Sl.of_own (l := P ++ [1]) (by have := HO7.out; rw [show bs P ++ [Value.int .u8 1] = bs (P ++ [1]) by rw [bs_append]; rfl] at this; exact this))
        clear HCP Hc1
        refine (limbs_any S7.out (fun k hk => hk.2.1) (by have := ht16.out; omega)).mono ?_
        rintro e w8 ⟨rfl, hb8⟩
        rw [← Hbk.out]
        have I8 := Lib.hid (I7.out.below hb8)
        have B8 := Lib.hid (Below.tr B7.out hb8)
        clear hb8 I7 B7 S7 HO7
        go_wp2_with fail
        refine (add_any I8.out.a (limbsN_len _) (A7.out.le.mono (by decide)) ((limbsN_le _).mono (by decide))).mono ?_
        rintro e w9 ⟨rfl, hn9, hf9⟩
        have I9 := Lib.hid (I8.out.acc hf9 hn9)
        clear hn9 hf9 I8
        have hr9 : Hid (w9.rangeAt g5 0 (nl R)) := I9.out.r.range
        go_wp2_with (
          (with_reducible refine lst_load_mid 41 (.tmp 5) rfl g5 0 rfl (nl R) _ hr9.out uN.out rfl iR.out ?_ ?_)
          (focus rfl))
        refine (times_any I9.out.a hRl.out (A7.out.add_le _) (by rw [HR.out]; exact limbsN_le _)).mono ?_
        rintro e w10 ⟨rfl, hn10, hf10⟩
        have I10 := Lib.hid (I9.out.acc hf10 hn10)
        clear hn10 hf10 I9 hr9
        have A10 : Hid (Acc (settleL (mulL (addL a (limbsN (blkN l k))) R)) (accN (leN (clampL K)) l (k + 1))) := by
          rw [HR.out]; exact A7.out.step (blkN_lt l k) (clampL_lt K)
        have S10 := Lib.hid (HS2.out.via HI.out.2.1.bel I10.out.bel HF.out)
        go_wp2_with fail
        go_roundw
        case rel => exact ⟨k + 1, _, _, _, _, Hn2.out.1, Hn2.out.2, rfl, S10.out, I10.out, A10.out⟩
        case measure => simp; omega
      · have HS2 : Hid (Sl wr F (some (ad.add t)) (m - t) (c' - t) (l.drop (16 * (k + 1)))) := by
          have := HI.out.1.drop_ (m := t) (A' := some (ad.add t)) (by omega) (.inr rfl)
          rw [Hdt.out] at this
          exact this
        have Hn2 := Hnx
        have hct2 : ¬ c' ≤ t := by omega
        go_wp2_with (
          at_builtin
          refine wpList_append_grows _ rfl (.tmp 29) (.tmp 30) 24 rfl 5 iB (.int .u8 0) 1 1 Try.underlying24 HiB.out hzB.out.1 hzB.out.2.1 hzB.out.2.2 rfl (by decide) (some ad) _ _ (bs P) rfl (fun e => by cases e) (by rw [bs_length, HPl.out, Nat.mul_one]) HCP.out ⟨wr.heap.size, 0, none⟩ 1 1 [.int .u8 1] rfl rfl Hc1.out (by intro u hu; simp at hu; subst hu; rfl) (by omega) (by have := ht16.out; simp only [maxLen]; omega) (by have := ht16.out; omega) ?_
          intro v7 w7 hown7 hg7
          obtain ⟨g7, c7, rfl, hge7, hlt7⟩ := World.ownsRow.form hown7 (by omega)
          have HO7 := Lib.hid hown7
          have B7 : Hid (Below wr.heap.size wr w7) := ((Below.al wr _).grown hg7 (Nat.le_of_lt (by rw [World.size_alloc]; omega)) (fun j hj => by cases hj))
          clear hown7 hg7 hge7 hlt7)
        have I7 := Lib.hid (HI.out.2.1.below B7.out)
        have A7 := Lib.hid HI.out.2.2
        have S7 := Lib.hid (Sl.of_own (l := P ++ [1]) (by have := HO7.out; rw [show bs P ++ [Value.int .u8 1] = bs (P ++ [1]) by rw [bs_append]; rfl] at this; exact this))
        clear HCP Hc1
        refine (limbs_any S7.out (fun k hk => hk.2.1) (by have := ht16.out; omega)).mono ?_
        rintro e w8 ⟨rfl, hb8⟩
        rw [← Hbk.out]
        have I8 := Lib.hid (I7.out.below hb8)
        have B8 := Lib.hid (Below.tr B7.out hb8)
        clear hb8 I7 B7 S7 HO7
        go_wp2_with fail
        refine (add_any I8.out.a (limbsN_len _) (A7.out.le.mono (by decide)) ((limbsN_le _).mono (by decide))).mono ?_
        rintro e w9 ⟨rfl, hn9, hf9⟩
        have I9 := Lib.hid (I8.out.acc hf9 hn9)
        clear hn9 hf9 I8
        have hr9 : Hid (w9.rangeAt g5 0 (nl R)) := I9.out.r.range
        go_wp2_with (
          (with_reducible refine lst_load_mid 41 (.tmp 5) rfl g5 0 rfl (nl R) _ hr9.out uN.out rfl iR.out ?_ ?_)
          (focus rfl))
        refine (times_any I9.out.a hRl.out (A7.out.add_le _) (by rw [HR.out]; exact limbsN_le _)).mono ?_
        rintro e w10 ⟨rfl, hn10, hf10⟩
        have I10 := Lib.hid (I9.out.acc hf10 hn10)
        clear hn10 hf10 I9 hr9
        have A10 : Hid (Acc (settleL (mulL (addL a (limbsN (blkN l k))) R)) (accN (leN (clampL K)) l (k + 1))) := by
          rw [HR.out]; exact A7.out.step (blkN_lt l k) (clampL_lt K)
        have S10 := Lib.hid (HS2.out.via HI.out.2.1.bel I10.out.bel HF.out)
        go_wp2_with fail
        go_roundw
        case rel => exact ⟨k + 1, _, _, _, _, Hn2.out.1, Hn2.out.2, rfl, S10.out, I10.out, A10.out⟩
        case measure => simp; omega
    · have hm0 : m = 0 := by omega
      subst hm0
      have hltI : decide ((0 : Int) < 0) = false := rfl
      have hkk : k = (l.length + 15) / 16 := by
        rw [List.length_drop] at hml
        have := HL.out; omega
      have A0 := Lib.hid HI.out.2.2
      have I0 := Lib.hid HI.out.2.1
      have Hkk := Lib.hid hkk
      obtain ⟨V, hV⟩ : ∃ V, V = accN (leN (clampL K)) l k := ⟨_, rfl⟩
      have hVp : V < pP := by rw [hV]; exact accN_lt _ _ _
      have hTag : Hid (tagL K l = leB 16 (V + leN (K.drop 16))) := by show _ = _; rw [hV, hkk]; rfl
      rw [← hV] at A0
      obtain ⟨b1, b2, b3, v1, v2, v3⟩ := A0.out.least
      rw [Nat.mod_eq_of_lt hVp] at v1
      have L1 := Lib.hid b1; have L2 := Lib.hid b2; have L3 := Lib.hid b3; have L4 := Lib.hid v1; have L5 := Lib.hid v2
      clear b1 b2 b3 v1 v2 v3 hV hVp hkk A0 HI hml hkm hlt
      go_wp2_with fail
      refine (least_any I0.out.a L1.out L2.out L3.out).mono ?_
      rintro e w7 ⟨rfl, hn7, hf7⟩
      have I7 := Lib.hid (I0.out.acc hf7 hn7)
      clear hn7 hf7 I0
      go_wp2_with fail
      refine (pwords_any I7.out.a L5.out).mono ?_
      rintro e w8 ⟨rfl, hb8⟩
      have I8 := Lib.hid (I7.out.below hb8)
      clear hb8 I7
      rw [L4.out]
      obtain ⟨S0, hS0⟩ : ∃ S0, S0 = leN ((K.drop 16).take 8) := ⟨_, rfl⟩
      obtain ⟨S1, hS1⟩ : ∃ S1, S1 = leN ((K.drop 24).take 8) := ⟨_, rfl⟩
      obtain ⟨X, hX⟩ : ∃ X, X = V % 18446744073709551616 := ⟨_, rfl⟩
      obtain ⟨Y, hY⟩ : ∃ Y, Y = V / 18446744073709551616 % 18446744073709551616 := ⟨_, rfl⟩
      obtain ⟨x1, hx1⟩ : ∃ x, x = (X + S0 + 0) % 18446744073709551616 := ⟨_, rfl⟩
      obtain ⟨cy, hcy⟩ : ∃ x, x = (X + S0 + 0) / 18446744073709551616 := ⟨_, rfl⟩
      obtain ⟨y1, hy1⟩ : ∃ x, x = (Y + S1 + cy) % 18446744073709551616 := ⟨_, rfl⟩
      obtain ⟨cz, hcz⟩ : ∃ x, x = (Y + S1 + cy) / 18446744073709551616 := ⟨_, rfl⟩
      have hS0b : S0 < 18446744073709551616 := by
        have := leN_lt ((K.drop 16).take 8)
        rw [List.length_take, List.length_drop, HK.out] at this
        rw [hS0]; exact this
      have hS1b : S1 < 18446744073709551616 := by
        have := leN_lt ((K.drop 24).take 8)
        rw [List.length_take, List.length_drop, HK.out] at this
        rw [hS1]; exact this
      have hSS : leN (K.drop 16) = S0 + 18446744073709551616 * S1 := by
        have := leN_append ((K.drop 16).take 8) ((K.drop 16).drop 8)
        rw [List.take_append_drop, List.drop_drop, List.length_take, List.length_drop, HK.out] at this
        rw [this, hS0, hS1, List.take_of_length_le (l := K.drop 24) (by rw [List.length_drop, HK.out]; decide)]
        rfl
      have hcy1 : cy ≤ 1 := by omega
      have hxy : Hid (x1 = (V + leN (K.drop 16)) % 18446744073709551616 ∧ y1 = (V + leN (K.drop 16)) / 18446744073709551616 % 18446744073709551616) := by
        rw [hSS]; show _ ∧ _; omega
      have hadd1 : ∀ w, (callFunc 25 #[.int .u64 (X : Int), .int .u64 (S0 : Int), .int .u64 0]).run Try.prog w = .ok (.value (.tuple #[.int .u64 (x1 : Int), .int .u64 (cy : Int)])) w := fun w => by
        rw [hx1, hcy]; exact run_call_add64 w X S0 0 (by decide)
      have hadd2 : ∀ w, (callFunc 25 #[.int .u64 (Y : Int), .int .u64 (S1 : Int), .int .u64 (cy : Int)]).run Try.prog w = .ok (.value (.tuple #[.int .u64 (y1 : Int), .int .u64 (cz : Int)])) w := fun w => by
        rw [hy1, hcz]; exact run_call_add64 w Y S1 cy hcy1
      have HS0 := Lib.hid hS0; have HS1 := Lib.hid hS1
      rw [← hX, ← hY]
      clear hX hY hx1 hcy hy1 hcz hcy1 hS0b hS1b hSS hS0 hS1
      go_wp2_with fail
      have HB8 : Hid (ByB w8 23 g2 32 K) := ByB.of_block I8.out.key rfl HK.out (by decide)
      have hw1 : Hid (Sl w8 (fun j => j = g2) (some ⟨g2, 16, none⟩) 16 16 (K.drop 16)) := by
        have h := (Sl.of_block I8.out.key rfl 32 HK.out).drop_ (m := 16) (A' := some ⟨g2, 16, none⟩) (by omega) (.inr rfl)
        exact h
      have hw2 : Hid (Sl w8 (fun j => j = g2) (some ⟨g2, 24, none⟩) 8 8 (K.drop 24)) := by
        have h := (Sl.of_block I8.out.key rfl 32 HK.out).drop_ (m := 24) (A' := some ⟨g2, 24, none⟩) (by omega) (.inr rfl)
        exact h
      refine (pword_any hw1.out (by decide) (by decide)).mono ?_
      rintro e w9 ⟨rfl, rfl⟩
      rw [← HS0.out]
      go_wp2_with fail
      refine (pword_any hw2.out (by decide) (by decide)).mono ?_
      rintro e w10 ⟨rfl, rfl⟩
      rw [← HS1.out]
      clear hw1 hw2 HB8 L1 L2 L3 L4 L5
      generalize leastL (settleL (settleL a)) = aa at I8
      obtain ⟨T, hT⟩ : ∃ T, T = V + leN (K.drop 16) := ⟨_, rfl⟩
      rw [← hT] at hxy hTag
      clear hT
      go_wp2_with (
        (with_reducible refine lst_alloc_d 12 rfl 28 rfl iT _ HiT.out HzT.out ?_ ?_)
        (focus rfl)
        intro g12 w11 Hg12 Hh12 hb11
        have G12 : Hid (ByB w11 28 g12 16 (tgS (leB 16 T) 0)) := by rw [tgS_0]; exact ByB.of_block Hh12.out rfl (by simp) (by decide)
        have I11 := Lib.hid (I8.out.below hb11)
        have E12 : Hid (g4 < g12 ∧ w.heap.size ≤ g12) := by have := Hg12.out.1; have := (Array.getElem?_eq_some_iff.1 I8.out.res).1; have := I8.out.ord; show _ ∧ _; omega
        have P11 : Hid (w11.heap[g4]? = some (.cells (bs (List.replicate 16 0)).toArray 28 (0, 0))) := I11.out.res
        clear Hg12 Hh12 hb11)
      have HI0 : Hid (ByB w11 28 g12 16 (tgS (leB 16 T) 0) ∧ w11.heap[g4]? = some (.cells (bs (List.replicate 16 0)).toArray 28 (0, 0)) ∧ Below w.heap.size w w11) := ⟨G12.out, P11.out, I11.out.bel⟩
      have Hg4 : Hid (w.heap.size ≤ g4) := by have := I11.out.ord; show _ ≤ _; omega
      clear hadd1 hadd2 HiT HzT G12 P11 I11 I8
      go_loopw [56] (fun i wr => ∃ j : Nat, j ≤ 8 ∧ i = .int .i64 (j : Nat) ∧ Hid (ByB wr 28 g12 16 (tgS (leB 16 T) j) ∧ wr.heap[g4]? = some (.cells (bs (List.replicate 16 0)).toArray 28 (0, 0)) ∧ Below w.heap.size w wr)) (fun i _ => 8 - (intOf i).toNat)
      case atStart => exact ⟨0, Nat.zero_le _, rfl, HI0.out⟩
      case round =>
        rename World => wi
        clear HI0
        obtain ⟨j, hj, rfl, HI⟩ := hrel
        by_cases hlt : j < 8
        · have hjI : (j : Int) < 8 := by omega
          have hj0 : (0 : Int) ≤ (j : Int) := by omega
          obtain ⟨s, hs⟩ : ∃ s : Nat, (8 : Int) * (j : Int) = (s : Int) := ⟨8 * j, by omega⟩
          obtain ⟨q, hq⟩ : ∃ q : Nat, (8 : Int) + (j : Int) = (q : Int) := ⟨8 + j, by omega⟩
          have hs' : s = 8 * j := by omega
          have hq' : q = 8 + j := by omega
          have hsI : (s : Int) < 64 := by omega
          have hs0 : (0 : Int) ≤ (s : Int) := by omega
          have hqI : (q : Int) < 16 := by omega
          have hq0 : (0 : Int) ≤ (q : Int) := by omega
          have hws : IntKind.i64.wrap ((8 : Int) * (j : Int)) = (s : Int) := by rw [IntKind.wrap_i64]; omega
          have hwq : IntKind.i64.wrap ((8 : Int) + (j : Int)) = (q : Int) := by rw [IntKind.wrap_i64]; omega
          obtain ⟨bx, hbx⟩ : ∃ b, b = (leB 16 T).getD j 0 := ⟨_, rfl⟩
          obtain ⟨by', hby⟩ : ∃ b, b = (leB 16 T).getD (8 + j) 0 := ⟨_, rfl⟩
          have h1 : IntKind.u8.wrap ((x1 : Int) / 2 ^ s) = (bx.toNat : Int) := by rw [hbx, hs']; exact leB_lo T x1 j hlt hxy.out.1
          have h2 : IntKind.u8.wrap ((y1 : Int) / 2 ^ s) = (by'.toNat : Int) := by rw [hby, hs']; exact leB_hi T y1 j hlt hxy.out.2
          have hc1 := HI.out.1.cell (i := j) (by rw [tgS_len]; omega)
          have hc2 := HI.out.1.cell (i := q) (by rw [tgS_len]; omega)
          have hz1 := World.ownsRow.frozenAt HI.out.1 j
          have hz2 := World.ownsRow.frozenAt HI.out.1 q
          have Hbx := Lib.hid hbx; have Hby := Lib.hid hby; have Hq := Lib.hid hq'
          clear hbx hby hs' hq'
          go_wp2_with fail
          go_region
          have G1 := HI.out.1.set j bx
          have G2 := G1.set q by'
          have e := tgS_set (leB 16 T) j hlt
          rw [← Hbx.out, ← Hby.out, ← Hq.out] at e
          rw [e] at G2
          have hf : Fr (fun i => i = g12) wi ((wi.setCell ⟨g12, j, none⟩ (.int .u8 (bx.toNat : Int))).setCell ⟨g12, q, none⟩ (.int .u8 (by'.toNat : Int))).drew := (((Fr.refl (fun i => i = g12) wi).setCell (p := ⟨g12, j, none⟩) (.inl rfl) _).setCell (p := ⟨g12, q, none⟩) (.inl rfl) _).drewN 1
          have HX : Hid (ByB ((wi.setCell ⟨g12, j, none⟩ (.int .u8 (bx.toNat : Int))).setCell ⟨g12, q, none⟩ (.int .u8 (by'.toNat : Int))).drew 28 g12 16 (tgS (leB 16 T) (j + 1)) ∧ ((wi.setCell ⟨g12, j, none⟩ (.int .u8 (bx.toNat : Int))).setCell ⟨g12, q, none⟩ (.int .u8 (by'.toNat : Int))).drew.heap[g4]? = some (.cells (bs (List.replicate 16 0)).toArray 28 (0, 0)) ∧ Below w.heap.size w ((wi.setCell ⟨g12, j, none⟩ (.int .u8 (bx.toNat : Int))).setCell ⟨g12, q, none⟩ (.int .u8 (by'.toNat : Int))).drew) := by
            have he := E12.out
            refine ⟨G2, (hf.block g4 (Array.getElem?_eq_some_iff.1 HI.out.2.1).1 (by omega)).trans HI.out.2.1, ((Fr.of_below HI.out.2.2).trans hf (fun i _ h => h)).to_below (fun i hi => by omega)⟩
          clear G1 G2 e hf HI hc1 hc2 hz1 hz2
          generalize ((wi.setCell ⟨g12, j, none⟩ (.int .u8 (bx.toNat : Int))).setCell ⟨g12, q, none⟩ (.int .u8 (by'.toNat : Int))).drew = wj at HX ⊢
          go_wp2_with fail
          go_roundw
          case rel => exact ⟨j + 1, by omega, by go_num, HX.out⟩
          case measure => simp [intOf]; omega
        · have hjI : decide ((j : Int) < 8) = false := decide_eq_false (by omega)
          have hj8 : j = 8 := by omega
          subst hj8
          have hB : Hid (ByB wi 28 g12 16 (tagL K l)) := by
            have := HI.out.1
            rw [tgS_8 (leB_len _ _), ← hTag.out] at this; exact this
          have hro : Hid (wi.rangeAt g12 0 (bs (tagL K l))) := hB.out.range
          have iT2 : Hid ((Try.prog.info? 28).map (·.size) = some (bs (tagL K l)).length) := by rw [bs_length, tagL_len]; exact Try.sizeTag
          have hP : Hid (wi.heap[g4]? = some (.cells (bs (List.replicate 16 0)).toArray 28 (0, 0))) := HI.out.2.1
          go_wp2_with (first
            | ((with_reducible refine lst_load_mid 28 (.tmp 12) rfl g12 0 rfl (bs (tagL K l)) _ hro.out uT.out rfl iT2.out ?_ ?_)
               (focus rfl))
            | ((with_reducible refine lst_store_abs 28 (.tmp 4) (.tmp 75) rfl g4 28 (bs (List.replicate 16 0)).toArray (bs (tagL K l)).toArray rfl rfl hP.out (by simpa using iT2.out) (by simp [bs_length, tagL_len]) (by simp; exact bs_oneCell _) ?_ ?_)
               (focus rfl)
               intro w20 Hh20 hg20))
          refine bodyPost_ret (v := .agg (bs (tagL K l)).toArray) ?_ rfl ⟨rfl, ?_⟩
          · exact results_cell Try.results10 rfl (run_loadVar_mid w20 g4 0 28 (bs (tagL K l)) _ (range_block Hh20.out) uT.out rfl iT2.out)
          · exact HI.out.2.2.grown hg20 HI.out.2.2.size (fun j hj => by injection hj with hj; have := Hg4.out; omega)
end Go.Proofs.Ytkikdhjckjmolaa
