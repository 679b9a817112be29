/- PolyGoes' walk. -/
import Derived.Test.YtkikdhjckjmolaaPo21
namespace Go.Proofs.Ytkikdhjckjmolaa
open Go.RowKit
attribute [local go_sem] yld yldUpon_value

theorem xor_b8 (a b : UInt8) : bits .xor .u8 (a.toNat : Int) (b.toNat : Int) = ((a ^^^ b).toNat : Int) := by
  show IntKind.u8.wrap ((BitVec.ofInt 8 (a.toNat : Int) ^^^ BitVec.ofInt 8 (b.toNat : Int)).toNat : Int) = _
  have hx := a.toNat_lt; have hm := b.toNat_lt
  have e1 : (BitVec.ofInt 8 (a.toNat : Int)).toNat = a.toNat := by rw [BitVec.toNat_ofInt]; omega
  have e2 : (BitVec.ofInt 8 (b.toNat : Int)).toNat = b.toNat := by rw [BitVec.toNat_ofInt]; omega
  have hz := (a ^^^ b).toNat_lt
  rw [BitVec.toNat_xor, e1, e2, ← UInt8.toNat_xor]
  generalize (a ^^^ b).toNat = z at hz ⊢
  simp [IntKind.wrap, IntKind.signed, IntKind.bits]
  omega

/-- what PolyGoes holds -/
structure GoI (w wr : World) (g3 g4 g7 : Nat) (K t o : List UInt8) : Prop where
  k : wr.heap[g3]? = some (.cells (bs K).toArray 23 (0, 0))
  t : wr.heap[g4]? = some (.cells (bs t).toArray 28 (0, 0))
  o : ByB wr 23 g7 32 o
  ord : w.heap.size ≤ g3 ∧ g3 < g4 ∧ g4 < g7
  bel : Below w.heap.size w wr
theorem GoI.set {w wr : World} {g3 g4 g7 : Nat} {K t o : List UInt8} (h : GoI w wr g3 g4 g7 K t o) (i : Nat) (z : UInt8) : GoI w (wr.setCell ⟨g7, i, none⟩ (.int .u8 (z.toNat : Int))).drew g3 g4 g7 K t (o.set i z) := by
  have ho := h.ord
  have hf : Fr (fun j => j = g7) wr (wr.setCell ⟨g7, i, none⟩ (.int .u8 (z.toNat : Int))).drew := ((Fr.refl (fun j => j = g7) wr).setCell (p := ⟨g7, i, none⟩) (.inl rfl) _).drewN 1
  refine ⟨?_, ?_, h.o.set i z, h.ord, ?_⟩
  · exact (hf.block g3 (Array.getElem?_eq_some_iff.1 h.k).1 (by omega)).trans h.k
  · exact (hf.block g4 (Array.getElem?_eq_some_iff.1 h.t).1 (by omega)).trans h.t
  · exact ((Fr.of_below h.bel).trans hf (fun i _ h => h)).to_below (fun i hi => by omega)

set_option maxRecDepth 100000 in
set_option maxHeartbeats 8000000 in
theorem PolyGoes_any (w : World) (K : List UInt8) (hK : K.length = 32) (t : List UInt8) (ht : t.length = 16) (A : Option Addr) (n c : Nat) (l : List UInt8) (h : Sl w (Old w) A n c l) (_ : n ≤ 140737488351232) :
    Calls Try.prog 5 #[.agg (bs K).toArray, .agg (bs t).toArray, .slice A n c] w fun e w' => e = .returned (.bool true) ∧ Below w.heap.size w w' := by
  have HK := Lib.hid hK; have HT := Lib.hid ht; have H := Lib.hid h
  have HL := Lib.hid h.len
  clear hK ht h
  obtain ⟨iK, hiK, zK, _, _⟩ := info_parts Try.infoK
  have HiK := Lib.hid hiK; have HzK := Lib.hid zK
  clear hiK zK
  have uT := Lib.hid Try.underlying28
  have uK := Lib.hid Try.underlying23
  have iKK : Hid ((Try.prog.info? 23).map (·.size) = some (bs K).length) := by rw [bs_length, HK.out]; exact Try.sizeKey
  have hk0 : Hid ((w.alloc (.cells (bs K).toArray 23)).heap[w.heap.size]? = some (.cells (bs K).toArray 23 (0, 0))) := heap_alloc_new w _
  have B1 : Hid (Below w.heap.size w (w.alloc (.cells (bs K).toArray 23))) := Below.al _ _
  obtain ⟨wa, hwa⟩ : ∃ wa, wa = w.alloc (.cells (bs K).toArray 23) := ⟨_, rfl⟩
  have hga : Hid (wa.heap.size = w.heap.size + 1) := by rw [hwa]; show _ = _; simp
  rw [← hwa] at hk0 B1
  have hk1 : Hid ((wa.alloc (.cells (bs t).toArray 28)).heap[wa.heap.size]? = some (.cells (bs t).toArray 28 (0, 0))) := heap_alloc_new wa _
  have G3 : Hid ((wa.alloc (.cells (bs t).toArray 28)).heap[w.heap.size]? = some (.cells (bs K).toArray 23 (0, 0))) := heap_bel hk0.out (Below.al _ _)
  have B2 : Hid (Below w.heap.size w (wa.alloc (.cells (bs t).toArray 28))) := Below.tr B1.out (Below.al _ _)
  rw [hga.out] at hk1
  rw [hwa] at hk1 G3 B2
  clear hwa hga hk0 B1
  go_enter Try.func5, Try.ntmps5
  by_cases hbig : 4096 < n
  · have hbI : (4096 : Int) < (n : Int) := by omega
    go_wp2_with fail
    refine (known_any _).mono ?_
    rintro e w2 ⟨rfl, hb2⟩
    go_wp2_with fail
    go_ret
    exact ⟨rfl, Below.tr B2.out hb2⟩
  · have hbI : decide ((4096 : Int) < (n : Int)) = false := decide_eq_false (by omega)
    have hn12 : Hid (n ≤ 4096) := by show _ ≤ _; omega
    clear hbig
    have hr1 : Hid (((w.alloc (.cells (bs K).toArray 23)).alloc (.cells (bs t).toArray 28)).rangeAt w.heap.size 0 (bs K)) := range_block G3.out
    have hsz : Hid (((w.alloc (.cells (bs K).toArray 23)).alloc (.cells (bs t).toArray 28)).heap.size = w.heap.size + 2) := by show _ = _; simp
    go_wp2_with (first
      | ((with_reducible refine lst_load_mid 23 (.tmp 3) rfl w.heap.size 0 rfl (bs K) _ hr1.out uK.out rfl iKK.out ?_ ?_)
         (focus rfl))
      | ((with_reducible refine lst_alloc_d 7 rfl 23 rfl iK _ HiK.out HzK.out ?_ ?_)
         (focus rfl)
         intro g7 w3 Hg7 Hh7 hb3
         have G7 : Hid (w3.heap[g7]? = some (.cells (bs (List.replicate 32 0)).toArray 23 (0, 0))) := Hh7
         have G33 := Lib.hid (heap_bel G3.out hb3)
         have G43 := Lib.hid (heap_bel hk1.out hb3)
         have B3 := Lib.hid (Below.tr B2.out hb3)
         have E7 : Hid (g7 = w.heap.size + 2) := by have := Hg7.out.1; have := hsz.out; show _ = _; omega
         clear Hg7 Hh7 hb3 G3 hk1 B2 hr1)
      | ((with_reducible refine lst_store_abs 23 (.tmp 7) (.tmp 13) rfl g7 23 (bs (List.replicate 32 0)).toArray (bs K).toArray rfl rfl G7.out (by simpa using iKK.out) (by simp [bs_length, HK.out]) (by simp; exact bs_oneCell _) ?_ ?_)
         (focus rfl)
         intro w4 Hh4 hg4))
    have I0 : Hid (GoI w w4 w.heap.size (w.heap.size + 1) g7 K t (goS K t 0)) := by
      refine ⟨(hg4.block _ (Array.getElem?_eq_some_iff.1 G33.out).1 (by have := E7.out; simp; omega)).trans G33.out, (hg4.block _ (Array.getElem?_eq_some_iff.1 G43.out).1 (by have := E7.out; simp; omega)).trans G43.out, by rw [goS_0 HK.out]; exact ByB.of_block Hh4.out rfl HK.out (by decide), by have := E7.out; omega, B3.out.grown hg4 B3.out.size (fun j hj => by injection hj with hj; have := E7.out; omega)⟩
    clear hsz Hh4 hg4 G33 G43 B3 G7 HiK HzK
    obtain ⟨g3, hg3⟩ : ∃ g3, g3 = w.heap.size := ⟨_, rfl⟩
    obtain ⟨g4, hg4⟩ : ∃ g4, g4 = w.heap.size + 1 := ⟨_, rfl⟩
    rw [← hg4, ← hg3] at I0
    rw [← hg4, ← hg3]
    clear hg3 hg4 E7
    go_loopw [8] (fun i wr => ∃ k : Nat, k ≤ 16 ∧ i = .int .i64 (k : Nat) ∧ Hid (GoI w wr g3 g4 g7 K t (goS K t k))) (fun i _ => 16 - (intOf i).toNat)
    case atStart => exact ⟨0, Nat.zero_le _, rfl, I0.out⟩
    case round =>
      clear I0
      obtain ⟨k, hk, rfl, HI⟩ := hrel
      by_cases hlt : k < 16
      · have hkI : (k : Int) < 16 := by omega
        have hk0 : (0 : Int) ≤ (k : Int) := by omega
        obtain ⟨x, hx⟩ : ∃ x, x = K.getD k 0 := ⟨_, rfl⟩
        obtain ⟨y, hy⟩ : ∃ y, y = t.getD k 0 := ⟨_, rfl⟩
        have hkt : k < t.length := by rw [HT.out]; exact hlt
        have hcx : wr.cell? ⟨g7, k, none⟩ = some (.int .u8 (x.toNat : Int)) := by
          have := HI.out.o.cell (i := k) (by rw [goS_len]; omega)
          rw [goS_get K t k k (by omega) (Nat.le_refl _), ← hx] at this
          exact this
        have hfx := World.ownsRow.frozenAt HI.out.o k
        have hcy : wr.cell? ⟨g4, k, none⟩ = some (.int .u8 (y.toNat : Int)) := by
          rw [cell_of_row wr g4 k _ _ _ HI.out.t, List.getElem?_toArray, bs_get t k hkt, hy]
          simp [List.getD, hkt]; rfl
        have hst := goS_set K t k (by omega)
        have Hst := Lib.hid hst
        clear hst hkt
        by_cases h3 : k % 4 = 3
        · have hm : (k : Int) % 4 = 3 := by omega
          have htm : (k : Int).tmod 4 = 3 := by rw [Int.tmod_eq_emod_of_nonneg (by omega)]; omega
          have hB : goB K t k = x ^^^ hi4 y := by unfold goB; rw [if_pos h3, hx, hy]
          obtain ⟨z, hz⟩ : ∃ z, z = x ^^^ hi4 y := ⟨_, rfl⟩
          obtain ⟨u, hu⟩ : ∃ u, u = hi4 y := ⟨_, rfl⟩
          obtain ⟨q, hq⟩ : ∃ q, q = y.toNat / 16 := ⟨_, rfl⟩
          have hun : u.toNat = q * 16 := by rw [hu, hi4_nat, hq]
          have hyl := y.toNat_lt
          have hd : (y.toNat : Int) / 16 = (q : Int) := by omega
          have htd : (y.toNat : Int).tdiv 16 = (q : Int) := by rw [Int.tdiv_eq_ediv_of_nonneg (by omega)]; omega
          have hw8 : IntKind.u8.wrap ((q : Int) * 16) = (u.toNat : Int) := by simp [IntKind.wrap, IntKind.signed, IntKind.bits]; omega
          have hw9 : (q : Int) % 256 * 16 % 256 = (u.toNat : Int) := by omega
          have hxo : bits .xor .u8 (x.toNat : Int) (u.toNat : Int) = (z.toNat : Int) := by rw [xor_b8, hu, ← hz]
          have Hz := Lib.hid hz; have HB := Lib.hid hB
          have G1 : Hid (GoI w (wr.setCell ⟨g7, k, none⟩ (.int .u8 (z.toNat : Int))).drew g3 g4 g7 K t (goS K t (k + 1))) := by
            have h := HI.out.set k z
            rw [hz, ← hB, Hst.out, hB, ← hz] at h; exact h
          clear hx hy hz hu hq hun hyl hB HI
          go_wp2_with fail
          go_region
          clear hcx hfx hcy hw8 hw9 hxo hd htd
          generalize (wr.setCell ⟨g7, k, none⟩ (.int .u8 (z.toNat : Int))).drew = w6 at G1 ⊢
          go_wp2_with fail
          go_roundw
          case rel => exact ⟨k + 1, by omega, by go_num, G1⟩
          case measure => simp [intOf]; omega
        · by_cases h0 : k % 4 = 0 ∧ 0 < k
          · have hm : (k : Int) % 4 = 0 := by omega
            have htm : (k : Int).tmod 4 = 0 := by rw [Int.tmod_eq_emod_of_nonneg (by omega)]; omega
            have hkp : (0 : Int) < (k : Int) := by omega
            have hkn : 0 < k := h0.2
            have hB : goB K t k = x ^^^ lo2 y := by unfold goB; rw [if_neg h3, if_pos h0, hx, hy]
            obtain ⟨z, hz⟩ : ∃ z, z = x ^^^ lo2 y := ⟨_, rfl⟩
            obtain ⟨u, hu⟩ : ∃ u, u = lo2 y := ⟨_, rfl⟩
            have hun : u.toNat = y.toNat % 4 := by rw [hu, lo2_nat]
            have hyl := y.toNat_lt
            have hd : (y.toNat : Int) % 4 = (u.toNat : Int) := by omega
            have htd : (y.toNat : Int).tmod 4 = (u.toNat : Int) := by rw [Int.tmod_eq_emod_of_nonneg (by omega)]; omega
            have hxo : bits .xor .u8 (x.toNat : Int) (u.toNat : Int) = (z.toNat : Int) := by rw [xor_b8, hu, ← hz]
            have hxz : IntKind.u8.wrap (u.toNat : Int) = (u.toNat : Int) := by
              have := u.toNat_lt
              simp [IntKind.wrap, IntKind.signed, IntKind.bits]; omega
            have G1 : Hid (GoI w (wr.setCell ⟨g7, k, none⟩ (.int .u8 (z.toNat : Int))).drew g3 g4 g7 K t (goS K t (k + 1))) := by
              have h := HI.out.set k z
              rw [hz, ← hB, Hst.out, hB, ← hz] at h; exact h
            clear hx hy hz hu hun hyl hB HI h3 h0
            go_wp2_with fail
            go_region
            clear hcx hfx hcy hxo hd htd
            generalize (wr.setCell ⟨g7, k, none⟩ (.int .u8 (z.toNat : Int))).drew = w6 at G1 ⊢
            go_wp2_with fail
            go_roundw
            case rel => exact ⟨k + 1, by omega, by go_num, G1⟩
            case measure => simp [intOf]; omega
          · have hB : goB K t k = K.getD k 0 := by unfold goB; rw [if_neg h3, if_neg h0]
            have G1 : Hid (GoI w wr g3 g4 g7 K t (goS K t (k + 1))) := by rw [goS_skip K t k hB]; exact HI.out
            clear hx hy hB HI hcx hfx hcy
            obtain ⟨m, hm⟩ : ∃ m : Nat, m = k % 4 := ⟨_, rfl⟩
            have hmI : (k : Int) % 4 = (m : Int) := by omega
            have htm : (k : Int).tmod 4 = (m : Int) := by rw [Int.tmod_eq_emod_of_nonneg (by omega)]; omega
            have hm3 : decide ((m : Int) = 3) = false := decide_eq_false (by omega)
            have hm3' : ¬ m = 3 := by omega
            by_cases hk00 : k = 0
            · subst hk00
              go_wp2_with fail
              go_roundw
              case rel => exact ⟨1, by omega, by go_num, G1⟩
              case measure => simp [intOf]
            · have hm0 : decide ((m : Int) = 0) = false := decide_eq_false (by omega)
              have hm0' : ¬ m = 0 := by omega
              clear hm
              go_wp2_with fail
              go_roundw
              case rel => exact ⟨k + 1, by omega, by go_num, G1⟩
              case measure => simp [intOf]; omega
      · have hkI : decide ((k : Int) < 16) = false := decide_eq_false (by omega)
        have hk16 : k = 16 := by omega
        subst hk16
        go_wp2_with fail
        have S7 := Lib.hid (H.out.belF HI.out.bel (fun _ h => h))
        obtain ⟨O, hO⟩ : ∃ O, O = goS K t 16 := ⟨_, rfl⟩
        have HOl : Hid (O.length = 32) := by rw [hO]; exact goS_len _ _ _
        have T1 : Hid (tagL O l = tagL K l) := by rw [hO]; exact tag_go HK.out t l
        have iO : Hid ((Try.prog.info? 23).map (·.size) = some (bs O).length) := by rw [bs_length, HOl.out]; exact Try.sizeKey
        have G7c : Hid (wr.heap[g7]? = some (.cells (bs O).toArray 23 (0, 0))) := by rw [hO]; exact HI.out.o.heap
        have G3c : Hid (wr.heap[g3]? = some (.cells (bs K).toArray 23 (0, 0))) := HI.out.k
        have B7 : Hid (Below w.heap.size w wr) := HI.out.bel
        have lt7 : Hid (g7 < wr.heap.size) := (Array.getElem?_eq_some_iff.1 G7c.out).1
        have lt3 : Hid (g3 < wr.heap.size) := (Array.getElem?_eq_some_iff.1 G3c.out).1
        have r3 : Hid (wr.rangeAt g3 0 (bs K)) := range_block G3c.out
        have r7 : Hid (wr.rangeAt g7 0 (bs O)) := range_block G7c.out
        clear hO HI
        refine wp_calm ?_
        refine wp_region_os (fun _ w' => Below (wr).drew.heap.size (wr).drew w') [0, 3] (.take 0 (.move 1 (.take 3 (.move 4 (.run 2 [3] (.run 5 [0] (.move 6 (.move 7 (.run 8 [0, 3] (.move 9 (.move 10 .done))))))))))) (by kernel_rfl) (by kernel_rfl) (fun _ _ _ _ _ h => nomatch h.1) ?_
        have hS0 : Below (wr).drew.heap.size (wr).drew (wr).drew := Below.refl _ _
        refine os_load_mid 23 (.tmp 7) (g7) (0) (bs O) _ hS0 rfl rfl rfl rfl rfl (uK.out) rfl (iO.out) (fun w' h => rangeAt_bel (range_dr (r7.out)) h lt7.out) ⟨_, rfl, ?_⟩
        refine os_move rfl rfl rfl (Nat.le_of_ble_eq_true rfl) ?_
        apply Exists.intro
        refine ⟨fun w' K hK => ?_, ?_⟩
        (focus
          go_simp
          exact hK)
        refine os_load_mid 23 (.tmp 3) (g3) (0) (bs K) _ hS0 rfl rfl rfl rfl rfl (uK.out) rfl (iKK.out) (fun w' h => rangeAt_bel (range_dr (r3.out)) h lt3.out) ⟨_, rfl, ?_⟩
        refine os_move rfl rfl rfl (Nat.le_of_ble_eq_true rfl) ?_
        apply Exists.intro
        refine ⟨fun w' K hK => ?_, ?_⟩
        (focus
          go_simp
          exact hK)
        refine os_run rfl rfl (fun K hK => ?_)
        go_wp2_with fail
        refine (Sum_any (H.out.belF (Below.tr B7.out (Below.undr hS0)) (fun _ h => h)) (fun k hk => Nat.lt_of_lt_of_le hk (Below.tr B7.out (Below.undr hS0)).size) (by have := hn12.out; omega) HOl.out).mono ?_
        rintro e wp ⟨rfl, hbp⟩
        go_wp2_with fail
        refine ⟨fun _ _ h => Below.tr h (hbp), ?_⟩
        replace hS0 := Below.tr hS0 (hbp)
        refine os_run rfl rfl (fun K hK => ?_)
        go_wp2_with fail
        refine (Sum_any (H.out.belF (Below.tr B7.out (Below.undr hS0)) (fun _ h => h)) (fun k hk => Nat.lt_of_lt_of_le hk (Below.tr B7.out (Below.undr hS0)).size) (by have := hn12.out; omega) HK.out).mono ?_
        rintro e wq ⟨rfl, hbq⟩
        go_wp2_with fail
        refine ⟨fun _ _ h => Below.tr h (hbq), ?_⟩
        replace hS0 := Below.tr hS0 (hbq)
        refine os_eql_t 28 (.tmp 51) (.tmp 54) _ 16 (tagL O l) (tagL K l) rfl rfl rfl rfl rfl rfl (uT.out) (by kernel_rfl) (tagL_len _ _) (tagL_len _ _) (true) (by rw [T1.out]; simp) ⟨_, rfl, ?_⟩
        refine os_move rfl rfl rfl (Nat.le_of_ble_eq_true rfl) ?_
        apply Exists.intro
        refine ⟨fun w' K hK => ?_, ?_⟩
        (focus
          go_simp
          exact hK)
        refine os_run rfl rfl (fun K hK => ?_)
        go_wp2_with fail
        refine (known_any wq).mono ?_
        rintro e wv ⟨rfl, hbv⟩
        go_wp2_with fail
        refine ⟨fun _ _ h => Below.tr h (hbv), ?_⟩
        replace hS0 := Below.tr hS0 (hbv)
        refine os_move rfl rfl rfl (Nat.le_of_ble_eq_true rfl) ?_
        apply Exists.intro
        refine ⟨fun w' K hK => ?_, ?_⟩
        (focus
          go_simp
          exact hK)
        refine os_move rfl rfl rfl (Nat.le_of_ble_eq_true rfl) ?_
        apply Exists.intro
        refine ⟨fun w' K hK => ?_, ?_⟩
        (focus
          go_simp
          exact hK)
        refine os_done ⟨rfl, ?_⟩
        go_wp2_with fail
        refine bodyPost_ret (v := .bool true) ?_ rfl ?_
        · simp [results, Try.results5, go_sem]
        · exact ⟨rfl, Below.tr B7.out (Below.undr hS0)⟩
end Go.Proofs.Ytkikdhjckjmolaa
