/- Poly: sum. -/
import Derived.Test.YtkikdhjckjmolaaPo15
namespace Go.Proofs.Ytkikdhjckjmolaa
open Go.RowKit
attribute [local go_sem] yld yldUpon_value

/-- what sum holds -/
structure SuI (w wr : World) (g2 g3 g4 g5 : Nat) (a b o : List UInt8) : Prop where
  a : wr.heap[g2]? = some (.cells (bs a).toArray 28 (0, 0))
  b : wr.heap[g3]? = some (.cells (bs b).toArray 28 (0, 0))
  res : wr.heap[g4]? = some (.cells (bs (List.replicate 16 0)).toArray 28 (0, 0))
  o : ByB wr 28 g5 16 o
  ord : w.heap.size ≤ g2 ∧ g2 < g3 ∧ g3 < g4 ∧ g4 < g5
  bel : Below w.heap.size w wr
theorem SuI.set {w wr : World} {g2 g3 g4 g5 : Nat} {a b o : List UInt8} (h : SuI w wr g2 g3 g4 g5 a b o) (i : Nat) (z : UInt8) : SuI w (wr.setCell ⟨g5, i, none⟩ (.int .u8 (z.toNat : Int))) g2 g3 g4 g5 a b (o.set i z) := by
  have ho := h.ord
  have hf : Fr (fun j => j = g5) wr (wr.setCell ⟨g5, i, none⟩ (.int .u8 (z.toNat : Int))) := (Fr.refl (fun j => j = g5) wr).setCell (p := ⟨g5, i, none⟩) (.inl rfl) _
  refine ⟨?_, ?_, ?_, h.o.set i z, h.ord, ?_⟩
  · exact (hf.block g2 (Array.getElem?_eq_some_iff.1 h.a).1 (by omega)).trans h.a
  · exact (hf.block g3 (Array.getElem?_eq_some_iff.1 h.b).1 (by omega)).trans h.b
  · exact (hf.block g4 (Array.getElem?_eq_some_iff.1 h.res).1 (by omega)).trans h.res
  · exact ((Fr.of_below h.bel).trans hf (fun i _ h => h)).to_below (fun i hi => by omega)
theorem SuI.drew {w wr : World} {g2 g3 g4 g5 : Nat} {a b o : List UInt8} (h : SuI w wr g2 g3 g4 g5 a b o) : SuI w wr.drew g2 g3 g4 g5 a b o := ⟨h.a, h.b, h.res, h.o, h.ord, below_drewN h.bel 1⟩

set_option maxRecDepth 100000 in
set_option maxHeartbeats 8000000 in
theorem sum_any (w : World) {a b : List UInt8} (ha : a.length = 16) (hb : b.length = 16) :
    Calls Try.prog 15 #[.agg (bs a).toArray, .agg (bs b).toArray] w fun e w' => e = .returned (.agg (bs (sumL a b)).toArray) ∧ Below w.heap.size w w' := by
  have HA := Lib.hid ha; have HB := Lib.hid hb
  clear ha hb
  obtain ⟨iT, hiT, zT, _, _⟩ := info_parts Try.infoTag
  have HiT := Lib.hid hiT; have HzT := Lib.hid zT
  clear hiT zT
  have uT := Lib.hid Try.underlying28
  obtain ⟨D, hD⟩ : ∃ D, D = sumL a b := ⟨_, rfl⟩
  have HDl : Hid (D.length = 16) := by rw [hD]; exact sumL_len _ _
  have iT2 : Hid ((Try.prog.info? 28).map (·.size) = some (bs D).length) := by rw [bs_length, HDl.out]; exact Try.sizeTag
  rw [← hD]
  have HD := Lib.hid hD
  clear hD
  have hk0 : Hid ((w.alloc (.cells (bs a).toArray 28)).heap[w.heap.size]? = some (.cells (bs a).toArray 28 (0, 0))) := heap_alloc_new w _
  have B1 : Hid (Below w.heap.size w (w.alloc (.cells (bs a).toArray 28))) := Below.al _ _
  obtain ⟨wa, hwa⟩ : ∃ wa, wa = w.alloc (.cells (bs a).toArray 28) := ⟨_, rfl⟩
  have hga : Hid (wa.heap.size = w.heap.size + 1) := by rw [hwa]; show _ = _; simp
  rw [← hwa] at hk0 B1
  have hk1 : Hid ((wa.alloc (.cells (bs b).toArray 28)).heap[wa.heap.size]? = some (.cells (bs b).toArray 28 (0, 0))) := heap_alloc_new wa _
  have hk0' : Hid ((wa.alloc (.cells (bs b).toArray 28)).heap[w.heap.size]? = some (.cells (bs a).toArray 28 (0, 0))) := heap_bel hk0.out (Below.al _ _)
  have B2 : Hid (Below w.heap.size w (wa.alloc (.cells (bs b).toArray 28))) := Below.tr B1.out (Below.al _ _)
  rw [hga.out] at hk1
  rw [hwa] at hk1 hk0' B2
  clear hwa hga hk0 B1
  go_enter Try.func15, Try.ntmps15
  go_wp2_with (first
    | ((with_reducible refine lst_alloc_d 4 rfl 28 rfl iT _ HiT.out HzT.out ?_ ?_)
       (focus rfl)
       intro g4 w2 Hg4 Hh4 hb2
       have G4 : Hid (w2.heap[g4]? = some (.cells (bs (List.replicate 16 0)).toArray 28 (0, 0))) := Hh4
       have G2 := Lib.hid (heap_bel hk0'.out hb2)
       have G3 := Lib.hid (heap_bel hk1.out hb2)
       have B3 := Lib.hid (Below.tr B2.out hb2)
       have E4 : Hid (w.heap.size + 1 < g4) := by have := Hg4.out.1; rw [World.size_alloc, World.size_alloc] at this; show _ < _; omega
       clear Hg4 Hh4 hb2 hk0' hk1 B2)
    | ((with_reducible refine lst_alloc_d 5 rfl 28 rfl iT _ HiT.out HzT.out ?_ ?_)
       (focus rfl)
       intro g5 w3 Hg5 Hh5 hb3))
  have I0 : Hid (SuI w w3 w.heap.size (w.heap.size + 1) g4 g5 a b (partT 16 D 0)) := by
    refine ⟨heap_bel G2.out hb3, heap_bel G3.out hb3, heap_bel G4.out hb3, ByB.of_block Hh5.out rfl (partT_len 16 D HDl.out 0 (by decide)) (by decide), ?_, Below.tr B3.out hb3⟩
    have := Hg5.out.1; have := (Array.getElem?_eq_some_iff.1 G4.out).1; have := E4.out
    omega
  clear Hg5 Hh5 hb3 G2 G3 G4 B3 E4 HiT HzT
  obtain ⟨g2, hg2⟩ : ∃ g2, g2 = w.heap.size := ⟨_, rfl⟩
  obtain ⟨g3, hg3⟩ : ∃ g3, g3 = w.heap.size + 1 := ⟨_, rfl⟩
  have I1 : Hid (SuI w w3 g2 g3 g4 g5 a b (partT 16 D 0)) := by rw [hg2, hg3]; exact I0.out
  rw [← hg3, ← hg2]
  have Hg2 := Lib.hid hg2
  clear hg2 hg3 I0
  go_loopw [6, 7] (fun c i wr => ∃ k : Nat, k ≤ 16 ∧ i = .int .i64 (k : Nat) ∧ c = .int .i64 (cyN a b k : Nat) ∧ Hid (SuI w wr g2 g3 g4 g5 a b (partT 16 D k))) (fun _ i _ => 16 - (intOf i).toNat)
  case atStart => exact ⟨0, Nat.zero_le _, rfl, by rw [show cyN a b 0 = 0 by simp [cyN, leN]]; rfl, I1.out⟩
  case round =>
    clear I1
    obtain ⟨k, hk, rfl, rfl, HI⟩ := hrel
    by_cases hlt : k < 16
    · have hkI : (k : Int) < 16 := by omega
      have hk0 : (0 : Int) ≤ (k : Int) := by omega
      have hka : k < a.length := by rw [HA.out]; exact hlt
      have hkb : k < b.length := by rw [HB.out]; exact hlt
      obtain ⟨x, hx⟩ : ∃ x, x = a[k] := ⟨_, rfl⟩
      obtain ⟨y, hy⟩ : ∃ x, x = b[k] := ⟨_, rfl⟩
      obtain ⟨c, hc⟩ : ∃ c, c = cyN a b k := ⟨_, rfl⟩
      obtain ⟨c', hc'⟩ : ∃ c, c = cyN a b (k + 1) := ⟨_, rfl⟩
      have hkD : k < D.length := by rw [HDl.out]; exact hlt
      obtain ⟨z, hz⟩ : ∃ z, z = D[k] := ⟨_, rfl⟩
      have hcl : c ≤ 1 := by rw [hc]; exact cy_le a b k
      have hbyte : (x.toNat + y.toNat + c) % 256 = z.toNat := by
        have h := cy_byte k hka hkb hlt
        rw [hx, hy, hc, hz]
        have e : D[k] = (sumL a b)[k]'(by rw [sumL_len]; exact hlt) := by congr 1
        rw [e]; exact h
      have hstep : (x.toNat + y.toNat + c) / 256 = c' := by rw [hx, hy, hc, hc']; exact cy_step k hka hkb
      rw [← hc]
      have hca : wr.cell? ⟨g2, k, none⟩ = some (.int .u8 (x.toNat : Int)) := by
        rw [cell_of_row wr g2 k _ _ _ HI.out.a, List.getElem?_toArray, bs_get a k hka, hx]; rfl
      have hcb : wr.cell? ⟨g3, k, none⟩ = some (.int .u8 (y.toNat : Int)) := by
        rw [cell_of_row wr g3 k _ _ _ HI.out.b, List.getElem?_toArray, bs_get b k hkb, hy]; rfl
      obtain ⟨s1, hs1⟩ : ∃ s, s = x.toNat + y.toNat := ⟨_, rfl⟩
      obtain ⟨s2, hs2⟩ : ∃ s, s = s1 + c := ⟨_, rfl⟩
      have hxl := x.toNat_lt; have hyl := y.toNat_lt; have hzl := z.toNat_lt
      have hw1 : IntKind.i64.wrap ((x.toNat : Int) + (y.toNat : Int)) = (s1 : Int) := by rw [IntKind.wrap_i64]; omega
      have hw2 : IntKind.i64.wrap ((s1 : Int) + (c : Int)) = (s2 : Int) := by rw [IntKind.wrap_i64]; omega
      have hmod : (s2 : Int) % 256 = (z.toNat : Int) := by omega
      have htmod : (s2 : Int).tmod 256 = (z.toNat : Int) := by rw [Int.tmod_eq_emod_of_nonneg (by omega)]; omega
      have hdiv : (s2 : Int) / 256 = (c' : Int) := by omega
      have htdiv : (s2 : Int).tdiv 256 = (c' : Int) := by rw [Int.tdiv_eq_ediv_of_nonneg (by omega)]; omega
      have hs20 : (0 : Int) ≤ (s2 : Int) := by omega
      have hs2b : (s2 : Int) < 1000 := by omega
      have hww : Hid (wrap64 (wrap64 (wrap64 (x.toNat : Int) + wrap64 (y.toNat : Int)) + (c : Int)) = (s2 : Int)) := by
        have e : ∀ n : Int, 0 ≤ n → n < 4096 → wrap64 n = n := fun n h1 h2 => by unfold wrap64; omega
        show _ = _
        rw [e (x.toNat : Int) (by omega) (by omega), e (y.toNat : Int) (by omega) (by omega), e ((x.toNat : Int) + (y.toNat : Int)) (by omega) (by omega), e ((x.toNat : Int) + (y.toNat : Int) + (c : Int)) (by omega) (by omega)]
        omega
      have hco := HI.out.o.cell (i := k) (by rw [partT_len 16 D HDl.out k (by omega)]; exact hlt)
      have hfo := World.ownsRow.frozenAt HI.out.o k
      have Hx := Lib.hid hx; have Hy := Lib.hid hy; have Hc := Lib.hid hc; have Hc' := Lib.hid hc'; have Hz := Lib.hid hz
      clear hx hy hc hc' hz hbyte hstep hs1 hs2 hxl hyl hzl hcl
      go_wp2_with fail
      go_region
      rw [hww.out]
      have HI2 := Lib.hid HI.out.drew
      clear HI hca hcb hco hfo hww
      generalize wr.drew = w1 at HI2 ⊢
      have hco := HI2.out.o.cell (i := k) (by rw [partT_len 16 D HDl.out k (by omega)]; exact hlt)
      have hfo := World.ownsRow.frozenAt HI2.out.o k
      have hwz : IntKind.u8.wrap (z.toNat : Int) = (z.toNat : Int) := by
        have := z.toNat_lt
        simp [IntKind.wrap, IntKind.signed, IntKind.bits]; omega
      have I2 : Hid (SuI w (w1.setCell ⟨g5, k, none⟩ (.int .u8 (z.toNat : Int))) g2 g3 g4 g5 a b (partT 16 D (k + 1))) := by
        have h := HI2.out.set k z
        have e := partT_set 16 D HDl.out k hlt
        rw [← Hz.out] at e
        rw [e] at h; exact h
      go_wp2_with fail
      go_roundw
      case rel => exact ⟨k + 1, by omega, by go_num, by rw [← Hc'.out], I2.out⟩
      case measure => simp [intOf]; omega
    · have hkI : decide ((k : Int) < 16) = false := decide_eq_false (by omega)
      have hk16 : k = 16 := by omega
      subst hk16
      have hro : Hid (wr.rangeAt g5 0 (bs D)) := by
        have := HI.out.o
        rw [partT_end 16 D HDl.out] at this; exact this.range
      have hP : Hid (wr.heap[g4]? = some (.cells (bs (List.replicate 16 0)).toArray 28 (0, 0))) := HI.out.res
      go_wp2_with (first
        | ((with_reducible refine lst_load_mid 28 (.tmp 5) rfl g5 0 rfl (bs D) _ hro.out uT.out rfl iT2.out ?_ ?_)
           (focus rfl))
        | ((with_reducible refine lst_store_abs 28 (.tmp 4) (.tmp 31) rfl g4 28 (bs (List.replicate 16 0)).toArray (bs D).toArray rfl rfl hP.out (by simpa using iT2.out) (by simp [bs_length, HDl.out]) (by simp; exact bs_oneCell _) ?_ ?_)
           (focus rfl)
           intro w20 Hh20 hg20))
      refine bodyPost_ret (v := .agg (bs D).toArray) ?_ rfl ⟨rfl, ?_⟩
      · exact results_cell Try.results15 rfl (run_loadVar_mid w20 g4 0 28 (bs D) _ (range_block Hh20.out) uT.out rfl iT2.out)
      · exact HI.out.bel.grown hg20 HI.out.bel.size (fun j hj => by injection hj with hj; have := HI.out.ord; omega)
end Go.Proofs.Ytkikdhjckjmolaa
