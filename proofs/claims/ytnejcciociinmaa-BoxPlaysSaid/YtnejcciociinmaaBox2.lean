/- Seal of the box. -/
import Derived.Test.YtnejcciociinmaaBox1
import Derived.Test.YtnejcciociinmaaAgg
namespace Go.Proofs.Ytnejcciociinmaa
open Go.RowKit

/-- eight bytes of a number, the lowest first -/
def le8 (v : Nat) : List UInt8 := (List.range 8).map fun i => UInt8.ofNat (v / 256 ^ i % 256)

/-- what is sealed by drawn bytes -/
def sealOf (v p : Nat) (src : List UInt8) : List UInt8 := le8 v ++ drawn (8 + p) src

theorem le8_get (v k : Nat) (h : k < (le8 v).length) : (le8 v)[k] = UInt8.ofNat (v / 256 ^ k % 256) := by simp [le8]
theorem seal_step (v k p : Nat) (hk : k < 8) : (bs ((le8 v).take k ++ List.replicate (16 + p - k) 0)).set k (.int .u8 ((v : Int) / 2 ^ (8 * k) % 256)) = bs ((le8 v).take (k + 1) ++ List.replicate (16 + p - (k + 1)) 0) := by
  have hl : k < (le8 v).length := by simp [le8]; omega
  have e1 : (.int .u8 ((v : Int) / 2 ^ (8 * k) % 256) : Value) = bv (le8 v)[k] := by
    rw [le8_get v k hl]
    have h2 : (2 : Int) ^ (8 * k) = ((256 ^ k : Nat) : Int) := by
      rw [Int.natCast_pow, show ((256 : Nat) : Int) = 2 ^ 8 from rfl, ← Int.pow_mul]
    have h3 : (v : Int) / 2 ^ (8 * k) % 256 = ((v / 256 ^ k % 256 : Nat) : Int) := by rw [h2]; omega
    rw [h3]
    simp [bv]
  rw [e1, show 16 + p - k = (16 + p - (k + 1)) + 1 by omega, List.replicate_succ, List.take_succ_eq_append_getElem hl]
  have hlen : (bs ((le8 v).take k)).length = k := by rw [bs_length, List.length_take]; omega
  simp only [bs_append, List.append_assoc]
  rw [List.set_append_right _ _ (by omega), hlen, Nat.sub_self]
  simp [bs]

theorem Try.infoRow : (Try.prog.info? 62).map (fun i => (i.zero.map (·.cells.size), i.size, i.bytes)) = some (some 47, 47, 120) := by kernel_rfl
theorem Try.rowFields : ∃ fs, Try.prog.underlying 62 = some (.struct fs) ∧ (fs.toList.all fun f => (Try.prog.info? f.type).isSome) = true ∧ (fs.toList.map fun f => (f.offset, Try.prog.cellsOf f.type)).toArray = #[(0, 32), (32, 12), (44, 1), (45, 1), (46, 1)] :=
  ⟨_, Try.underlying62, by kernel_rfl, by kernel_rfl⟩
theorem run_build_row (w : World) (k n : List UInt8) (hk : k.length = 32) (hn : n.length = 12) (h p s : Value) (h1 : h.cells = #[h]) (h2 : p.cells = #[p]) (h3 : s.cells = #[s]) :
    (Instr.build 62 #[(0, .agg (bs k).toArray), (1, .agg (bs n).toArray), (2, h), (3, p), (4, s)]).run Try.prog w = .ok (.agg (bs k ++ (bs n ++ [h, p, s])).toArray) w := by
  obtain ⟨fs, hf, hall, hpl⟩ := Try.rowFields
  obtain ⟨i, hi, hzz⟩ := Option.map_eq_some_iff.1 Try.infoRow
  simp only [Prod.mk.injEq] at hzz
  obtain ⟨z, hz, hzs⟩ := Option.map_eq_some_iff.1 hzz.1
  have hc : ∀ l : List UInt8, (Value.agg (bs l).toArray).cells = (bs l).toArray := fun _ => rfl
  have e : partCells [(0, .agg (bs k).toArray), (1, .agg (bs n).toArray), (2, h), (3, p), (4, s)] = bs k ++ (bs n ++ [h, p, s]) := by
    simp [partCells, hc, h1, h2, h3]
  have := run_build_struct (P := Try.prog) w 62 fs i z _ hf hi hz hall hpl #[(0, .agg (bs k).toArray), (1, .agg (bs n).toArray), (2, h), (3, p), (4, s)]
    (by simp [FillSeq, hc, bs_length, hk, hn, h1, h2, h3]) (by rw [e, hzs]; simp [bs_length, hk, hn])
  rw [this, e]

attribute [local go_sem] yld yldUpon_value

/-- bytes cloned in a world that is an elder one but for new blocks -/
theorem Clone_at {F : Nat → Prop} {A : Option Addr} {n c : Nat} {l : List UInt8} {w0 w : World} (hb : Below w0.heap.size w0 w) (h : Sl w0 F A n c l) (hF : ∀ k, F k → k < w0.heap.size) (hl : n ≤ 140737488355328) :
    Calls Try.prog 25 #[.slice A n c] w fun e w' => ∃ A' c', e = .returned (.slice A' n c') ∧ Hid (w'.ownsRow w.heap.size 5 1 (.slice A' n c') n (bs l) ∧ Below w.heap.size w w') ∧ Below w0.heap.size w0 w' :=
  (Clone_sl (h.fr (M := NoB) (Fr.of_below hb) (fun k hk => ⟨hF k hk, id⟩)) (fun k hk => Nat.lt_of_lt_of_le (hF k hk) hb.size) hl).mono fun _ _ ⟨A', c', e, h1, h2⟩ => ⟨A', c', e, ⟨h1, h2⟩, hb.trans (h2.mono hb.size)⟩

set_option maxRecDepth 100000 in
set_option maxHeartbeats 3000000 in
theorem Seal_any (b : Nat) (F G : Nat → Prop) (src : List UInt8) (rows : List BRow) (w : World) (h : BoxAt w b F src rows) (k n : List UInt8) (hk : k.length = 32) (hn : n.length = 12)
    (HA : Option Addr) (hn1 hc1 : Nat) (head : List UInt8) (hh : Sl w G HA hn1 hc1 head) (PA : Option Addr) (pn pc : Nat) (plain : List UInt8) (hp : Sl w G PA pn pc plain) (hG : ∀ k, G k → k < w.heap.size ∧ ¬ F k)
    (hh1 : hn1 ≤ 140737488355000) (hp1 : pn ≤ 1024) (hrl : rows.length ≤ 1000) :
    Calls Try.prog 13 #[.pointer (some ⟨b, 0, none⟩), .agg (bs k).toArray, .agg (bs n).toArray, .slice HA hn1 hc1, .slice PA pn pc] w fun e w' =>
      ∃ F' g c, e = .returned (.slice (some ⟨g, 0, none⟩) (16 + pn) c) ∧ w'.ownsRow w.heap.size 5 1 (.slice (some ⟨g, 0, none⟩) (16 + pn) c) (16 + pn) (bs (sealOf rows.length pn src)) ∧
        BoxAt w' b F' (src.drop (8 + pn)) (rows ++ [⟨k, n, head, plain, sealOf rows.length pn src⟩]) ∧ (∀ j, F' j → F j ∨ w.heap.size ≤ j) ∧ ¬ F' g ∧ Fr F w w' := by
  have H := Lib.hid h; have Hh := Lib.hid hh; have Hp := Lib.hid hp; have HG := Lib.hid hG
  obtain ⟨h1, h2, SA, sn, sc, RA, rn, rc, cs, D, hb, hD, hss, rfl, hro, hrb, hr, hl⟩ := h
  clear hh hp hG
  have hblt := h1 b h2
  have Hb := Lib.hid hb
  have H1 := Lib.hid h1; have HD := Lib.hid hD; have Hrb := Lib.hid hrb
  clear hb h1 hD hrb
  go_enter Try.func13, Try.ntmps13
  go_wp2_with (
    (with_reducible refine make_bytes rfl (.tmp 15) (.tmp 15) rfl w.heap.size _ _ (16 + pn) rfl rfl (by omega) (by omega) (by omega) (by simp; omega) ?_)
    intro g w1 Hg hbg hown1 hg1)
  have hw2 : Hid (Fr NoB w w1 ∧ w1.heap[w.heap.size]? = some (.cells (bs k).toArray 38 (0, 0)) ∧ w1.heap[w.heap.size + 1]? = some (.cells (bs n).toArray 40 (0, 0)) ∧ g = w.heap.size + 2) := by
    refine ⟨Fr.trans_below ((Fr.alloc (Fr.alloc (Fr.refl _ _) _) _)) (Fr.to_below (Fr.of_grown hg1) (fun i _ => by simp)), ?_, ?_, ?_⟩
    · rw [hg1.block _ (by simp; omega) (by simp)]; exact heap_alloc2_old w _ _
    · rw [hg1.block _ (by simp) (by simp)]; exact heap_alloc2_new w _ _
    · have := Hg.out; simpa using this
  have Hown1 := Lib.hid hown1; clear hown1 hg1 Hg
  go_loopw [12, 17] (fun _ i wr => ∃ k : Nat, k ≤ 8 ∧ i = .int .i64 (k : Nat) ∧ wr.ownsRow w.heap.size 5 1 (.slice (some ⟨g, 0, none⟩) (16 + pn) (16 + pn)) (16 + pn) (bs ((le8 rows.length).take k ++ List.replicate (16 + pn - k) 0)) ∧ Fr (fun j => j = g) w1 wr) (fun _ i _ => 8 - (intOf i).toNat)
  case atStart => exact ⟨0, by omega, rfl, by simpa using Hown1.out, Fr.refl _ _⟩
  case round =>
    obtain ⟨k1, hk1, rfl, hownr, hfr⟩ := hrel
    have hfw : Hid (Fr NoB w wr) := Fr.trans (N := fun j => j = g) (b := w1) hw2.out.1 hfr (fun i hi e => by have := hw2.out.2.2.2; omega)
    have c1r : wr.cell? ⟨b, 1, none⟩ = some (.slice RA rows.length rc) := by
      rw [World.cell?_of_block (w := w) (hfw.out.block b hblt id), cell_of_row w b 1 _ _ _ Hb.out]; rfl
    by_cases hlt : k1 < 8
    · have hkI : (0 : Int) ≤ (k1 : Int) := by omega
      have hknI : (k1 : Int) < ((16 + pn : Nat) : Int) := by omega
      have hcell : ∃ u, wr.cell? ⟨g, k1, none⟩ = some u := by
        rw [hownr.cellAt k1 (by omega)]
        have : k1 < (bs ((le8 rows.length).take k1 ++ List.replicate (16 + pn - k1) 0)).length := by have := hownr.1; omega
        exact ⟨_, List.getElem?_eq_getElem this⟩
      obtain ⟨u, hcell⟩ := hcell
      have hfz := hownr.frozenAt k1
      have hst := Lib.hid (seal_step rows.length k1 pn hlt)
      go_wp2_with fail
      obtain ⟨s1, s2⟩ := hownr.stored k1 (.int .u8 ((rows.length : Int) / 2 ^ (8 * k1) % 256))
      go_roundw
      case rel => exact ⟨k1 + 1, by omega, by go_num, by rw [← hst.out]; exact s1, hfr.trans (Fr.of_grown s2) (fun i _ e => by injection e)⟩
      case measure => simp [intOf] <;> omega
    · have hk8 : k1 = 8 := by omega
      subst hk8
      have e8 : (le8 rows.length).take 8 = le8 rows.length := List.take_of_length_le (by simp [le8])
      rw [e8, show 16 + pn - 8 = 8 + pn by omega] at hownr
      have hgF : Hid (¬ F g) := fun hF => by have := H1.out g hF; have := hw2.out.2.2.2; omega
      have hbox : Hid (BoxAt wr b F src rows) := BoxAt.fr H.out hfw.out (fun _ _ e => e)
      clear e8
      go_wp2_with fail
      refine (draw_any b F src rows wr hbox.out g 8 _ _ w.heap.size (16 + pn) (16 + pn) (le8 rows.length) (by omega) (by rw [show 16 + pn - 8 = 8 + pn by omega]; exact hownr) (by simp [le8]) hgF.out).mono ?_
      rintro e w2 ⟨rfl, hbox2, hfr2, hown2⟩
      have Hbox2 := Lib.hid hbox2
      obtain ⟨g1, g2, SA2, sn2, sc2, RA2, rn2, rc2, cs2, D2, gb, gD, gss, rfl, gro, grb, gr, gl⟩ := hbox2
      have hG2 : Hid (Fr (fun j => F j ∨ j = g) w w2) := Fr.trans (b := wr) (Fr.mono hfw.out (fun _ _ e => e.elim)) hfr2 (fun _ _ e => e)
      have cb1 : w2.cell? ⟨b, 1, none⟩ = some (.slice RA2 rows.length rc2) := by rw [cell_of_row w2 b 1 _ _ _ gb]; rfl
      have hgw := hw2.out.2.2.2
      have hK2 : w2.rangeAt w.heap.size 0 (bs k) := by
        have e : w2.heap[w.heap.size]? = some (.cells (bs k).toArray 38 (0, 0)) := by
          have hlt : w.heap.size < w1.heap.size := by
            rcases Nat.lt_or_ge w.heap.size w1.heap.size with h | h
            · exact h
            · have := hw2.out.2.1; rw [Array.getElem?_eq_none h] at this; cases this
          rw [hfr2.block _ (Nat.lt_of_lt_of_le hlt hfr.size) (fun h => h.elim (fun h => by have := H1.out _ h; omega) (fun h => by omega)), hfr.block _ hlt (by omega)]
          exact hw2.out.2.1
        intro j v hv
        rw [Nat.zero_add, cell_of_row _ _ _ _ _ _ e]; simpa using hv
      have hN2 : w2.rangeAt (w.heap.size + 1) 0 (bs n) := by
        have e : w2.heap[w.heap.size + 1]? = some (.cells (bs n).toArray 40 (0, 0)) := by
          have hlt : w.heap.size + 1 < w1.heap.size := by
            rcases Nat.lt_or_ge (w.heap.size + 1) w1.heap.size with h | h
            · exact h
            · have := hw2.out.2.2.1; rw [Array.getElem?_eq_none h] at this; cases this
          rw [hfr2.block _ (Nat.lt_of_lt_of_le hlt hfr.size) (fun h => h.elim (fun h => by have := H1.out _ h; omega) (fun h => by omega)), hfr.block _ hlt (by omega)]
          exact hw2.out.2.2.1
        intro j v hv
        rw [Nat.zero_add, cell_of_row _ _ _ _ _ _ e]; simpa using hv
      have hs2 : w.heap.size ≤ w2.heap.size := hG2.out.size
      have hGd : ∀ k, G k → k < w.heap.size ∧ ¬ (F k ∨ k = g) := fun k hk => ⟨(HG.out k hk).1, by
        rintro (h | h)
        · exact (HG.out k hk).2 h
        · have := (HG.out k hk).1; omega⟩
      have Hhead := Lib.hid (Hh.out.fr hG2.out hGd)
      have Hplain := Lib.hid (Hp.out.fr hG2.out hGd)
      have Hout := Lib.hid (Sl.of_own hown2)
      have HG2 := Lib.hid (fun k hk => Nat.lt_of_lt_of_le (HG.out k hk).1 hs2)
      have HK2 := Lib.hid hK2; have HN2 := Lib.hid hN2
      have hlk : (bs k).length = 32 := by rw [bs_length]; exact hk
      have hln : (bs n).length = 12 := by rw [bs_length]; exact hn
      have o1 : ∀ v ∈ bs k, v.oneCell' = true := bs_oneCell k
      have o2 : ∀ v ∈ bs n, v.oneCell' = true := bs_oneCell n
      have u1 := Try.underlying38
      have u2 := Try.underlying40
      have i1 : (Try.prog.info? 38).map (·.size) = some (bs k).length := by rw [hlk]; kernel_rfl
      have i2 : (Try.prog.info? 40).map (·.size) = some (bs n).length := by rw [hln]; kernel_rfl
      clear hK2 hN2 hGd hgw
      go_wp2_with fail
      generalize hnb : w.heap.size + 1 = nb
      generalize hkb : w.heap.size = kb
      have SK : Hid (∀ w', Below w2.heap.size w2 w' → (w'.cell? ⟨b, 1, none⟩ = some (.slice RA2 rows.length rc2) ∧ w'.rangeAt kb 0 (bs k) ∧ w'.rangeAt nb 0 (bs n))) := by
        intro w' hb'
        refine ⟨(hb'.cell (g1 b g2)).trans cb1, fun j v hv => ?_, fun j v hv => ?_⟩
        · rw [← hkb]; have := HK2.out j v hv; rw [hb'.cell (World.block_lt_of_cell? _ _ this)]; exact this
        · rw [← hnb]; have := HN2.out j v hv; rw [hb'.cell (World.block_lt_of_cell? _ _ this)]; exact this
      have Hkb := Lib.hid hkb; have Hnb := Lib.hid hnb
      clear hkb hnb
      have hS0 := Lib.hid (SK.out w2.drew (Below.drew (Below.refl _ _)))
      refine wp_region_ord (fun w' => w'.cell? ⟨b, 1, none⟩ = some (.slice RA2 rows.length rc2) ∧ w'.rangeAt kb 0 (bs k) ∧ w'.rangeAt nb 0 (bs n)) 16
        [(0, true), (1, true), (2, true), (3, true), (4, true), (5, true), (6, true), (7, true), (9, true), (11, true), (8, false), (10, false), (12, false), (13, false), (14, false), (15, false), (16, false), (17, false), (18, false)]
        (by kernel_rfl) (by kernel_rfl) (fun _ _ _ _ _ h => h) ?_
      iterate 5 (
        refine ord_yld hS0.out rfl rfl rfl (Nat.le_of_ble_eq_true rfl) ?_
        apply Exists.intro
        refine ⟨fun w' hS' K hK => ?_, ?_⟩
        (focus
          obtain ⟨q1, q2, q3⟩ := hS'
          go_simp
          exact hK))
      refine ord_load_mid hS0.out rfl _ _ (bs k) _ rfl (fun w' hS' => hS'.2.1) u1 rfl i1 ?_
      simp only [Act.put, List.setIfInBounds_toArray, List.set_cons_zero, List.set_cons_succ]
      refine ord_load_mid hS0.out rfl _ _ (bs n) _ rfl (fun w' hS' => hS'.2.2) u2 rfl i2 ?_
      simp only [Act.put, List.setIfInBounds_toArray, List.set_cons_zero, List.set_cons_succ]
      iterate 3 (
        refine ord_yld hS0.out rfl rfl rfl (Nat.le_of_ble_eq_true rfl) ?_
        apply Exists.intro
        refine ⟨fun w' hS' K hK => ?_, ?_⟩
        (focus
          obtain ⟨q1, q2, q3⟩ := hS'
          go_simp
          exact hK))
      refine ord_run rfl rfl (fun K hK => ?_)
      go_wp2_with fail
      refine (Clone_at (w0 := w2) (Below.drew (Below.refl _ _)) Hhead.out HG2.out (by omega)).mono ?_
      rintro e w3 ⟨A3, c3, rfl, O3, hb3⟩
      refine hK _ _ ⟨fun _ => SK.out _ hb3, ?_⟩
      clear hK K
      refine ord_run rfl rfl (fun K hK => ?_)
      go_wp2_with fail
      refine (Clone_at (w0 := w2) hb3 Hplain.out HG2.out (by omega)).mono ?_
      rintro e w4 ⟨A4, c4, rfl, O4, hb4⟩
      refine hK _ _ ⟨fun _ => SK.out _ hb4, ?_⟩
      clear hK K
      refine ord_run rfl rfl (fun K hK => ?_)
      go_wp2_with fail
      refine (Clone_at (w0 := w2) hb4 Hout.out (fun k hk => hk.2.1) (by omega)).mono ?_
      rintro e w5 ⟨A5, c5, rfl, O5, hb5⟩
      refine hK _ _ ⟨fun _ => SK.out _ hb5, ?_⟩
      clear hK K
      refine ord_run rfl rfl (fun K hK => ?_)
      refine wp_build 62 _ #[(0, .agg (bs k).toArray), (1, .agg (bs n).toArray), (2, .slice A3 hn1 c3), (3, .slice A4 pn c4), (4, .slice A5 (16 + pn) c5)] _ rfl (by simp only [List.map_toArray, List.map_cons, List.map_nil]; rfl) (run_build_row w5 k n hk hn (.slice A3 hn1 c3) (.slice A4 pn c4) (.slice A5 (16 + pn) c5) rfl rfl rfl) ?_
      refine hK _ _ ⟨fun _ => SK.out _ hb5, ?_⟩
      clear hK K
      simp only [Act.put, List.setIfInBounds_toArray, List.set_cons_zero, List.set_cons_succ]
      obtain ⟨ir, hir, hzz⟩ := Option.map_eq_some_iff.1 Try.infoRow
      simp only [Prod.mk.injEq] at hzz
      obtain ⟨hzz1, hzz2, hzz3⟩ := hzz
      obtain ⟨zr, hzr, hzs⟩ := Option.map_eq_some_iff.1 hzz1
      generalize hcells : bs k ++ (bs n ++ [Value.slice A3 hn1 c3, Value.slice A4 pn c4, Value.slice A5 (16 + pn) c5]) = cells
      have hclen : cells.length = 47 := by rw [← hcells]; simp [bs_length, hk, hn]
      have hcone : ∀ u ∈ cells, u.oneCell' = true := by
        rw [← hcells]; intro u hu
        simp only [List.mem_append, List.mem_cons, List.not_mem_nil, or_false] at hu
        rcases hu with hu | hu | rfl | rfl | rfl
        · exact o1 u hu
        · exact o2 u hu
        · rfl
        · rfl
        · rfl
      refine ord_run rfl rfl (fun K hK => ?_)
      refine wp_buildSlice_one 55 62 _ ir zr (.agg cells.toArray) rfl rfl Try.underlying55 hir hzr (by rw [hzz2]; simpa [Value.cells] using hclen) (by rw [hzz2]; exact hzs) (by rw [hzz2]; omega) (by rw [hzz2]; omega) ?_
      have hb6 : Below w2.heap.size w2 (w5.alloc (.cells cells.toArray 62)) := hb5.alloc hb5.size _
      refine hK _ _ ⟨fun _ => SK.out _ hb6, ?_⟩
      clear hK K
      simp only [Act.put, List.setIfInBounds_toArray, List.set_cons_zero, List.set_cons_succ]
      have hsrc : Rd (w5.alloc (.cells cells.toArray 62)) (some ⟨w5.heap.size, 0, none⟩) cells := by
        have := Rd.of_block (heap_alloc_new w5 (.cells cells.toArray 62)); simpa using this
      have h56 : (w5.alloc (.cells cells.toArray 62)).heap.size = w5.heap.size + 1 := by simp
      refine ord_run rfl rfl (fun K hK => ?_)
      change Oper.wp _ _ _ (w5.alloc (.cells cells.toArray 62)) _ _
      generalize hw6 : w5.alloc (.cells cells.toArray 62) = w6 at *
      refine wp_append_rd w6 _ _ 55 rfl 0 62 ir zr 47 120 Try.underlying55 hir hzr hzz2 hzz3 hzs (by omega) (.slice RA2 rows.length rc2) rows.length cs2 rfl
        (own_fr gro (Fr.of_below (M := NoB) hb6) (fun _ _ e => e)) (some ⟨w5.heap.size, 0, none⟩) 1 1 cells rfl (by omega) hsrc hcone (by simp only [maxLen]; omega) (by omega) (Nat.zero_le _) ?_
      intro A7 c7 w7 hown7 hg7 hat7
      have hgA : ∀ j, (Value.slice RA2 rows.length rc2).ownBlock = some j → j ≠ b ∧ j ≠ kb ∧ j ≠ nb ∧ j ≠ g ∧ F j := by
        intro j hj
        have := grb j hj
        have h2 := H1.out j this.1
        have h3 := Hkb.out; have h4 := Hnb.out
        exact ⟨this.2, by omega, by omega, by omega, this.1⟩
      have hS7 : w7.cell? ⟨b, 1, none⟩ = some (.slice RA2 rows.length rc2) ∧ w7.rangeAt kb 0 (bs k) ∧ w7.rangeAt nb 0 (bs n) := by
        obtain ⟨q1, q2, q3⟩ := SK.out _ hb6
        refine ⟨hg7.cell q1 (fun e => (hgA b e.symm).1 rfl), fun j v hv => hg7.cell (q2 j v hv) (fun e => (hgA kb e.symm).2.1 rfl), fun j v hv => hg7.cell (q3 j v hv) (fun e => (hgA nb e.symm).2.2.1 rfl)⟩
      refine hK _ _ ⟨fun _ => hS7, ?_⟩
      clear hK K
      simp only [Act.put, List.setIfInBounds_toArray, List.set_cons_zero, List.set_cons_succ]
      have cb7 := hS7.1
      have fb7 : w7.frozen? ⟨b, 1, none⟩ = false := by
        rw [World.frozen?_of_block (w := w6) (hg7.block b (Nat.lt_of_lt_of_le (g1 b g2) hb6.size) (fun e => (hgA b e.symm).1 rfl)), hb6.frozen (g1 b g2)]
        exact frozen_of_row w2 b 1 _ _ gb
      have Hw6 := Lib.hid hw6; have Hcells := Lib.hid hcells; have H56 := Lib.hid h56
      clear hw6 hcells h56
      iterate 3 (
        refine ord_run rfl rfl (fun K hK => ?_)
        go_wp2_with fail
        refine ⟨fun hlt => absurd hlt (by omega), ?_⟩)
      refine ord_end ?_
      go_wp2
      go_ret
      have e16 : 16 + pn - 8 = 8 + pn := by omega
      rw [e16] at gss gl hown2
      have O5' := O5.out
      rw [e16] at O5'
      have hso : le8 rows.length ++ drawn (8 + pn) src = sealOf rows.length pn src := rfl
      rw [hso] at O5' hown2
      have s23 : w2.heap.size ≤ w3.heap.size := hb3.size
      have s34 := O4.out.2.size
      have s45 := O5'.2.size
      have s56 := H56.out
      have s67 := hg7.size
      have hfr27 : Fr (fun j => (Value.slice RA2 rows.length rc2).ownBlock = some j) w2 w7 :=
        (Fr.of_below hb6).trans (Fr.of_grown hg7) (fun i _ e => e.symm)
      have hfr28 : Fr F w2 (w7.setCell ⟨b, 1, none⟩ (.slice A7 (rows.length + 1) c7)) :=
        Fr.setCell (hfr27.mono (fun i _ e => (hgA i e).2.2.2.2)) (.inl g2) _
      have hbw7 : w7.heap[b]? = some (.cells #[.slice SA2 sn2 sc2, .slice RA2 rows.length rc2] 57 (0, 0)) := by
        rw [hfr27.block b (g1 b g2) (fun e => (hgA b e).1 rfl)]; exact gb
      have h78 : Fr (fun j => j = b) w7 (w7.setCell ⟨b, 1, none⟩ (.slice A7 (rows.length + 1) c7)) := (Fr.refl (fun j => j = b) _).setCell (p := ⟨b, 1, none⟩) (.inl rfl) _
      have hD2 : ∀ j, D2 j → j < w2.heap.size ∧ ¬ (F j ∧ (j = b ∨ (Value.slice RA2 rows.length rc2).ownBlock = some j)) := fun j hj => ⟨g1 j (gD j hj).1, by
        rintro ⟨_, h | h⟩
        · exact (gD j hj).2.1 h
        · exact (gD j hj).2.2 h⟩
      have hfr28' : Fr (fun j => F j ∧ (j = b ∨ (Value.slice RA2 rows.length rc2).ownBlock = some j)) w2 (w7.setCell ⟨b, 1, none⟩ (.slice A7 (rows.length + 1) c7)) :=
        Fr.setCell (hfr27.mono (fun i _ e => ⟨(hgA i e).2.2.2.2, .inr e⟩)) (.inl ⟨g2, .inl rfl⟩) _
      have hs8 : (w7.setCell ⟨b, 1, none⟩ (.slice A7 (rows.length + 1) c7)).heap.size = w7.heap.size := by simp [World.setCell]
      -- the three clones, in the last world
      have clone : ∀ (wa wz : World) (A : Option Addr) (n c : Nat) (l : List UInt8), w2.heap.size ≤ wa.heap.size → wz.ownsRow wa.heap.size 5 1 (.slice A n c) n (bs l) → Below wz.heap.size wz w5 → wz.heap.size ≤ w5.heap.size →
          SlV (w7.setCell ⟨b, 1, none⟩ (.slice A7 (rows.length + 1) c7)) (fun j => D2 j ∨ (w2.heap.size ≤ j ∧ j < w5.heap.size)) (.slice A n c) l := by
        intro wa wz A n c l ha ho hbz hz
        have h1 := Sl.of_own ho
        have f5 : Fr (fun j => j = b ∨ (Value.slice RA2 rows.length rc2).ownBlock = some j) w5 (w7.setCell ⟨b, 1, none⟩ (.slice A7 (rows.length + 1) c7)) := by
          have h56 : Fr NoB w5 w6 := by rw [← Hw6.out]; exact (Fr.refl _ _).alloc _
          exact Fr.setCell ((Fr.mono h56 (fun _ _ e => e.elim)).trans (Fr.of_grown hg7) (fun i _ e => .inr e.symm)) (.inl (.inl rfl)) _
        have h2 := (h1.fr (M := NoB) (Fr.of_below hbz) (fun k hk => ⟨hk.2.1, id⟩)).fr f5 (fun k hk => ⟨by omega, by
          rintro (h | h)
          · have := g1 b g2; omega
          · have := g1 k (hgA k h).2.2.2.2; omega⟩)
        exact ⟨A, n, c, rfl, h2.mono (fun k hk => .inr ⟨by omega, by omega⟩)⟩
      have b35 : Below w3.heap.size w3 w5 := O4.out.2.trans (O5'.2.mono s34)
      have hrow : RowOk (w7.setCell ⟨b, 1, none⟩ (.slice A7 (rows.length + 1) c7)) (fun j => D2 j ∨ (w2.heap.size ≤ j ∧ j < w5.heap.size)) ⟨k, n, head, plain, sealOf rows.length pn src⟩ cells := by
        refine ⟨hk, hn, by have := Hh.out.len; show head.length ≤ 140737488355000; omega, by have := Hp.out.len; show plain.length ≤ 1024; omega, ?_, _, _, _, Hcells.out.symm, ?_, ?_, ?_⟩
        · have := O5'.1.1; rw [bs_length] at this; show (sealOf rows.length pn src).length ≤ 2048; omega
        · exact clone w2.drew w3 _ _ _ _ (Nat.le_refl _) O3.out.1 b35 (by omega)
        · exact clone w3 w4 _ _ _ _ s23 O4.out.1 O5'.2 s45
        · exact clone w4 w5 _ _ _ _ (by omega) O5'.1 (Below.refl _ _) (Nat.le_refl _)
      have hgb : g ≠ b := by omega
      have hg2 : g < w2.heap.size := (hown2.lt g rfl).2
      refine ⟨fun j => F j ∨ (w2.heap.size ≤ j ∧ j < w7.heap.size), g, 16 + pn, rfl, ?_, ?_, ?_, ?_, ?_⟩
      · refine own_fr hown2 hfr28' (fun j hj => ?_)
        simp [Value.ownBlock] at hj
        subst hj
        exact fun h => hgF.out h.1
      · refine ⟨fun j hj => ?_, .inl g2, SA2, sn2, sc2, A7, rows.length + 1, c7, cs2 ++ cells, fun j => D2 j ∨ (w2.heap.size ≤ j ∧ j < w5.heap.size), setCell_block _ _ _ _ _ _ hbw7, ?_, (gss.fr hfr28' hD2).mono (fun _ h => .inl h), by simp, ?_, ?_, ?_, gl⟩
        · rw [hs8]
          rcases hj with hj | hj
          · have := g1 j hj; omega
          · exact hj.2
        · rintro j (hj | hj)
          · refine ⟨.inl (gD j hj).1, (gD j hj).2.1, ?_⟩
            rcases hat7 with e | e
            · rw [e]; exact (gD j hj).2.2
            · rw [e]; intro h; injection h with h; have := g1 j (gD j hj).1; omega
          · refine ⟨.inr ⟨hj.1, by omega⟩, by have := g1 b g2; omega, ?_⟩
            rcases hat7 with e | e
            · rw [e]; intro h; have := g1 j (hgA j h).2.2.2.2; omega
            · rw [e]; intro h; injection h with h; omega
        · refine own_fr hown7 h78 (fun j hj e => ?_)
          subst e
          rcases hat7 with e | e
          · rw [e] at hj; exact (hgA j hj).1 rfl
          · rw [e] at hj; injection hj with hj; have := g1 j g2; omega
        · intro j hj
          rcases hat7 with e | e
          · rw [e] at hj; exact ⟨.inl (hgA j hj).2.2.2.2, (hgA j hj).1⟩
          · have hlt := (hown7.lt j hj).2
            rw [e] at hj; injection hj with hj
            exact ⟨.inr ⟨by omega, hlt⟩, by have := g1 b g2; omega⟩
        · exact RowsAt.append hrow rows cs2 (RowsAt.mono (fun _ h => .inl h) rows cs2 (RowsAt.fr hfr28' hD2 rows cs2 gr))
      · rintro j (hj | hj)
        · exact .inl hj
        · right; omega
      · rintro (h | h)
        · exact hgF.out h
        · omega
      · exact (hG2.out.mono (fun i hi h => h.elim id (fun e => by omega))).trans hfr28 (fun i _ h => h)
end Go.Proofs.Ytnejcciociinmaa
