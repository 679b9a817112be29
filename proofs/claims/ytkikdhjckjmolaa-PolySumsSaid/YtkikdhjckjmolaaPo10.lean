/- Poly: clamp. -/
import Derived.Test.YtkikdhjckjmolaaPo9
namespace Go.Proofs.Ytkikdhjckjmolaa
open Go.RowKit
attribute [local go_sem] yld yldUpon_value

/-- a key's bytes, the places below n that are res modulo 4 (from lo on) anded with m -/
def clampS (l : List UInt8) (res lo : Nat) (m : UInt8) (n : Nat) : List UInt8 := (List.range 32).map fun i => if i % 4 = res ∧ lo ≤ i ∧ i < n then l.getD i 0 &&& m else l.getD i 0
theorem clampS_len (l : List UInt8) (res lo : Nat) (m : UInt8) (n : Nat) : (clampS l res lo m n).length = 32 := by simp [clampS]
theorem clampS_0 {l : List UInt8} (h : l.length = 32) (res lo : Nat) (m : UInt8) (n : Nat) (hn : n ≤ lo) : clampS l res lo m n = l := by
  apply List.ext_getElem
  · rw [clampS_len, h]
  · intro i h1 h2
    simp only [clampS, List.getElem_map, List.getElem_range]
    rw [if_neg (by omega)]
    simp [List.getD, h2]
theorem clampS_get (l : List UInt8) (res lo : Nat) (m : UInt8) (n i : Nat) (h : i < 32) (hn : n ≤ i) : (clampS l res lo m n)[i]'(by rw [clampS_len]; exact h) = l.getD i 0 := by
  simp only [clampS, List.getElem_map, List.getElem_range]
  rw [if_neg (by omega)]
theorem clampS_set (l : List UInt8) (res lo : Nat) (m : UInt8) (n : Nat) (h : n < 32) (hr : n % 4 = res) (hl : lo ≤ n) : (clampS l res lo m n).set n (l.getD n 0 &&& m) = clampS l res lo m (n + 4) := by
  apply List.ext_getElem
  · simp [clampS_len]
  · intro i h1 h2
    rw [List.getElem_set]
    simp only [clampS, List.getElem_map, List.getElem_range]
    by_cases e : n = i
    · subst e
      rw [if_pos rfl, if_pos ⟨hr, hl, by omega⟩]
    · rw [if_neg e]
      by_cases h3 : i % 4 = res ∧ lo ≤ i ∧ i < n
      · rw [if_pos h3, if_pos ⟨h3.1, h3.2.1, by omega⟩]
      · rw [if_neg h3, if_neg (by omega)]
/-- r's bytes -/
def clampL (l : List UInt8) : List UInt8 := (clampS (clampS l 3 3 15 19) 0 4 252 16).take 16
theorem clampL_len (l : List UInt8) : (clampL l).length = 16 := by simp [clampL, clampS_len]
theorem and8 (x m : UInt8) (n : Int) (hn : n = (m.toNat : Int)) : bits .and .u8 (x.toNat : Int) n = ((x &&& m).toNat : Int) := by
  subst hn
  show IntKind.u8.wrap ((BitVec.ofInt 8 (x.toNat : Int) &&& BitVec.ofInt 8 (m.toNat : Int)).toNat : Int) = _
  have hx := x.toNat_lt; have hm := m.toNat_lt
  have e1 : (BitVec.ofInt 8 (x.toNat : Int)).toNat = x.toNat := by rw [BitVec.toNat_ofInt]; omega
  have e2 : (BitVec.ofInt 8 (m.toNat : Int)).toNat = m.toNat := by rw [BitVec.toNat_ofInt]; omega
  have hz := (x &&& m).toNat_lt
  rw [BitVec.toNat_and, e1, e2, ← UInt8.toNat_and]
  generalize (x &&& m).toNat = z at hz ⊢
  simp [IntKind.wrap, IntKind.signed, IntKind.bits]
  omega
theorem Try.infoK : (Try.prog.info? 23).map (fun i => (i.zero, i.size, i.bytes)) = some (some (.agg (bs (List.replicate 32 0)).toArray), 32, 32) := by kernel_rfl

set_option maxRecDepth 100000 in
set_option maxHeartbeats 8000000 in
theorem clamp_any {w : World} {l : List UInt8} (hl : l.length = 32) :
    Calls Try.prog 19 #[.agg (bs l).toArray] w fun e w' => e = .returned (.agg (nl (limbsN (leN (clampL l)))).toArray) ∧ Below w.heap.size w w' := by
  have HL := Lib.hid hl
  clear hl
  obtain ⟨iN, hiN, zN, _, _⟩ := info_parts Try.infoNum
  have HiN := Lib.hid hiN; have HzN := Lib.hid zN
  clear hiN zN
  have uN := Lib.hid Try.underlying41
  obtain ⟨g1, hg1⟩ : ∃ g1, g1 = w.heap.size := ⟨_, rfl⟩
  have K0 : Hid (ByB (w.alloc (.cells (bs l).toArray 23)) 23 g1 32 l) := ByB.of_block (by rw [hg1]; exact heap_alloc_new w _) rfl HL.out (by decide)
  have B0 : Hid (Below w.heap.size w (w.alloc (.cells (bs l).toArray 23))) := Below.al _ _
  have HG := Lib.hid hg1
  clear hg1
  go_enter Try.func19, Try.ntmps19
  go_wp2_with (
    (with_reducible refine lst_alloc_d 2 rfl 41 rfl iN _ HiN.out HzN.out ?_ ?_)
    (focus rfl)
    intro g2 w2 Hg2 Hh2 hb2)
  have HI0 : Hid (ByB w2 23 g1 32 l ∧ w2.heap[g2]? = some (.cells (nl (List.replicate 5 0)).toArray 41 (0, 0)) ∧ Below w.heap.size w w2) := by
    refine ⟨K0.out.fr (M := NoB) (Fr.of_below hb2) id (by decide), Hh2.out, Below.tr B0.out hb2⟩
  have hne : g2 ≠ g1 := by have := Hg2.out.1; rw [World.size_alloc] at this; have := HG.out; omega
  have hg2 : Hid (w.heap.size ≤ g2) := by have := Hg2.out.1; rw [World.size_alloc] at this; show _ ≤ _; omega
  rw [← HG.out]
  clear K0 B0 Hg2 Hh2 hb2 HiN HzN
  go_loopw [3] (fun i wr => ∃ n : Nat, n ≤ 19 ∧ 3 ≤ n ∧ n % 4 = 3 ∧ i = .int .i64 (n : Nat) ∧ Hid (ByB wr 23 g1 32 (clampS l 3 3 15 n) ∧ wr.heap[g2]? = some (.cells (nl (List.replicate 5 0)).toArray 41 (0, 0)) ∧ Below w.heap.size w wr)) (fun i _ => 20 - (intOf i).toNat)
  case atStart => exact ⟨3, by decide, by decide, by decide, rfl, by rw [clampS_0 HL.out 3 3 15 3 (by decide)]; exact HI0.out⟩
  case round =>
    clear HI0
    obtain ⟨n, hn, hlo, hr, rfl, HI⟩ := hrel
    by_cases hlt : n < 16
    · have hnI : (n : Int) < 16 := by omega
      have hn0 : (0 : Int) ≤ (n : Int) := by omega
      have hn32 : n < 32 := by omega
      obtain ⟨x, hx⟩ : ∃ x, x = l.getD n 0 := ⟨_, rfl⟩
      obtain ⟨z, hz⟩ : ∃ z, z = x &&& 15 := ⟨_, rfl⟩
      have hand : bits .and .u8 (x.toNat : Int) 15 = (z.toNat : Int) := by rw [and8 x 15 15 rfl, hz]
      have hcell : wr.cell? ⟨g1, n, none⟩ = some (.int .u8 (x.toNat : Int)) := by
        have := HI.out.1.cell (i := n) (by rw [clampS_len]; exact hn32)
        rw [clampS_get l 3 3 15 n n hn32 (Nat.le_refl _), ← hx] at this
        exact this
      have hfz := World.ownsRow.frozenAt HI.out.1 n
      have hf : Fr (fun j => j = g1) wr (wr.setCell ⟨g1, n, none⟩ (.int .u8 (z.toNat : Int))) := (Fr.refl (fun j => j = g1) wr).setCell (p := ⟨g1, n, none⟩) (.inl rfl) _
      have G1 : Hid (ByB (wr.setCell ⟨g1, n, none⟩ (.int .u8 (z.toNat : Int))) 23 g1 32 (clampS l 3 3 15 (n + 4)) ∧ (wr.setCell ⟨g1, n, none⟩ (.int .u8 (z.toNat : Int))).heap[g2]? = some (.cells (nl (List.replicate 5 0)).toArray 41 (0, 0)) ∧ Below w.heap.size w (wr.setCell ⟨g1, n, none⟩ (.int .u8 (z.toNat : Int)))) := by
        refine ⟨?_, (hf.block g2 (Array.getElem?_eq_some_iff.1 HI.out.2.1).1 hne).trans HI.out.2.1, ((Fr.of_below HI.out.2.2).trans hf (fun i _ h => h)).to_below (fun i hi => by have := HG.out; omega)⟩
        have h := HI.out.1.set n z
        have e := clampS_set l 3 3 15 n hn32 hr hlo
        rw [← hx, ← hz] at e
        rw [e] at h; exact h
      have Hx := Lib.hid hx; have Hz := Lib.hid hz
      clear hx hz HI hf
      go_wp2_with fail
      go_roundw
      case rel => exact ⟨n + 4, by omega, by omega, by omega, by go_num, G1.out⟩
      case measure => simp [intOf]; omega
    · have hnI : decide ((n : Int) < 16) = false := decide_eq_false (by omega)
      have hn16 : n = 19 := by omega
      subst hn16
      obtain ⟨l1, hl1⟩ : ∃ l1, l1 = clampS l 3 3 15 19 := ⟨_, rfl⟩
      have HL1 : Hid (l1.length = 32) := by rw [hl1]; exact clampS_len _ _ _ _ _
      have HI0 : Hid (ByB wr 23 g1 32 l1 ∧ wr.heap[g2]? = some (.cells (nl (List.replicate 5 0)).toArray 41 (0, 0)) ∧ Below w.heap.size w wr) := by rw [hl1]; exact HI.out
      have Hl1 := Lib.hid hl1
      clear hl1 HI
      go_wp2_with fail
      go_loopw [4] (fun i wr => ∃ n : Nat, n ≤ 16 ∧ 4 ≤ n ∧ n % 4 = 0 ∧ i = .int .i64 (n : Nat) ∧ Hid (ByB wr 23 g1 32 (clampS l1 0 4 252 n) ∧ wr.heap[g2]? = some (.cells (nl (List.replicate 5 0)).toArray 41 (0, 0)) ∧ Below w.heap.size w wr)) (fun i _ => 20 - (intOf i).toNat)
      case atStart => exact ⟨4, by decide, by decide, by decide, rfl, by rw [clampS_0 HL1.out 0 4 252 4 (by decide)]; exact HI0.out⟩
      case round =>
        rename World => wi
        clear HI0
        obtain ⟨n, hn, hlo, hr, rfl, HI⟩ := hrel
        by_cases hlt : n < 16
        · have hnI : (n : Int) < 16 := by omega
          have hn0 : (0 : Int) ≤ (n : Int) := by omega
          have hn32 : n < 32 := by omega
          obtain ⟨x, hx⟩ : ∃ x, x = l1.getD n 0 := ⟨_, rfl⟩
          obtain ⟨z, hz⟩ : ∃ z, z = x &&& 252 := ⟨_, rfl⟩
          have hand : bits .and .u8 (x.toNat : Int) 252 = (z.toNat : Int) := by rw [and8 x 252 252 rfl, hz]
          have hcell : wi.cell? ⟨g1, n, none⟩ = some (.int .u8 (x.toNat : Int)) := by
            have := HI.out.1.cell (i := n) (by rw [clampS_len]; exact hn32)
            rw [clampS_get l1 0 4 252 n n hn32 (Nat.le_refl _), ← hx] at this
            exact this
          have hfz := World.ownsRow.frozenAt HI.out.1 n
          have hf : Fr (fun j => j = g1) wi (wi.setCell ⟨g1, n, none⟩ (.int .u8 (z.toNat : Int))) := (Fr.refl (fun j => j = g1) wi).setCell (p := ⟨g1, n, none⟩) (.inl rfl) _
          have G1 : Hid (ByB (wi.setCell ⟨g1, n, none⟩ (.int .u8 (z.toNat : Int))) 23 g1 32 (clampS l1 0 4 252 (n + 4)) ∧ (wi.setCell ⟨g1, n, none⟩ (.int .u8 (z.toNat : Int))).heap[g2]? = some (.cells (nl (List.replicate 5 0)).toArray 41 (0, 0)) ∧ Below w.heap.size w (wi.setCell ⟨g1, n, none⟩ (.int .u8 (z.toNat : Int)))) := by
            refine ⟨?_, (hf.block g2 (Array.getElem?_eq_some_iff.1 HI.out.2.1).1 hne).trans HI.out.2.1, ((Fr.of_below HI.out.2.2).trans hf (fun i _ h => h)).to_below (fun i hi => by have := HG.out; omega)⟩
            have h := HI.out.1.set n z
            have e := clampS_set l1 0 4 252 n hn32 hr hlo
            rw [← hx, ← hz] at e
            rw [e] at h; exact h
          have Hx := Lib.hid hx; have Hz := Lib.hid hz
          clear hx hz HI hf
          go_wp2_with fail
          go_roundw
          case rel => exact ⟨n + 4, by omega, by omega, by omega, by go_num, G1.out⟩
          case measure => simp [intOf]; omega
        · have hnI : decide ((n : Int) < 16) = false := decide_eq_false (by omega)
          have hn16 : n = 16 := by omega
          subst hn16
          have hS : Hid (Sl wi (fun j => j = g1) (some ⟨g1, 0, none⟩) 16 32 (clampL l)) := by
            have h := Sl.of_block HI.out.1.heap rfl 32 (clampS_len _ _ _ _ _)
            rw [← List.take_append_drop 16 (clampS l1 0 4 252 16)] at h
            have h2 := Sl.take_ (m := 16) h (by simp [clampS_len])
            have e : clampL l = (clampS l1 0 4 252 16).take 16 := by rw [Hl1.out]; rfl
            rw [e]; exact h2
          have hlt1 : Hid (g1 < wi.heap.size) := (Array.getElem?_eq_some_iff.1 HI.out.1.heap).1
          have hP : Hid (wi.heap[g2]? = some (.cells (nl (List.replicate 5 0)).toArray 41 (0, 0))) := HI.out.2.1
          have hBw : Hid (Below w.heap.size w wi) := HI.out.2.2
          have iN : Hid ((Try.prog.info? 41).map (·.size) = some (nl (limbsN (leN (clampL l)))).length) := by rw [nl_length, limbsN_len]; exact Try.sizeNum
          clear HI
          go_wp2_with fail
          refine (limbs_any hS.out (fun k e => by subst e; exact hlt1.out) (by decide)).mono ?_
          rintro e w5 ⟨rfl, hb5⟩
          have hP5 := Lib.hid (heap_bel hP.out hb5)
          have hB5 := Lib.hid (Below.tr hBw.out hb5)
          clear hb5 hP hBw hS
          go_wp2_with (
            (with_reducible refine lst_store_abs 41 (.tmp 2) (.tmp 24) rfl g2 41 (nl (List.replicate 5 0)).toArray (nl (limbsN (leN (clampL l)))).toArray rfl rfl hP5.out (by simpa using iN.out) (by simp [nl_length, limbsN_len]) (by simp; exact nl_oneCell _) ?_ ?_)
            (focus rfl)
            intro w10 Hh10 hg10)
          refine bodyPost_ret (v := .agg (nl (limbsN (leN (clampL l)))).toArray) ?_ rfl ⟨rfl, ?_⟩
          · exact results_cell Try.results19 rfl (run_loadVar_mid w10 g2 0 41 (nl (limbsN (leN (clampL l)))) _ (range_block Hh10.out) uN.out rfl iN.out)
          · exact hB5.out.grown hg10 hB5.out.size (fun j hj => by injection hj with hj; have := hg2.out; omega)
end Go.Proofs.Ytkikdhjckjmolaa
