/- Both boxes side by side; sealed. -/
import Derived.Test.YtnejcciociinmaaRb2
import Derived.Test.YtnejcciociinmaaOpnB
import Derived.Test.YtnejcciociinmaaByb
namespace Go.Proofs.Ytnejcciociinmaa
open Go.RowKit
attribute [local go_sem] yld yldUpon_value

/-- each row bears its number -/
def NumRows (rows : List BRow) : Prop := ∀ i (h : i < rows.length), (∃ p s, rows[i].sealed = sealOf i p s) ∧ rows[i].plain.length ≤ 2048
theorem NumRows.nil : NumRows [] := fun i h => by simp at h
theorem NumRows.snoc {rows : List BRow} (h : NumRows rows) (k n head plain : List UInt8) (p : Nat) (s : List UInt8) (hp : plain.length ≤ 2048) : NumRows (rows ++ [⟨k, n, head, plain, sealOf rows.length p s⟩]) := fun i hi => by
  by_cases h1 : i < rows.length
  · rw [List.getElem_append_left h1]; exact h i h1
  · have h2 : i = rows.length := by rw [List.length_append] at hi; simp at hi; omega
    subst h2
    refine ⟨⟨p, s, ?_⟩, ?_⟩
    · rw [List.getElem_append_right (Nat.le_refl _)]
      simp
    · rw [List.getElem_append_right (Nat.le_refl _)]
      simpa using hp
theorem findP_openP {rows : List BRow} (h : NumRows rows) (hl : rows.length ≤ 1000) (k n head sealed : List UInt8) : findP rows k n head sealed = openP rows k n head sealed := by
  have hop : ∀ i (hi : i < rows.length), opens rows[i] k n head sealed = true → numOf sealed rows.length = (i : Int) := fun i hi ho => by
    obtain ⟨⟨p, s, e⟩, _⟩ := h i hi
    simp only [opens, Bool.and_eq_true, beq_iff_eq] at ho
    rw [← ho.2, e]
    exact numOf_seal i p rows.length s hi hl
  unfold openP
  rcases numOf_cases sealed rows.length with hno | ⟨a, ha, hlt⟩
  · rw [if_pos (by rw [hno]; decide)]
    refine findP_none (fun j hj => ?_)
    cases ho : opens rows[j] k n head sealed with
    | false => rfl
    | true => have := hop j hj ho; omega
  · rw [if_neg (by omega), ha, Int.toNat_natCast, List.getElem?_eq_getElem hlt]
    cases ho : opens rows[a] k n head sealed with
    | true =>
      rw [findP_take hlt (fun j hj hji => by
        cases h2 : opens rows[j] k n head sealed with
        | false => rfl
        | true => have := hop j hj h2; omega) ho]
      unfold opens at ho
      simp only [ho, if_true]
    | false =>
      rw [findP_none (fun j hj => by
        cases h2 : opens rows[j] k n head sealed with
        | false => rfl
        | true =>
          have h3 := hop j hj h2
          have h4 : j = a := by omega
          subst h4
          rw [ho] at h2; cases h2)]
      unfold opens at ho
      simp only [ho]
      rfl
theorem findP_len {rows : List BRow} (h : NumRows rows) (k n head sealed : List UInt8) : ((findP rows k n head sealed).getD []).length ≤ 2048 := by
  unfold findP
  cases hf : rows.find? (fun r => opens r k n head sealed) with
  | none => simp
  | some r =>
    obtain ⟨i, hi, e⟩ := List.getElem_of_mem (List.mem_of_find?_eq_some hf)
    have := (h i hi).2
    rw [e] at this
    simpa using this
/-- both boxes, what was sealed, and where it lies -/
structure PB (w wr : World) (b : Nat) (F : Nat → Prop) (src : List UInt8) (rows : List BRow) (b2 : Nat) (F2 : Nat → Prop) (l : List UInt8) (d : Nat) (A : Option Addr) (k c : Nat) (vs : List Value) (D : Nat → Prop) (outs : List (List UInt8)) : Prop where
  box : BoxAt wr b F src rows
  rbox : RBoxAt wr b2 F2 l d rows
  own : wr.ownsRow w.heap.size 22 1 (.slice A k c) k vs
  vsa : VsAt wr D outs vs
  new : ∀ j, (F j ∨ F2 j) → w.heap.size ≤ j
  dis : ∀ j, F j → ¬ F2 j
  hown : ∀ j, (Value.slice A k c).ownBlock = some j → ¬ (F j ∨ F2 j)
  hD : ∀ j, D j → w.heap.size ≤ j ∧ j < wr.heap.size ∧ ¬ (F j ∨ F2 j) ∧ (Value.slice A k c).ownBlock ≠ some j
  len : ∀ o ∈ outs, 16 ≤ o.length ∧ o.length ≤ 2048
  srcE : src = l.drop d
  num : NumRows rows
  bel : Below w.heap.size w wr
section
variable {w wr wx : World} {b : Nat} {F : Nat → Prop} {src : List UInt8} {rows : List BRow} {b2 : Nat} {F2 : Nat → Prop} {l : List UInt8} {d : Nat} {A : Option Addr} {k c : Nat} {vs : List Value} {D : Nat → Prop} {outs : List (List UInt8)}
/-- the blocks that are theirs -/
def PBf (F F2 : Nat → Prop) (A : Option Addr) (k c : Nat) (D : Nat → Prop) (j : Nat) : Prop := F j ∨ F2 j ∨ (Value.slice A k c).ownBlock = some j ∨ D j
theorem PB.lt (h : PB w wr b F src rows b2 F2 l d A k c vs D outs) {j : Nat} (hj : PBf F F2 A k c D j) : w.heap.size ≤ j ∧ j < wr.heap.size := by
  rcases hj with hj | hj | hj | hj
  · exact ⟨h.new j (.inl hj), h.box.1 j hj⟩
  · exact ⟨h.new j (.inr hj), h.rbox.1 j hj⟩
  · exact h.own.lt j hj
  · exact ⟨(h.hD j hj).1, (h.hD j hj).2.1⟩
theorem PB.fr {M : Nat → Prop} (h : PB w wr b F src rows b2 F2 l d A k c vs D outs) (hf : Fr M wr wx) (hM : ∀ j, PBf F F2 A k c D j → ¬ M j) (hM2 : ∀ j, M j → w.heap.size ≤ j) : PB w wx b F src rows b2 F2 l d A k c vs D outs :=
  ⟨h.box.fr hf (fun j hj => hM j (.inl hj)), h.rbox.fr hf (fun j hj => hM j (.inr (.inl hj))), own_fr h.own hf (fun j hj => hM j (.inr (.inr (.inl hj)))), VsAt.fr hf (fun j hj => ⟨(h.hD j hj).2.1, hM j (.inr (.inr (.inr hj)))⟩) outs vs h.vsa, h.new, h.dis, h.hown,
    fun j hj => ⟨(h.hD j hj).1, Nat.lt_of_lt_of_le (h.hD j hj).2.1 hf.size, (h.hD j hj).2.2⟩, h.len, h.srcE, h.num, ((Fr.of_below h.bel).trans hf (fun _ _ e => e)).to_below (fun i hi e => by have := hM2 i e; omega)⟩
theorem PB.old (h : PB w wr b F src rows b2 F2 l d A k c vs D outs) (hb : Below wr.heap.size wr wx) : PB w wx b F src rows b2 F2 l d A k c vs D outs := h.fr (Fr.of_below (M := NoB) hb) (fun _ _ e => e) (fun _ e => e.elim)
/-- blocks that are new since a world in which they stood -/
theorem PB.fr_new {w1 : World} (h1 : PB w w1 b F src rows b2 F2 l d A k c vs D outs) (h : PB w wr b F src rows b2 F2 l d A k c vs D outs) {M : Nat → Prop} (hf : Fr M wr wx) (hM : ∀ j, M j → w1.heap.size ≤ j) : PB w wx b F src rows b2 F2 l d A k c vs D outs :=
  h.fr hf (fun j hj e => by have := (h1.lt hj).2; have := hM j e; omega) (fun j e => Nat.le_trans h1.bel.size (hM j e))
end
theorem shl_byte (r : Nat) (h : r < 8) : ∃ x : UInt8, (2 : Int) ^ r % 256 = (x.toNat : Int) := ⟨UInt8.ofNat (2 ^ r), by
  match r, h with
  | 0, _ => decide
  | 1, _ => decide
  | 2, _ => decide
  | 3, _ => decide
  | 4, _ => decide
  | 5, _ => decide
  | 6, _ => decide
  | 7, _ => decide⟩
set_option maxRecDepth 100000 in
set_option maxHeartbeats 2000000 in
theorem sealed_any {w wr : World} {b : Nat} {F : Nat → Prop} {src : List UInt8} {rows : List BRow} {b2 : Nat} {F2 : Nat → Prop} {l : List UInt8} {d : Nat} {A : Option Addr} {k c : Nat} {vs : List Value} {D : Nat → Prop} {outs : List (List UInt8)}
    (h : PB w wr b F src rows b2 F2 l d A k c vs D outs) (hk : k ≤ 1000) (hko : outs.length = k) (y : OpB) (hy : y.Ok wr (Old w)) (hn1 : y.txn ≤ 2048) (hwa : (Lit.int .i64 y.aa).wf = true) (hwt : (Lit.int .i64 y.tn).wf = true) :
    Calls Try.prog 16 #[.agg y.cells.toArray, .slice A k c] wr fun e w' => ∃ A' n' c', e = .returned (.slice A' n' c') ∧ (∃ S, Sl w' (fun j => j < w.heap.size ∨ (wr.heap.size ≤ j ∧ j < w'.heap.size)) A' n' c' S) ∧ n' ≤ 2048 ∧ Below wr.heap.size wr w' := by
  have H := Lib.hid h; have HY := Lib.hid hy; have HKO := Lib.hid hko
  have BW : Hid (w.heap.size ≤ wr.heap.size) := h.bel.size
  clear h hy hko
  obtain ⟨sl, kb, nb, hdA, hdn, hdc, hd, txA, txn, txc, tx, aa, tn⟩ := y
  have hn1 : txn ≤ 2048 := hn1
  have hwa1 := bounds_i64 (show (Lit.int .i64 aa).wf = true from hwa)
  have hwt1 := bounds_i64 (show (Lit.int .i64 tn).wf = true from hwt)
  have ST : Hid (Sl wr (Old w) txA txn txc tx) := HY.out.tx
  clear HY hwa hwt
  show Calls Try.prog 16 #[.agg #[.bool sl, .int .u8 (kb.toNat : Int), .int .u8 (nb.toNat : Int), .slice hdA hdn hdc, .slice txA txn txc, .int .i64 aa, .int .i64 tn], .slice A k c] wr _
  obtain ⟨w1, hw1⟩ : ∃ w1, w1 = wr.alloc (.cells #[.bool sl, .int .u8 (kb.toNat : Int), .int .u8 (nb.toNat : Int), .slice hdA hdn hdc, .slice txA txn txc, .int .i64 aa, .int .i64 tn] 35) := ⟨_, rfl⟩
  have hb1 : w1.heap[wr.heap.size]? = some (.cells #[.bool sl, .int .u8 (kb.toNat : Int), .int .u8 (nb.toNat : Int), .slice hdA hdn hdc, .slice txA txn txc, .int .i64 aa, .int .i64 tn] 35 (0, 0)) := by rw [hw1]; exact heap_alloc_new wr _
  have B1 : Hid (Below wr.heap.size wr w1) := by rw [hw1]; exact Below.al _ _
  have c4 : w1.cell? ⟨wr.heap.size, 4, none⟩ = some (.slice txA txn txc) := by rw [cell_of_row _ _ 4 _ _ _ hb1]; rfl
  have c5 : w1.cell? ⟨wr.heap.size, 5, none⟩ = some (.int .i64 aa) := by rw [cell_of_row _ _ 5 _ _ _ hb1]; rfl
  have c6 : w1.cell? ⟨wr.heap.size, 6, none⟩ = some (.int .i64 tn) := by rw [cell_of_row _ _ 6 _ _ _ hb1]; rfl
  have lw := block_lt_of c4
  have X4 := Lib.hid c4; have X5 := Lib.hid c5; have X6 := Lib.hid c6
  subst hw1
  clear hb1
  have own : Hid (Sl (wr.alloc (.cells #[.bool sl, .int .u8 (kb.toNat : Int), .int .u8 (nb.toNat : Int), .slice hdA hdn hdc, .slice txA txn txc, .int .i64 aa, .int .i64 tn] 35)) (Old w) txA txn txc tx) := ST.out.belF B1.out (fun k hk => Nat.lt_of_lt_of_le hk BW.out)
  by_cases ha : aa < 1
  · go_enter Try.func16, Try.ntmps16
    go_wp2_with fail
    go_ret
    exact ⟨txA, txn, txc, rfl, ⟨tx, own.out.mono (fun k hk => .inl hk)⟩, hn1, B1.out⟩
  · have ha1 : 1 ≤ aa := by omega
    by_cases hk0 : k = 0
    · subst hk0
      go_enter Try.func16, Try.ntmps16
      go_wp2_with fail
      go_ret
      exact ⟨txA, txn, txc, rfl, ⟨tx, own.out.mono (fun k hk => .inl hk)⟩, hn1, B1.out⟩
    · have hkne : ((k : Int) == 0) = false := by simp; omega
      have hkpos : 1 ≤ k := by omega
      have hsub : -9223372036854775808 ≤ aa - 1 := by omega
      obtain ⟨p, hp, hpk⟩ : ∃ p : Nat, (if (k : Int) < 1 then 0 else (aa - 1) % (k : Int)) = (p : Int) ∧ p < k := by
        rw [if_neg (by omega)]
        have h1 := Int.emod_nonneg (aa - 1) (show (k : Int) ≠ 0 by omega)
        have h2 := Int.emod_lt_of_pos (aa - 1) (show (0 : Int) < (k : Int) by omega)
        exact ⟨((aa - 1) % (k : Int)).toNat, by omega, by omega⟩
      have HP := Lib.hid hp
      have hpo : p < outs.length := by rw [HKO.out]; exact hpk
      obtain ⟨ge, ce, e2, hge, hle⟩ := World.ownsRow.form H.out.own (by omega)
      injection e2 with e2 _ e3; subst e2; subst e3
      obtain ⟨v, hv, A1, n1, c1, rfl, s1⟩ := VsAt.at_ outs vs H.out.vsa p (by rw [HKO.out]; exact hpk)
      have hcv : wr.cell? ⟨ge, p, none⟩ = some (.slice A1 n1 c1) := by
        have := World.ownsRow.cellAt H.out.own p (by omega)
        rw [this]; exact hv
      have hlen := H.out.len outs[p] (List.getElem_mem _)
      have hn1' : 16 ≤ n1 ∧ n1 ≤ 2048 := by have := s1.len; omega
      have S1 : Hid (Sl (wr.alloc (.cells #[.bool sl, .int .u8 (kb.toNat : Int), .int .u8 (nb.toNat : Int), .slice hdA hdn hdc, .slice txA txn txc, .int .i64 aa, .int .i64 tn] 35)) D A1 n1 c1 outs[p]) := s1.belF B1.out (fun j hj => (H.out.hD j hj).2.1)
      have DL : Hid (∀ j, D j → j < (wr.alloc (.cells #[.bool sl, .int .u8 (kb.toNat : Int), .int .u8 (nb.toNat : Int), .slice hdA hdn hdc, .slice txA txn txc, .int .i64 aa, .int .i64 tn] 35)).heap.size) := Lib.hid (fun j hj => Nat.lt_of_lt_of_le (H.out.hD j hj).2.1 B1.out.size)
      have hcv1 := cell_bel hcv B1.out
      have lge := block_lt_of hcv1
      have hp0 : (0 : Int) ≤ (p : Int) := by omega
      have hpI : (p : Int) < (k : Int) := by omega
      generalize outs[p]'(by rw [HKO.out]; exact hpk) = O at S1
      clear hp hv s1 hcv hlen hle
      go_enter Try.func16, Try.ntmps16
      go_wp2_with fail
      generalize wr.alloc (.cells #[.bool sl, .int .u8 (kb.toNat : Int), .int .u8 (nb.toNat : Int), .slice hdA hdn hdc, .slice txA txn txc, .int .i64 aa, .int .i64 tn] 35) = w1 at B1 c4 c5 c6 lw X4 X5 X6 own S1 DL hcv1 lge ⊢
      refine (Pick_any (aa - 1) k w1 (by omega)).mono ?_
      rintro e w' ⟨rfl, rfl⟩
      rw [HP.out]
      go_wp2_with fail
      refine (CopyBytes_sl S1.out DL.out (by omega)).mono ?_
      rintro e w2 ⟨A2, c2, rfl, ho2, hb2⟩
      have O2 := Lib.hid ho2
      have B2 := Lib.hid (Below.tr B1.out hb2)
      have Z12 : Hid (wr.heap.size ≤ w1.heap.size) := B1.out.size
      have d6 := cell_bel X6.out hb2
      have l6 := block_lt_of d6
      clear ho2 hb2 c4 c5 c6 lw X4 X5 X6 hcv1 lge own
      by_cases ht : 0 < tn
      · have hsub2 : -9223372036854775808 ≤ tn - 1 := by omega
        obtain ⟨N, hN⟩ : ∃ N : Nat, 8 * (n1 : Int) = (N : Int) := ⟨8 * n1, by omega⟩
        have HNN := Lib.hid hN
        obtain ⟨q, hq, hqN⟩ : ∃ q : Nat, (if (N : Int) < 1 then 0 else (tn - 1) % (N : Int)) = (q : Int) ∧ q < N := by
          rw [if_neg (by omega)]
          have h1 := Int.emod_nonneg (tn - 1) (show (N : Int) ≠ 0 by omega)
          have h2 := Int.emod_lt_of_pos (tn - 1) (show (0 : Int) < (N : Int) by omega)
          exact ⟨((tn - 1) % (N : Int)).toNat, by omega, by omega⟩
        have HQ := Lib.hid hq
        have hNb : N ≤ 20000 := by omega
        clear hq
        go_wp2_with fail
        refine (Pick_any (tn - 1) N w2 (by omega)).mono ?_
        rintro e w' ⟨rfl, rfl⟩
        rw [HQ.out]
        obtain ⟨q8, r, hq8, hr, hr8⟩ : ∃ q8 r : Nat, (q : Int) / 8 = (q8 : Int) ∧ (q : Int) % 8 = (r : Int) ∧ r < 8 := ⟨q / 8, q % 8, by omega, by omega, by omega⟩
        have hq0 : (0 : Int) ≤ (q : Int) := by omega
        have hqt : (q : Int).tdiv 8 = (q8 : Int) := by rw [Int.tdiv_eq_ediv_of_nonneg hq0]; exact hq8
        have hrt : (q : Int).tmod 8 = (r : Int) := by rw [Int.tmod_eq_emod_of_nonneg hq0]; exact hr
        have hq8n : q8 < n1 := by have := HNN.out; omega
        have hq8I : (q8 : Int) < (n1 : Int) := by omega
        have hq80 : (0 : Int) ≤ (q8 : Int) := by omega
        obtain ⟨x, hx⟩ := shl_byte r hr8
        obtain ⟨g2, c2', e4, hg2, hl2⟩ := World.ownsRow.form O2.out (by omega)
        injection e4 with e4 _ e5; subst e4; subst e5
        have hOl : Hid (O.length = n1) := S1.out.len
        obtain ⟨y, hy⟩ : ∃ y, y = O[q8]'(by rw [hOl.out]; exact hq8n) := ⟨_, rfl⟩
        have hcell : w2.cell? ⟨g2, q8, none⟩ = some (.int .u8 (y.toNat : Int)) := by
          rw [World.ownsRow.cellAt O2.out q8 (by omega), bs_get O q8 (by rw [hOl.out]; exact hq8n), hy]; rfl
        have hz := World.ownsRow.frozenAt O2.out q8
        have hxy := xor_byte y x
        obtain ⟨o9, g9⟩ := World.ownsRow.stored O2.out q8 (.int .u8 ((y ^^^ x).toNat : Int))
        have O9 : Hid ((w2.setCell ⟨g2, q8, none⟩ (.int .u8 ((y ^^^ x).toNat : Int))).ownsRow w1.heap.size 5 1 (.slice (some ⟨g2, 0, none⟩) n1 c2) n1 (bs (O.set q8 (y ^^^ x)))) := by rw [← bs_set]; exact o9
        have G9 := Lib.hid g9
        have HG2 : Hid (w1.heap.size ≤ g2) := hg2
        generalize hzz : y ^^^ x = z at hxy O9 G9
        clear hN hq8 hr hy o9 g9 hg2 hl2 hzz
        go_wp2_with fail
        go_ret
        refine ⟨some ⟨g2, 0, none⟩, n1, c2, rfl, ⟨_, (Sl.of_own O9.out).mono (fun k hk => .inr ⟨Nat.le_trans Z12.out hk.1, hk.2.1⟩)⟩, hn1'.2, B2.out.grown G9.out B2.out.size (fun j hj => by injection hj with hj; have := HG2.out; have := Z12.out; omega)⟩
      · go_wp2_with fail
        go_ret
        exact ⟨A2, n1, c2, rfl, ⟨O, (Sl.of_own O2.out).mono (fun k hk => .inr ⟨Nat.le_trans Z12.out hk.1, hk.2.1⟩)⟩, hn1'.2, B2.out⟩
end Go.Proofs.Ytnejcciociinmaa
