/- The reference's box in memory; New, Open. -/
import Derived.Test.YtnejcciociinmaaBoxBa1
import Derived.Test.YtnejcciociinmaaReg
namespace Go.Proofs.Ytnejcciociinmaa
open Go.RowKit
attribute [local go_sem] yld yldUpon_value

/-- the reference's box at block b: its list, how many were drawn, its rows; F: all its blocks -/
def RBoxAt (w : World) (b : Nat) (F : Nat → Prop) (l : List UInt8) (d : Nat) (rows : List BRow) : Prop :=
  (∀ k, F k → k < w.heap.size) ∧ F b ∧ ∃ SA sn sc RA rn rc cs D, w.heap[b]? = some (.cells #[.slice SA sn sc, .int .i64 (d : Nat), .slice RA rn rc] 60 (0, 0)) ∧
    (∀ k, D k → F k ∧ k ≠ b ∧ (Value.slice RA rn rc).ownBlock ≠ some k) ∧ Sl w D SA sn sc l ∧ rn = rows.length ∧ w.ownsRow 0 64 47 (.slice RA rn rc) rn cs ∧
    (∀ k, (Value.slice RA rn rc).ownBlock = some k → F k ∧ k ≠ b) ∧ RowsAt w D rows cs ∧ l.length ≤ 140737488355000
theorem RBoxAt.fr {w w' : World} {b : Nat} {F M : Nat → Prop} {l : List UInt8} {d : Nat} {rows : List BRow} (h : RBoxAt w b F l d rows) (hf : Fr M w w') (hM : ∀ k, F k → ¬ M k) : RBoxAt w' b F l d rows := by
  obtain ⟨h1, h2, SA, sn, sc, RA, rn, rc, cs, D, hb, hD, hs, hrn, ho, hro, hr, hl⟩ := h
  have hDM : ∀ k, D k → k < w.heap.size ∧ ¬ M k := fun k hk => ⟨h1 k (hD k hk).1, hM k (hD k hk).1⟩
  exact ⟨fun k hk => Nat.lt_of_lt_of_le (h1 k hk) hf.size, h2, SA, sn, sc, RA, rn, rc, cs, D, (hf.block b (h1 b h2) (hM b h2)).trans hb, hD, hs.fr hf hDM, hrn, own_fr ho hf (fun k hk => hM k (hro k hk).1), hro, RowsAt.fr hf hDM rows cs hr, hl⟩
theorem RBoxAt.bel {w w' : World} {b : Nat} {F : Nat → Prop} {l : List UInt8} {d : Nat} {rows : List BRow} (h : RBoxAt w b F l d rows) (hb : Below w.heap.size w w') : RBoxAt w' b F l d rows := h.fr (Fr.of_below (M := NoB) hb) (fun _ _ e => e)
theorem RNew_any {F : Nat → Prop} {A : Option Addr} {n c : Nat} {l : List UInt8} {w : World} (h : Sl w F A n c l) (hF : ∀ k, F k → k < w.heap.size) (hl : n ≤ 140737488355000) :
    Calls Try.prog 9 #[.slice A n c] w fun e w' => ∃ b G, e = .returned (.pointer (some ⟨b, 0, none⟩)) ∧ RBoxAt w' b G l 0 [] ∧ Below w.heap.size w w' ∧ ∀ k, G k → w.heap.size ≤ k := by
  have H := Lib.hid h; have HF := Lib.hid hF
  have hll := h.len
  clear h hF
  go_enter Try.func9, Try.ntmps9
  go_wp2_with (go_at_call 21; refine (CopyBytes_sl H.out HF.out (by omega)).mono ?_; rintro e w1 ⟨A1, c1, rfl, hown, hbw⟩)
  go_ret
  have hs := hbw.size
  have hsl := (Sl.of_own hown).fr (M := NoB) (Fr.alloc (Fr.refl _ _) (.cells #[.slice A1 n c1, .int .i64 0, .slice none 0 0] 60)) (fun k hk => ⟨hk.2.1, id⟩)
  refine ⟨w1.heap.size, fun k => w.heap.size ≤ k ∧ k < w1.heap.size + 1, rfl, ⟨fun k hk => by simp; omega, ⟨by omega, by omega⟩, A1, n, c1, none, 0, 0, [], _, heap_alloc_new _ _, ?_, hsl, rfl, World.ownsRow_nil _ _ _ _, ?_, rfl, ?_⟩, hbw.alloc hs _, fun k hk => hk.1⟩
  · intro k hk
    exact ⟨⟨hk.1, by omega⟩, by omega, by simp [Value.ownBlock]⟩
  · intro k hk; simp [Value.ownBlock] at hk
  · omega
/-- what the reference opens: the first row that is the same -/
def findP (rows : List BRow) (k n head sealed : List UInt8) : Option (List UInt8) := (rows.find? (fun r => opens r k n head sealed)).map (·.plain)
theorem findP_take {rows : List BRow} {k n head sealed : List UInt8} {i : Nat} (hi : i < rows.length) (hno : ∀ j (h : j < rows.length), j < i → opens rows[j] k n head sealed = false) (hy : opens rows[i] k n head sealed = true) : findP rows k n head sealed = some rows[i].plain := by
  unfold findP
  have h : rows.find? (fun r => opens r k n head sealed) = some rows[i] := List.find?_eq_some_iff_getElem.2 ⟨hy, i, hi, rfl, fun j hj => by rw [hno j (by omega) hj]; rfl⟩
  rw [h]; rfl
theorem findP_none {rows : List BRow} {k n head sealed : List UInt8} (hno : ∀ j (h : j < rows.length), opens rows[j] k n head sealed = false) : findP rows k n head sealed = none := by
  unfold findP
  rw [List.find?_eq_none.2 (fun r hr => by
    obtain ⟨j, hj, rfl⟩ := List.getElem_of_mem hr
    rw [hno j hj]; decide)]; rfl
theorem Try.infoRRow : (Try.prog.info? 64).map (fun i => (i.zero.map (·.cells.size), i.size, i.bytes)) = some (some 47, 47, 120) := by kernel_rfl

set_option maxRecDepth 100000 in
set_option maxHeartbeats 4000000 in
theorem ROpen_any (b : Nat) (F G : Nat → Prop) (l : List UInt8) (d : Nat) (rows : List BRow) (w : World) (h : RBoxAt w b F l d rows) (k n : List UInt8) (hk : k.length = 32) (hn : n.length = 12)
    (HA : Option Addr) (hn1 hc1 : Nat) (head : List UInt8) (hh : Sl w G HA hn1 hc1 head) (PA : Option Addr) (pn pc : Nat) (sealed : List UInt8) (hp : Sl w G PA pn pc sealed) (hG : ∀ k, G k → k < w.heap.size)
    (hrl : rows.length ≤ 1000) (hb1 : hn1 ≤ 140737488355000) (hb2 : pn ≤ 140737488355000) :
    Calls Try.prog 18 #[.pointer (some ⟨b, 0, none⟩), .agg (bs k).toArray, .agg (bs n).toArray, .slice HA hn1 hc1, .slice PA pn pc] w fun e w' =>
      ∃ A' n' c', e = .returned (.tuple #[.slice A' n' c', .bool (findP rows k n head sealed).isSome]) ∧ Below w.heap.size w w' ∧ w'.ownsRow w.heap.size 5 1 (.slice A' n' c') n' (bs ((findP rows k n head sealed).getD [])) := by
  have H := Lib.hid h; have Hh := Lib.hid hh; have Hp := Lib.hid hp; have HG := Lib.hid hG
  have Hk := Lib.hid hk; have Hn := Lib.hid hn; have HB1 := Lib.hid hb1; have HB2 := Lib.hid hb2
  obtain ⟨h1, h2, SA, sn, sc, RA, rn, rc, cs, D, hb, hD, hss, hrn, hro, hrb, hr, hl⟩ := h
  have HR := Lib.hid hr; have HRO := Lib.hid hro
  have HRN := Lib.hid hrn
  have hrnb : rn ≤ 1000 := by omega
  have hblt := h1 b h2
  have Hb := Lib.hid hb
  have H1 := Lib.hid h1; have HD := Lib.hid hD
  obtain ⟨ir, hir, hzz⟩ := Option.map_eq_some_iff.1 Try.infoRRow
  simp only [Prod.mk.injEq] at hzz
  obtain ⟨hzz1, hzz2, hzz3⟩ := hzz
  obtain ⟨zr, hzr, hzs⟩ := Option.map_eq_some_iff.1 hzz1
  have Hir := Lib.hid hir; have Hzs := Lib.hid hzs; have Hzr := Lib.hid hzr; have Hsz := Lib.hid hzz2
  have uR := Lib.hid Try.underlying64
  have u1 := Lib.hid Try.underlying38
  have u2 := Lib.hid Try.underlying40
  have i1 : Hid ((Try.prog.info? 38).map (·.size) = some (bs k).length) := by rw [bs_length, hk]; exact Try.szK
  have i2 : Hid ((Try.prog.info? 40).map (·.size) = some (bs n).length) := by rw [bs_length, hn]; exact Try.szN
  have BB : Hid (Below w.heap.size w ((w.alloc (.cells (bs k).toArray 38)).alloc (.cells (bs n).toArray 40))) := Below.tr (Below.al _ _) (Below.al _ _)
  have hK2 := Lib.hid (heap_alloc2_old w (.cells (bs k).toArray 38) (.cells (bs n).toArray 40))
  have hN2 := Lib.hid (heap_alloc2_new w (.cells (bs k).toArray 38) (.cells (bs n).toArray 40))
  clear h2 hb h1 hD hss hro hrb hr hl hh hp hG hk hn hb1 hb2 hir hzz1 hzz2 hzz3 hzr hzs hrn
  go_enter Try.func18, Try.ntmps18
  go_wp2_with fail
  generalize hnb : w.heap.size + 1 = nb at hK2 hN2 ⊢
  generalize hkb : w.heap.size = kb at hK2 hN2 ⊢
  have Hnb := Lib.hid hnb; have Hkb := Lib.hid hkb
  clear hnb hkb
  generalize (w.alloc (.cells (bs k).toArray 38)).alloc (.cells (bs n).toArray 40) = w2 at BB hK2 hN2 ⊢
  rw [Hkb.out] at BB
  have cb2 : Hid (w2.cell? ⟨b, 2, none⟩ = some (.slice RA rn rc)) := by
    show _ = _
    rw [World.cell?_of_block (w := w) (BB.out.block b (by rw [← Hkb.out]; exact hblt)), cell_of_row w b 2 _ _ _ Hb.out]; rfl
  have BW : Hid (Below w.heap.size w w2) := by rw [Hkb.out]; exact BB.out
  clear BB
  go_loopw [12] (fun iv wr => ∃ i : Nat, i ≤ rn ∧ iv = .int .i64 (i : Nat) ∧ Hid ((∀ j (h : j < rows.length), j < i → opens rows[j] k n head sealed = false) ∧ Below w2.heap.size w2 wr)) (fun iv _ => rn - (intOf iv).toNat)
  case atStart => exact ⟨0, Nat.zero_le _, rfl, Lib.hid ⟨fun j _ h => absurd h (by omega), Below.refl _ _⟩⟩
  case round =>
    obtain ⟨i, hi, rfl, I⟩ := hrel
    have hi0 : (0 : Int) ≤ (i : Int) := by omega
    have cb : wr.cell? ⟨b, 2, none⟩ = some (.slice RA rn rc) := cell_bel cb2.out I.out.2
    by_cases hlt : i < rn
    · have hiI : (i : Int) < (rn : Int) := by omega
      have hil : i < rows.length := by rw [← HRN.out]; exact hlt
      obtain ⟨gr, cap, hv, _, hgr⟩ := HRO.out.form (by omega)
      injection hv with hA _ hc
      subst hA hc
      obtain ⟨rc1, hrow, hcell⟩ := RowsAt.at_ rows cs HR.out i hil
      have Hrow := Lib.hid hrow; have Hcell := Lib.hid hcell
      have hrl47 := Lib.hid Hrow.out.length
      have hir47 : Hid ((Try.prog.info? 64).map (·.size) = some rc1.length) := by show _ = _; rw [Hir.out, hrl47.out, Option.map_some, Hsz.out]
      have hrow2 : Hid (wr.rangeAt gr (i * 47) rc1) := fun j v hv => by
        have hc := HRO.out.cellAt (i * 47 + j) (by
          have : j < rc1.length := (List.getElem?_eq_some_iff.1 hv).1
          have := hrl47.out
          have : (i + 1) * 47 ≤ rn * 47 := Nat.mul_le_mul_right _ hlt
          omega)
        exact cell_bel (cell_bel (by rw [hc]; exact Hcell.out j v hv) BW.out) I.out.2
      have ho47 : Hid (rc1.toArray.all (·.oneCell') = true) := by
        refine all_oneCell_toArray (fun v hv => ?_)
        obtain ⟨_, _, _, _, _, x, y, z, e, ⟨_, _, _, rfl, _⟩, ⟨_, _, _, rfl, _⟩, ⟨_, _, _, rfl, _⟩⟩ := Hrow.out
        rw [e] at hv
        simp only [rowC, List.mem_append, List.mem_cons, List.not_mem_nil, or_false] at hv
        rcases hv with hv | hv | rfl | rfl | rfl
        · exact bs_oneCell _ v hv
        · exact bs_oneCell _ v hv
        · rfl
        · rfl
        · rfl
      obtain ⟨q32, q12, qhd, qpl, qse, hv1, hv2, hv3, hrc, ⟨A1, n1, d1, rfl, s1⟩, ⟨A2, n2, d2, rfl, s2⟩, ⟨A3, n3, d3, rfl, s3⟩⟩ := Hrow.out
      have FACTS : Hid (∀ g3 w4, Below wr.heap.size wr w4 → w4.heap[g3]? = some (.cells rc1.toArray 64 (0, 0)) →
          (w4.rangeAt g3 0 (bs rows[i].k) ∧ w4.rangeAt g3 32 (bs rows[i].n) ∧ w4.cell? ⟨g3, 44, none⟩ = some (.slice A1 n1 d1) ∧ w4.cell? ⟨g3, 45, none⟩ = some (.slice A2 n2 d2) ∧ w4.cell? ⟨g3, 46, none⟩ = some (.slice A3 n3 d3) ∧
            w4.rangeAt kb 0 (bs k) ∧ w4.rangeAt nb 0 (bs n))) := by
        intro g3 w4 hb4 hh4
        have hc : ∀ j, w4.cell? ⟨g3, j, none⟩ = rc1[j]? := fun j => by rw [cell_of_row w4 g3 j _ _ _ hh4]; simp
        have lk : (bs rows[i].k).length = 32 := by rw [bs_length]; exact q32
        have ln : (bs rows[i].n).length = 12 := by rw [bs_length]; exact q12
        refine ⟨fun j v hv => ?_, fun j v hv => ?_, ?_, ?_, ?_, range_block (heap_bel (heap_bel hK2.out I.out.2) hb4), range_block (heap_bel (heap_bel hN2.out I.out.2) hb4)⟩
        · have := (List.getElem?_eq_some_iff.1 hv).1
          rw [Nat.zero_add, hc, hrc, rowC, List.getElem?_append_left (by omega)]; exact hv
        · have := (List.getElem?_eq_some_iff.1 hv).1
          rw [hc, hrc, rowC, List.getElem?_append_right (by omega), lk, List.getElem?_append_left (by omega), show 32 + j - 32 = j by omega]; exact hv
        · rw [hc, hrc, rowC, List.getElem?_append_right (by omega), List.getElem?_append_right (by omega), lk, ln]; rfl
        · rw [hc, hrc, rowC, List.getElem?_append_right (by omega), List.getElem?_append_right (by omega), lk, ln]; rfl
        · rw [hc, hrc, rowC, List.getElem?_append_right (by omega), List.getElem?_append_right (by omega), lk, ln]; rfl
      have i1' : Hid ((Try.prog.info? 38).map (·.size) = some (bs rows[i].k).length) := by rw [bs_length, q32]; exact Try.szK
      have i2' : Hid ((Try.prog.info? 40).map (·.size) = some (bs rows[i].n).length) := by rw [bs_length, q12]; exact Try.szN
      have hn3 : Hid (n1 ≤ 140737488355000 ∧ n2 ≤ 1024 ∧ n3 ≤ 2048) := ⟨by have := s1.len; omega, by have := s2.len; omega, by have := s3.len; omega⟩
      have SW : Hid (∀ w4, Below wr.heap.size wr w4 → ∀ (E : Nat → Prop) A n c l, Sl w E A n c l → (∀ k, E k → k < w.heap.size) → Sl w4 E A n c l) :=
        fun w4 hb4 E A n c l hs hE => ((hs.belF BW.out hE).belF I.out.2 (fun k hk => Nat.lt_of_lt_of_le (hE k hk) BW.out.size)).belF hb4 (fun k hk => Nat.lt_of_lt_of_le (hE k hk) (Nat.le_trans BW.out.size I.out.2.size))
      have S1 := Lib.hid s1; have S2 := Lib.hid s2; have S3 := Lib.hid s3; have Q32 := Lib.hid q32; have Q12 := Lib.hid q12
      have DL : Hid (∀ k, D k → k < w.heap.size) := Lib.hid (fun k hk => H1.out k (HD.out k hk).1)
      obtain ⟨c1, e1⟩ : ∃ c1, (rows[i].k == k) = c1 := ⟨_, rfl⟩
      obtain ⟨c2, e2⟩ : ∃ c2, (rows[i].n == n) = c2 := ⟨_, rfl⟩
      obtain ⟨c3, e3⟩ : ∃ c3, (rows[i].head == head) = c3 := ⟨_, rfl⟩
      obtain ⟨c4, e4⟩ : ∃ c4, (rows[i].sealed == sealed) = c4 := ⟨_, rfl⟩
      have OP : Hid (opens rows[i] k n head sealed = (c1 && c2 && c3 && c4)) := by show _ = _; unfold opens; rw [e1, e2, e3, e4]
      have E1 := Lib.hid e1; have E2 := Lib.hid e2; have E3 := Lib.hid e3; have E4 := Lib.hid e4
      have ZW : Hid (w.heap.size ≤ wr.heap.size) := Nat.le_trans BW.out.size I.out.2.size
      clear hrow hcell q32 q12 qhd qpl qse hrc s1 s2 s3 e1 e2 e3 e4
      have NEXT : Hid (∀ w9, Below wr.heap.size wr w9 → (c1 && c2 && c3 && c4) = false → ∃ i' : Nat, i' ≤ rn ∧ Value.int .i64 ((i : Int) + 1) = .int .i64 (i' : Nat) ∧ Hid ((∀ j (h : j < rows.length), j < i' → opens rows[j] k n head sealed = false) ∧ Below w2.heap.size w2 w9)) := Lib.hid (fun w9 hb9 hno => by
        refine ⟨i + 1, hlt, by go_num, Lib.hid ⟨fun j hj hji => ?_, Below.tr I.out.2 hb9⟩⟩
        by_cases hje : j = i
        · subst hje; rw [OP.out]; exact hno
        · exact I.out.1 j hj (by omega))
      rcases c1 with _ | _
      rotate_left
      rcases c2 with _ | _
      rotate_left
      rcases c3 with _ | _
      rotate_left
      rcases c4 with _ | _
      all_goals go_wp2_with (first
        | ((with_reducible refine lst_load_mid 64 (.tmp 28) rfl gr (i * 47) rfl rc1 _ hrow2.out uR.out rfl hir47.out ?_ ?_)
           (focus rfl))
        | ((with_reducible refine lst_alloc_abs 64 rfl ir zr Hir.out Hzr.out ?_ ?_)
           (focus rfl)
           intro g3 w3 Hg3 Hh3 hb3)
        | ((with_reducible refine lst_store_abs 64 (.tmp 13) (.tmp 29) rfl g3 64 zr.cells rc1.toArray rfl rfl Hh3.out (by simpa using hir47.out) (by have := hrl47.out; rw [Hzs.out]; simp; omega) ho47.out ?_ ?_)
           (focus rfl)
           intro w4 Hh4 hg4
           have hb4 : Below wr.heap.size wr w4 := hb3.grown hg4 hb3.size (fun k hk => by injection hk with hk; have := Hg3.out.1; omega)
           obtain ⟨R1, R2, k44, k45, k46, R3, R4⟩ := FACTS.out g3 w4 hb4 Hh4.out
           have hsw4 : Hid (w.heap.size ≤ w4.heap.size) := Nat.le_trans ZW.out hb4.size
           have HR1 := Lib.hid R1; have HR2 := Lib.hid R2; have HR3 := Lib.hid R3; have HR4 := Lib.hid R4
           clear R1 R2 R3 R4)
        | ((with_reducible refine lst_load_mid 38 (.tmp 30) rfl g3 0 rfl (bs rows[i].k) _ HR1.out u1.out rfl i1'.out ?_ ?_)
           (focus rfl))
        | ((with_reducible refine lst_load_mid 38 (.tmp 6) rfl kb 0 rfl (bs k) _ HR3.out u1.out rfl i1.out ?_ ?_)
           (focus rfl))
        | ((with_reducible refine lst_load_mid 40 (.tmp 35) rfl g3 32 rfl (bs rows[i].n) _ HR2.out u2.out rfl i2'.out ?_ ?_)
           (focus rfl))
        | ((with_reducible refine lst_load_mid 40 (.tmp 7) rfl nb 0 rfl (bs n) _ HR4.out u2.out rfl i2.out ?_ ?_)
           (focus rfl))
        | ((with_reducible refine lst_eql_arr 38 (.tmp 31) (.tmp 32) _ rfl 32 rows[i].k k rfl rfl u1.out Try.eqGuardType38 Q32.out Hk.out _ E1.out ?_ ?_)
           (focus rfl))
        | ((with_reducible refine lst_eql_arr 40 (.tmp 36) (.tmp 37) _ rfl 12 rows[i].n n rfl rfl u2.out Try.eqGuardType40 Q12.out Hn.out _ E2.out ?_ ?_)
           (focus rfl))
        | (go_at_call 15
           (with_reducible refine (Same_at (A := A1) (SW.out w4 hb4 _ _ _ _ _ S1.out DL.out) (SW.out w4 hb4 _ _ _ _ _ Hh.out HG.out) (Nat.le_trans hn3.out.1 (by decide)) (Nat.le_trans HB1.out (by decide)) _ E3.out).mono ?_)
           rintro e w' ⟨rfl, x5, rfl⟩
           have k46' : (w4.drewN x5).cell? ⟨g3, 46, none⟩ = some (.slice A3 n3 d3) := k46
           have k45' : (w4.drewN x5).cell? ⟨g3, 45, none⟩ = some (.slice A2 n2 d2) := k45
           have b5 : Below wr.heap.size wr (w4.drewN x5) := below_drewN hb4 x5
           have z5 : Hid (w.heap.size ≤ (w4.drewN x5).heap.size) := hsw4
           generalize w4.drewN x5 = w5 at k46' k45' b5 z5 ⊢)
        | (go_at_call 15
           (with_reducible refine (Same_at (A := A3) (SW.out w5 b5 _ _ _ _ _ S3.out DL.out) (SW.out w5 b5 _ _ _ _ _ Hp.out HG.out) (Nat.le_trans hn3.out.2.2 (by decide)) (Nat.le_trans HB2.out (by decide)) _ E4.out).mono ?_)
           rintro e w' ⟨rfl, x6, rfl⟩
           have k45'' : (w5.drewN x6).cell? ⟨g3, 45, none⟩ = some (.slice A2 n2 d2) := k45'
           have b6 : Below wr.heap.size wr (w5.drewN x6) := below_drewN b5 x6
           have z6 : Hid (w.heap.size ≤ (w5.drewN x6).heap.size) := z5
           generalize w5.drewN x6 = w6 at k45'' b6 z6 ⊢)
        | (go_at_call 21
           (with_reducible refine (CopyBytes_sl (SW.out w6 b6 _ _ _ _ _ S2.out DL.out) (fun k hk => Nat.lt_of_lt_of_le (DL.out k hk) z6.out) (Nat.le_trans hn3.out.2.1 (by decide))).mono ?_)
           rintro e w7 ⟨A7, c7, rfl, hown7, hb7⟩))
      all_goals first
        | exact ⟨NEXT.out _ b6 rfl, by simp [intOf]; omega⟩
        | exact ⟨NEXT.out _ b5 rfl, by simp [intOf]; omega⟩
        | exact ⟨NEXT.out _ hb4 rfl, by simp [intOf]; omega⟩
        | skip
      have hyes : Hid (findP rows k n head sealed = some rows[i].plain) := findP_take hil (fun j hj hji => I.out.1 j hj hji) OP.out
      go_ret2
      rw [hyes.out]
      exact ⟨A7, n2, c7, rfl, Below.tr (Below.tr (Below.tr BW.out I.out.2) b6) hb7, own_mono hown7 z6.out⟩
    · have hiI : ¬ (i : Int) < (rn : Int) := by omega
      have hno : Hid (findP rows k n head sealed = none) := findP_none (fun j hj => I.out.1 j hj (by have := HRN.out; omega))
      go_wp2_with fail
      go_ret2
      rw [hno.out]
      exact ⟨none, 0, 0, rfl, Below.tr BW.out I.out.2, World.ownsRow_nil _ _ _ _⟩
end Go.Proofs.Ytnejcciociinmaa
