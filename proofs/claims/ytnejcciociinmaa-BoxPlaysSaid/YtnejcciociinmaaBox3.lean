/- Open of the box. -/
import Derived.Test.YtnejcciociinmaaBox2
import Derived.Test.YtnejcciociinmaaArr
import Derived.Test.YtnejcciociinmaaEqB
namespace Go.Proofs.Ytnejcciociinmaa
open Go.RowKit

/-- what opens: the row at a place, if all is the same -/
def opens (r : BRow) (k n head sealed : List UInt8) : Bool := r.k == k && r.n == n && r.head == head && r.sealed == sealed

set_option maxRecDepth 100000 in
set_option maxHeartbeats 2000000 in
theorem Open_row (b : Nat) (F G : Nat → Prop) (src : List UInt8) (rows : List BRow) (w : World) (h : BoxAt w b F src rows) (k n : List UInt8) (hk : k.length = 32) (hn : n.length = 12)
    (HA : Option Addr) (hn1 hc1 : Nat) (head : List UInt8) (hh : Sl w G HA hn1 hc1 head) (PA : Option Addr) (pn pc : Nat) (sealed : List UInt8) (hp : Sl w G PA pn pc sealed) (hG : ∀ k, G k → k < w.heap.size)
    (at_ : Nat) (hlt : at_ < rows.length) (hat : numOf sealed rows.length = (at_ : Int)) (hrl : rows.length ≤ 1000)
    (c1 c2 c3 c4 : Bool) (e1 : (rows[at_].k != k) = c1) (e2 : (rows[at_].n != n) = c2) (e3 : (rows[at_].head == head) = c3) (e4 : (rows[at_].sealed == sealed) = c4) :
    Calls Try.prog 17 #[.pointer (some ⟨b, 0, none⟩), .agg (bs k).toArray, .agg (bs n).toArray, .slice HA hn1 hc1, .slice PA pn pc] w fun e w' =>
      ∃ A' n' c', e = .returned (.tuple #[.slice A' n' c', .bool (!c1 && !c2 && c3 && c4)]) ∧ Below w.heap.size w w' ∧
        w'.ownsRow w.heap.size 5 1 (.slice A' n' c') n' (bs (if (!c1 && !c2 && c3 && c4) = true then rows[at_].plain else [])) := by
  have H := Lib.hid h; have Hh := Lib.hid hh; have Hp := Lib.hid hp; have HG := Lib.hid hG
  have E1 := Lib.hid e1; have E2 := Lib.hid e2; have E3 := Lib.hid e3; have E4 := Lib.hid e4; have Hat := Lib.hid hat
  obtain ⟨h1, h2, SA, sn, sc, RA, rn, rc, cs, D, hb, hD, hss, rfl, hro, hrb, hr, hl⟩ := h
  clear hh hp hG e1 e2 e3 e4 hat
  have hblt := h1 b h2
  obtain ⟨gr, cap, hv, _, hgr⟩ := hro.form (by omega)
  injection hv with hA _ hc
  subst hA hc
  obtain ⟨rc1, hrow, hcell⟩ := RowsAt.at_ rows cs hr at_ hlt
  have Hb := Lib.hid hb; have Hrow := Lib.hid hrow; have Hcell := Lib.hid hcell
  have H1 := Lib.hid h1; have HD := Lib.hid hD; have Hrb := Lib.hid hrb
  have cb1 : w.cell? ⟨b, 1, none⟩ = some (.slice (some ⟨gr, 0, none⟩) rows.length rc) := by rw [cell_of_row w b 1 _ _ _ hb]; rfl
  clear hb h1 hD hrb hrow hcell
  have hat0 : (0 : Int) ≤ (at_ : Int) := by omega
  have hat1 : (at_ : Int) < (rows.length : Int) := by omega
  go_enter Try.func17, Try.ntmps17
  go_wp2_with fail
  have fr2 : Hid (Fr NoB w ((w.alloc (.cells (bs k).toArray 38)).alloc (.cells (bs n).toArray 40))) := Fr.alloc (Fr.alloc (Fr.refl _ _) _) _
  have hK2 := Lib.hid (heap_alloc2_old w (.cells (bs k).toArray 38) (.cells (bs n).toArray 40))
  have hN2 := Lib.hid (heap_alloc2_new w (.cells (bs k).toArray 38) (.cells (bs n).toArray 40))
  have hsz2 : Hid (((w.alloc (.cells (bs k).toArray 38)).alloc (.cells (bs n).toArray 40)).heap.size = w.heap.size + 2) := by
    show _ = _; simp
  generalize hnb : w.heap.size + 1 = nb at hK2 hN2 ⊢
  generalize hkb : w.heap.size = kb at hK2 hN2 ⊢
  have Hnb := Lib.hid hnb; have Hkb := Lib.hid hkb
  clear hnb hkb
  generalize (w.alloc (.cells (bs k).toArray 38)).alloc (.cells (bs n).toArray 40) = w2 at fr2 hK2 hN2 hsz2 ⊢
  have cb2 : w2.cell? ⟨b, 1, none⟩ = some (.slice (some ⟨gr, 0, none⟩) rows.length rc) := (World.cell?_of_block (fr2.out.block b hblt id)).trans cb1
  refine (number_any b F G src rows w2 (BoxAt.fr H.out fr2.out (fun _ _ e => e)) PA pn pc sealed (Hp.out.fr fr2.out (fun k hk => ⟨HG.out k hk, id⟩))).mono ?_
  rintro e w' ⟨he, rfl⟩
  rw [Hat.out] at he
  subst he
  obtain ⟨ir, hir, hzz⟩ := Option.map_eq_some_iff.1 Try.infoRow
  simp only [Prod.mk.injEq] at hzz
  obtain ⟨hzz1, hzz2, hzz3⟩ := hzz
  obtain ⟨zr, hzr, hzs⟩ := Option.map_eq_some_iff.1 hzz1
  have hrl47 := Lib.hid Hrow.out.length
  have hir47 : (Try.prog.info? 62).map (·.size) = some rc1.length := by rw [hir, hrl47.out, Option.map_some, hzz2]
  have hrow2 : Hid (w2.rangeAt gr (at_ * 47) rc1) := fun j v hv => by
    rw [World.cell?_of_block (w := w) (fr2.out.block gr hgr id), hro.cellAt (at_ * 47 + j) (by
      have : j < rc1.length := (List.getElem?_eq_some_iff.1 hv).1
      have := hrl47.out
      have : (at_ + 1) * 47 ≤ rows.length * 47 := Nat.mul_le_mul_right _ hlt
      omega)]
    exact Hcell.out j v hv
  have hu62 : ∃ d, Try.prog.underlying 62 = some d ∧ d.isRow = true := ⟨_, Try.underlying62, rfl⟩
  obtain ⟨d62, hu62, hd62⟩ := hu62
  have ho47 : rc1.toArray.all (·.oneCell') = true := by
    refine all_oneCell_toArray (fun v hv => ?_)
    obtain ⟨_, _, _, _, _, x, y, z, e, ⟨_, _, _, rfl, _⟩, ⟨_, _, _, rfl, _⟩, ⟨_, _, _, rfl, _⟩⟩ := Hrow.out
    rw [e] at hv
    simp only [rowC, List.mem_append, List.mem_cons, List.not_mem_nil, or_false] at hv
    rcases hv with hv | hv | rfl | rfl | rfl
    · exact bs_oneCell _ v hv
    · exact bs_oneCell _ v hv
    · rfl
    · rfl
    · rfl
  obtain ⟨q32, q12, _, qpl, _, hv1, hv2, hv3, hrc, ⟨A1, n1, d1, rfl, s1⟩, ⟨A2, n2, d2, rfl, s2⟩, ⟨A3, n3, d3, rfl, s3⟩⟩ := Hrow.out
  have FACTS : Hid (∀ g3 w4, Below w2.heap.size w2 w4 → w4.heap[g3]? = some (.cells rc1.toArray 62 (0, 0)) →
      (w4.rangeAt g3 0 (bs rows[at_].k) ∧ w4.rangeAt g3 32 (bs rows[at_].n) ∧ w4.cell? ⟨g3, 44, none⟩ = some (.slice A1 n1 d1) ∧ w4.cell? ⟨g3, 45, none⟩ = some (.slice A2 n2 d2) ∧ w4.cell? ⟨g3, 46, none⟩ = some (.slice A3 n3 d3) ∧
        w4.rangeAt kb 0 (bs k) ∧ w4.rangeAt nb 0 (bs n))) := by
    intro g3 w4 hb4 hh4
    have hc : ∀ j, w4.cell? ⟨g3, j, none⟩ = rc1[j]? := fun j => by rw [cell_of_row w4 g3 j _ _ _ hh4]; simp
    have hk2 : kb < w2.heap.size := by have := hsz2.out; have := Hkb.out; omega
    have hn2 : nb < w2.heap.size := by have := hsz2.out; have := Hnb.out; omega
    have lk : (bs rows[at_].k).length = 32 := by rw [bs_length]; exact q32
    have ln : (bs rows[at_].n).length = 12 := by rw [bs_length]; exact q12
    refine ⟨fun j v hv => ?_, fun j v hv => ?_, ?_, ?_, ?_, fun j v hv => ?_, fun j v hv => ?_⟩
    · have := (List.getElem?_eq_some_iff.1 hv).1
      rw [Nat.zero_add, hc, hrc, rowC, List.getElem?_append_left (by omega)]; exact hv
    · have := (List.getElem?_eq_some_iff.1 hv).1
      rw [hc, hrc, rowC, List.getElem?_append_right (by omega), lk, List.getElem?_append_left (by omega), show 32 + j - 32 = j by omega]; exact hv
    · rw [hc, hrc, rowC, List.getElem?_append_right (by omega), List.getElem?_append_right (by omega), lk, ln]; rfl
    · rw [hc, hrc, rowC, List.getElem?_append_right (by omega), List.getElem?_append_right (by omega), lk, ln]; rfl
    · rw [hc, hrc, rowC, List.getElem?_append_right (by omega), List.getElem?_append_right (by omega), lk, ln]; rfl
    · rw [Nat.zero_add, hb4.cell (p := ⟨kb, j, none⟩) hk2, cell_of_row w2 kb j _ _ _ hK2.out]; simpa using hv
    · rw [Nat.zero_add, hb4.cell (p := ⟨nb, j, none⟩) hn2, cell_of_row w2 nb j _ _ _ hN2.out]; simpa using hv
  have S1 := Lib.hid s1; have S2 := Lib.hid s2; have S3 := Lib.hid s3
  have Q32 := Lib.hid q32; have Q12 := Lib.hid q12; have Hk := Lib.hid hk; have Hn := Lib.hid hn
  have u1 := Lib.hid Try.underlying38
  have u2 := Lib.hid Try.underlying40
  have i1 : Hid ((Try.prog.info? 38).map (·.size) = some (bs k).length) := by rw [bs_length, hk]; exact (by kernel_rfl : (Try.prog.info? 38).map (·.size) = some 32)
  have i1' : Hid ((Try.prog.info? 38).map (·.size) = some (bs rows[at_].k).length) := by rw [bs_length, q32]; exact (by kernel_rfl : (Try.prog.info? 38).map (·.size) = some 32)
  have i2 : Hid ((Try.prog.info? 40).map (·.size) = some (bs n).length) := by rw [bs_length, hn]; exact (by kernel_rfl : (Try.prog.info? 40).map (·.size) = some 12)
  have i2' : Hid ((Try.prog.info? 40).map (·.size) = some (bs rows[at_].n).length) := by rw [bs_length, q12]; exact (by kernel_rfl : (Try.prog.info? 40).map (·.size) = some 12)
  have hpl : Hid (n2 ≤ 140737488355328) := by have := s2.len; show n2 ≤ _; omega
  have SW : Hid (∀ w4, Below w2.heap.size w2 w4 → ∀ (E : Nat → Prop) A n c l, Sl w E A n c l → (∀ k, E k → k < w.heap.size) → Sl w4 E A n c l) :=
    fun w4 hb4 E A n c l hs hE => (hs.fr fr2.out (fun k hk => ⟨hE k hk, id⟩)).fr (M := NoB) (Fr.of_below hb4) (fun k hk => ⟨Nat.lt_of_lt_of_le (hE k hk) fr2.out.size, id⟩)
  clear q32 q12 hrc s1 s2 s3 hk hn
  have Hir := Lib.hid hir; have Hzs := Lib.hid hzs; have Hir47 := Lib.hid hir47; have Hu62 := Lib.hid hu62; have Ho47 := Lib.hid ho47; have Hzr := Lib.hid hzr
  clear hir hzs hir47 hu62 ho47 hzr hzz1 hzz2 hzz3
  rcases c1 with _ | _
  rcases c2 with _ | _
  rcases c3 with _ | _
  rotate_left
  rcases c4 with _ | _
  all_goals go_wp2_with (first
    | ((with_reducible refine lst_load_mid 62 (.tmp 24) rfl gr (at_ * 47) rfl rc1 d62 hrow2.out Hu62.out hd62 Hir47.out ?_ ?_)
       (focus rfl))
    | ((with_reducible refine lst_alloc_abs 62 rfl ir zr Hir.out Hzr.out ?_ ?_)
       (focus rfl)
       intro g3 w3 Hg3 Hh3 hb3)
    | ((with_reducible refine lst_store_abs 62 (.tmp 13) (.tmp 25) rfl g3 62 zr.cells rc1.toArray rfl rfl Hh3.out (by simpa using Hir47.out) (by have := hrl47.out; rw [Hzs.out]; simp; omega) Ho47.out ?_ ?_)
       (focus rfl)
       intro w4 Hh4 hg4
       have hb4 : Below w2.heap.size w2 w4 := hb3.grown hg4 hb3.size (fun k hk => by injection hk with hk; have := Hg3.out.1; omega)
       obtain ⟨R1, R2, k44, k45, k46, R3, R4⟩ := FACTS.out g3 w4 hb4 Hh4.out
       have hsw4 : Hid (w.heap.size ≤ w4.heap.size) := Nat.le_trans fr2.out.size hb4.size
       have HR1 := Lib.hid R1; have HR2 := Lib.hid R2; have HR3 := Lib.hid R3; have HR4 := Lib.hid R4
       clear R1 R2 R3 R4)
    | ((with_reducible refine lst_load_mid 38 (.tmp 26) rfl g3 0 rfl (bs rows[at_].k) _ HR1.out u1.out rfl i1'.out ?_ ?_)
       (focus rfl))
    | ((with_reducible refine lst_load_mid 38 (.tmp 6) rfl kb 0 rfl (bs k) _ HR3.out u1.out rfl i1.out ?_ ?_)
       (focus rfl))
    | ((with_reducible refine lst_load_mid 40 (.tmp 31) rfl g3 32 rfl (bs rows[at_].n) _ HR2.out u2.out rfl i2'.out ?_ ?_)
       (focus rfl))
    | ((with_reducible refine lst_load_mid 40 (.tmp 7) rfl nb 0 rfl (bs n) _ HR4.out u2.out rfl i2.out ?_ ?_)
       (focus rfl))
    | ((with_reducible refine lst_neq_arr 38 (.tmp 27) (.tmp 28) _ rfl 32 rows[at_].k k rfl rfl u1.out Try.eqGuardType38 Q32.out Hk.out _ E1.out ?_ ?_)
       (focus rfl))
    | ((with_reducible refine lst_neq_arr 40 (.tmp 32) (.tmp 33) _ rfl 12 rows[at_].n n rfl rfl u2.out Try.eqGuardType40 Q12.out Hn.out _ E2.out ?_ ?_)
       (focus rfl))
    | (go_at_call 29
       (with_reducible refine (Equal_at (A := A1) (SW.out w4 hb4 _ _ _ _ _ S1.out (fun k hk => H1.out k (HD.out k hk).1)) (SW.out w4 hb4 _ _ _ _ _ Hh.out HG.out) _ E3.out).mono ?_)
       rintro e w' ⟨rfl, rfl⟩)
    | (go_at_call 29
       (with_reducible refine (Equal_at (A := A3) (SW.out w4 hb4 _ _ _ _ _ S3.out (fun k hk => H1.out k (HD.out k hk).1)) (SW.out w4 hb4 _ _ _ _ _ Hp.out HG.out) _ E4.out).mono ?_)
       rintro e w' ⟨rfl, rfl⟩)
    | (go_at_call 25
       (with_reducible refine (Clone_sl (SW.out w4 hb4 _ _ _ _ _ S2.out (fun k hk => H1.out k (HD.out k hk).1)) (fun k hk => Nat.lt_of_lt_of_le (H1.out k (HD.out k hk).1) hsw4.out) hpl.out).mono ?_)
       rintro e w5 ⟨A5, c5, rfl, hown5, hb5⟩))
  all_goals go_ret2
  all_goals have hbw : Below w.heap.size w w4 := (Fr.to_below fr2.out (fun _ _ e => e)).trans (hb4.mono fr2.out.size)
  · exact ⟨none, 0, 0, rfl, hbw, by simpa [bs] using World.ownsRow_nil w4 _ _ _⟩
  · exact ⟨A5, n2, c5, rfl, hbw.trans (hb5.mono hsw4.out), by simpa using own_mono hown5 hsw4.out⟩
  · exact ⟨none, 0, 0, rfl, hbw, by simpa [bs] using World.ownsRow_nil w4 _ _ _⟩
  · exact ⟨none, 0, 0, rfl, hbw, by simpa [bs] using World.ownsRow_nil w4 _ _ _⟩
  · exact ⟨none, 0, 0, rfl, hbw, by simpa [bs] using World.ownsRow_nil w4 _ _ _⟩

/-- nothing is there -/
theorem Open_none (b : Nat) (F G : Nat → Prop) (src : List UInt8) (rows : List BRow) (w : World) (h : BoxAt w b F src rows) (k n : List UInt8)
    (HA : Option Addr) (hn1 hc1 : Nat) (PA : Option Addr) (pn pc : Nat) (sealed : List UInt8) (hp : Sl w G PA pn pc sealed) (hG : ∀ k, G k → k < w.heap.size) (hat : numOf sealed rows.length = -1) :
    Calls Try.prog 17 #[.pointer (some ⟨b, 0, none⟩), .agg (bs k).toArray, .agg (bs n).toArray, .slice HA hn1 hc1, .slice PA pn pc] w fun e w' =>
      e = .returned (.tuple #[.slice none 0 0, .bool false]) ∧ Below w.heap.size w w' := by
  have H := Lib.hid h; have Hp := Lib.hid hp; have HG := Lib.hid hG; have Hat := Lib.hid hat
  clear h hp hG hat
  go_enter Try.func17, Try.ntmps17
  go_wp2_with fail
  have fr2 : Hid (Fr NoB w ((w.alloc (.cells (bs k).toArray 38)).alloc (.cells (bs n).toArray 40))) := Fr.alloc (Fr.alloc (Fr.refl _ _) _) _
  generalize (w.alloc (.cells (bs k).toArray 38)).alloc (.cells (bs n).toArray 40) = w2 at fr2 ⊢
  refine (number_any b F G src rows w2 (BoxAt.fr H.out fr2.out (fun _ _ e => e)) PA pn pc sealed (Hp.out.fr fr2.out (fun k hk => ⟨HG.out k hk, id⟩))).mono ?_
  rintro e w' ⟨he, rfl⟩
  rw [Hat.out] at he
  subst he
  go_wp2
  go_ret2
  exact ⟨rfl, Fr.to_below fr2.out (fun _ _ e => e)⟩
end Go.Proofs.Ytnejcciociinmaa
