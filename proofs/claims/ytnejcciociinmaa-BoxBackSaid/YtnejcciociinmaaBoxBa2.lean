/- BoxBack's walk. -/
import Derived.Test.YtnejcciociinmaaBoxBa1
import Derived.Deep.DeepCutAuto
namespace Go.Proofs.Ytnejcciociinmaa
open Go.RowKit
attribute [local go_sem] yld yldUpon_value

/-- what holds behind all -/
structure BaS (w w2 : World) (b : Nat) (F' : Nat → Prop) (src : List UInt8) (s : St) (things : List Th) (SA : Option Addr) (n cs : Nat) (vs : List Value) (D : Nat → Prop) (A : Option Addr) (c : Nat) (OA : Option Addr) (on oc : Nat) (other : List UInt8) : Prop where
  fr : Below w.heap.size w w2
  box : BoxAt w2 b F' src s.rows
  good : GoodSt s things
  own : w2.ownsRow w.heap.size 22 1 (.slice SA n cs) n vs
  dlt : ∀ j, D j → j < w2.heap.size
  vs : VsAt w2 D s.outs vs
  th : ThSl w2 (Old w2) A n c things
  oth : Sl w2 (Old w2) OA on oc other
theorem BaS.out {w w2 wr : World} {b : Nat} {F' : Nat → Prop} {src : List UInt8} {s : St} {things : List Th} {SA : Option Addr} {n cs : Nat} {vs : List Value} {D : Nat → Prop} {A : Option Addr} {c : Nat} {OA : Option Addr} {on oc : Nat} {other : List UInt8} (h : BaS w w2 b F' src s things SA n cs vs D A c OA on oc other) (hb : Below w2.heap.size w2 wr) {k : Nat} (hk : k < n) (hn : things.length = n) :
    ∃ gs A m c o, SA = some ⟨gs, 0, none⟩ ∧ wr.cell? ⟨gs, k, none⟩ = some (.slice A m c) ∧ Sl wr (Old w2) A m c o ∧ s.outs[k]? = some o ∧ gs < w2.heap.size := by
  have hol := h.good.2.1
  obtain ⟨v, hv, A, m, c, rfl, hs⟩ := VsAt.at_ _ _ h.vs k (by omega)
  obtain ⟨gs, cap, hv2, hgs, hgl⟩ := h.own.form (by omega)
  injection hv2 with hA _ _
  subst hA
  refine ⟨gs, A, m, c, s.outs[k]'(by omega), rfl, ?_, (hs.mono (G := Old w2) (fun j hj => h.dlt j hj)).belF hb (fun _ h => h), List.getElem?_eq_getElem _, hgl⟩
  exact cell_bel (by rw [h.own.cellAt k (by omega)]; exact hv) hb

set_option maxRecDepth 100000 in
set_option maxHeartbeats 8000000 in
theorem BoxBack_any (w : World) (LA : Option Addr) (ln lc : Nat) (src : List UInt8) (hL : Sl w (Old w) LA ln lc src) (hl : ln ≤ 140737488355000) (A : Option Addr) (n c : Nat) (things : List Th) (hT : ThSl w (Old w) A n c things) (hn : n ≤ 140737488355328)
    (OA : Option Addr) (on oc : Nat) (other : List UInt8) (hO : Sl w (Old w) OA on oc other) (ho : on ≤ 140737488355000) :
    Calls Try.prog 4 #[.slice LA ln lc, .slice A n c, .slice OA on oc] w fun e w' => e = .returned (.bool true) ∧ Below w.heap.size w w' := by
  have HL := Lib.hid hL; have HT := Lib.hid hT; have HO := Lib.hid hO; have Ho := Lib.hid ho
  clear hL hT hO ho
  go_enter Try.func4, Try.ntmps4
  go_wp2_with fail
  refine (New_any HL.out (fun k hk => hk) (by omega)).mono ?_
  rintro e w1 ⟨b, F, rfl, hbox1, hbw1, hF⟩
  have Hbox1 := Lib.hid hbox1; have Hbw1 := Lib.hid hbw1; have HF := Lib.hid hF
  have HT1 := Lib.hid (HT.out.fr (Fr.of_below (M := NoB) hbw1) (fun k hk => ⟨hk, id⟩))
  clear hbox1 hF hbw1
  rcases hg : greatOf things with _ | _
  · have Hg := Lib.hid (great_no hg)
    have Hlen := Lib.hid HT.out.len
    have Hgg := Lib.hid hg
    have hn40 : n ≤ 40 := by have := Hlen.out; have := Hg.out.1; omega
    clear hg
    go_wp2_with (go_at_call 19; refine (great_any A n c things _ w1 HT1.out hn).mono ?_; rintro e w' ⟨rfl, rfl⟩; rw [Hgg.out])
    refine (all_any b F (Old w) src w1 Hbox1.out A n c things HT1.out (fun k hk => ⟨Nat.lt_of_lt_of_le hk Hbw1.out.size, fun h => by have := HF.out k h; have hk : k < w.heap.size := hk; omega⟩) ⟨Hg.out.1, fun t ht => ⟨by have := (Hg.out.2 t ht).1; omega, (Hg.out.2 t ht).2⟩⟩).mono ?_
    rintro e w2 ⟨v, rfl, F', D, SA, cs, vs, rfl, hown, hbox2, hfr, hF', hoF, hD, hvs⟩
    have Hfr : Below w.heap.size w w2 := ((Fr.of_below (M := F) Hbw1.out).trans hfr (fun _ _ e => e)).to_below (fun i hi h => by have := HF.out i h; omega)
    have hGood := GoodSt.all_ things src
    generalize (⟨src, [], []⟩ : St).all things = s at hGood hbox2 hvs
    have HS : Hid (BaS w w2 b F' s.src s things SA n cs vs D A c OA on oc other) :=
      ⟨Hfr, hbox2, hGood, own_mono hown Hbw1.out.size, fun j hj => (hD j hj).2.1, hvs, (HT.out.fr (Fr.of_below (M := NoB) Hfr) (fun k hk => ⟨hk, id⟩)).mono (fun k hk => Nat.lt_of_lt_of_le hk Hfr.size), (HO.out.belF Hfr (fun _ h => h)).mono (fun k hk => Nat.lt_of_lt_of_le hk Hfr.size)⟩
    have HrL : Hid (s.rows.length ≤ 1000) := by show _ ≤ _; rw [hGood.1, Hlen.out]; omega
    clear Hfr hGood hown hbox2 hfr hF' hoF hD hvs Hbox1 Hbw1 HT1 HT HO HL HF Hgg
    go_wp2_with fail
    go_loopw [9, 10] (fun st i wr => ∃ k : Nat, k ≤ n ∧ i = .int .i64 (k : Nat) ∧ (∃ sb : Bool, st = .bool sb ∧ Hid (sb = true ↔ ∀ (j : Nat) o, j < k → s.outs[j]? = some o → o ≠ other)) ∧ Hid (Below w2.heap.size w2 wr)) (fun _ i _ => n - (intOf i).toNat)
    case atStart => exact ⟨0, Nat.zero_le _, rfl, ⟨true, rfl, Lib.hid (by simp)⟩, Below.refl _ _⟩
    case round =>
      obtain ⟨k, hk, rfl, ⟨sb, rfl, Hsb⟩, HB⟩ := hrel
      by_cases hlt : k < n
      · have hlt' : k < things.length := by have := Hlen.out; omega
        have hlI : (k : Int) < n := by omega
        have hkI : (0 : Int) ≤ (k : Int) := by omega
        obtain ⟨gs, XA, xn, xc, o, rfl, hcx, hsx, hox, hgs⟩ := HS.out.out (Below.refl _ _) hlt Hlen.out
        have hT1 := HS.out.th
        obtain ⟨g, og, HA, hn1, hc1, PA, pn, pc, rfl, hg, lk, ln', rk, rn, c44, c45, s44, s45, rr⟩ := hT1.open_ k hlt'
        have hbd := Hg.out.2 _ (List.getElem_mem hlt')
        have hpn : pn ≤ 1024 := by have := s45.len; omega
        have hown := HS.out.good.own (by have := Hg.out.1; omega) hlt' hox
        have hoth := HS.out.good.other (by have := Hg.out.1; omega) hlt' hox
        obtain ⟨t, ht⟩ : ∃ t, t = things[k] := ⟨_, rfl⟩
        rw [← ht] at lk ln' rr s44 s45 hown hoth hbd
        have Hown := Lib.hid hown.1; have Hoth := Lib.hid hoth; have Hol : Hid (xn = 16 + pn) := by have := hown.2; have := hsx.len; have := s45.len; show _ = _; omega
        have Hox := Lib.hid hox
        have Rr : Hid (wr.rangeAt g (og + k * 46) (bs t.k ++ (bs t.n ++ [.slice HA hn1 hc1, .slice PA pn pc]))) := rangeAt_bel rr HB.out hg; have S44 := Lib.hid s44; have S45 := Lib.hid s45; have Lk := Lib.hid lk; have Ln := Lib.hid ln'; have Hsx := Lib.hid hsx; have Hcx := Lib.hid hcx
        have hh1 : hn1 ≤ 1024 := by have := s44.len; omega
        have hrow : Hid ((bs t.k ++ (bs t.n ++ [Value.slice HA hn1 hc1, Value.slice PA pn pc])).length = 46) := by show _ = _; simp [bs_length, lk, ln']
        have hone : Hid ((bs t.k ++ (bs t.n ++ [Value.slice HA hn1 hc1, Value.slice PA pn pc])).toArray.all (·.oneCell') = true) := by
          refine all_oneCell_toArray (fun v hv => ?_)
          simp only [List.mem_append, List.mem_cons, List.not_mem_nil, or_false] at hv
          rcases hv with hv | hv | rfl | rfl
          · exact bs_oneCell _ v hv
          · exact bs_oneCell _ v hv
          · rfl
          · rfl
        have hr45 : Hid ((bs t.k ++ (bs t.n ++ [Value.slice HA hn1 hc1, Value.slice PA pn pc]))[45]? = some (.slice PA pn pc) ∧ (bs t.k ++ (bs t.n ++ [Value.slice HA hn1 hc1, Value.slice PA pn pc]))[44]? = some (.slice HA hn1 hc1)) := by
          refine ⟨?_, ?_⟩ <;> (rw [List.getElem?_append_right (by rw [bs_length]; omega), List.getElem?_append_right (by rw [bs_length, bs_length]; omega), bs_length, bs_length, lk, ln']; rfl)
        have hrk : Hid (∀ (w : World) (g : Nat), w.heap[g]? = some (.cells (bs t.k ++ (bs t.n ++ [Value.slice HA hn1 hc1, Value.slice PA pn pc])).toArray 50 (0, 0)) → w.rangeAt g 0 (bs t.k) ∧ w.rangeAt g 32 (bs t.n)) := by
          intro w g h
          refine ⟨fun j v hv => ?_, fun j v hv => ?_⟩
          · have := (List.getElem?_eq_some_iff.1 hv).1
            rw [Nat.zero_add, cell_of_row w g j _ _ _ h, List.getElem?_toArray, List.getElem?_append_left this]; exact hv
          · have := (List.getElem?_eq_some_iff.1 hv).1
            rw [cell_of_row w g (32 + j) _ _ _ h, List.getElem?_toArray, List.getElem?_append_right (by rw [bs_length]; omega), bs_length, lk, show 32 + j - 32 = j by omega, List.getElem?_append_left (by omega)]; exact hv
        clear hT1 rk rn c44 c45 s44 s45 rr hbd hg lk ln' hown hoth hox hsx hcx ht
        generalize bs t.k ++ (bs t.n ++ [Value.slice HA hn1 hc1, Value.slice PA pn pc]) = row at Rr hrow hone hr45 hrk
        obtain ⟨ir, hir, hzz⟩ := Option.map_eq_some_iff.1 Try.infoTh
        simp only [Prod.mk.injEq] at hzz
        obtain ⟨hzz1, hzz2, hzz3⟩ := hzz
        obtain ⟨zr, hzr, hzs⟩ := Option.map_eq_some_iff.1 hzz1
        have Hir := Lib.hid hir; have Hzr := Lib.hid hzr; have Hzs := Lib.hid hzs
        have Hir46 : Hid ((Try.prog.info? 50).map (·.size) = some row.length) := by rw [hir, hrow.out, Option.map_some, hzz2]; exact rfl
        obtain ⟨d50, hu50, hd50⟩ : ∃ d, Try.prog.underlying 50 = some d ∧ d.isRow = true := ⟨_, Try.underlying50, rfl⟩
        have Hu50 := Lib.hid hu50
        clear hir hzz1 hzz2 hzz3 hzr hzs hu50
        go_wp2_with (first
          | ((with_reducible refine lst_load_mid 50 (.tmp 46) rfl g (og + k * 46) rfl row d50 Rr.out Hu50.out hd50 Hir46.out ?_ ?_)
             (focus rfl))
          | ((with_reducible refine lst_alloc_abs 50 rfl ir zr Hir.out Hzr.out ?_ ?_)
             (focus rfl)
             intro g3 w3 Hg3 Hh3 hb3)
          | ((with_reducible refine lst_store_abs 50 (.tmp 11) (.tmp 47) rfl g3 50 zr.cells row.toArray rfl rfl Hh3.out (by simpa using Hir46.out) (by have := hrow.out; rw [Hzs.out]; simp; omega) hone.out ?_ ?_)
             (focus rfl)
             intro w4 Hh4 hg4))
        have HB4 : Hid (Below w2.heap.size w2 w4) := Below.tr HB.out (hb3.grown hg4 hb3.size (fun k hk => by injection hk with hk; have := Hg3.out.1; omega))
        have gl3 : g3 < w4.heap.size := (Array.getElem?_eq_some_iff.1 Hh4.out).1
        have gls : gs < w4.heap.size := Nat.lt_of_lt_of_le hgs HB4.out.size
        have c44 : w4.cell? ⟨g3, 44, none⟩ = some (.slice HA hn1 hc1) := by rw [cell_of_row w4 g3 44 _ _ _ Hh4.out]; simpa using hr45.out.2
        have c45 : w4.cell? ⟨g3, 45, none⟩ = some (.slice PA pn pc) := by rw [cell_of_row w4 g3 45 _ _ _ Hh4.out]; simpa using hr45.out.1
        have ck : w4.cell? ⟨gs, k, none⟩ = some (.slice XA xn xc) := cell_bel Hcx.out HB4.out
        have Rk : Hid (w4.rangeAt g3 0 (bs t.k) ∧ w4.rangeAt g3 32 (bs t.n)) := hrk.out w4 g3 Hh4.out
        have uK := Lib.hid Try.underlying38
        have uN := Lib.hid Try.underlying40
        have iK : Hid ((Try.prog.info? 38).map (·.size) = some (bs t.k).length) := by rw [bs_length, Lk.out]; exact Try.szK
        have iN : Hid ((Try.prog.info? 40).map (·.size) = some (bs t.n).length) := by rw [bs_length, Ln.out]; exact Try.szN
        clear Rr hone hr45 hrk Hir Hzr Hzs Hir46 Hu50 hrow Hg3 Hh3 hb3 hg4 Hh4 HB
        go_wp2_with fail
        refine wp_calm ?_
        refine wp_region_os (fun _ w' => Below (w4).drew.heap.size (w4).drew w') [2, 4, 6, 10] (.move 0 (.move 1 (.take 2 (.move 3 (.take 4 (.move 5 (.take 6 (.move 7 (.move 8 (.move 9 (.take 10 (.run 11 [] (.move 12 (.move 13 (.move 14 (.move 15 (.move 16 .done))))))))))))))))) (by kernel_rfl) (by kernel_rfl) (fun _ _ _ _ _ h => nomatch h.1) ?_
        have hS0 : Below (w4).drew.heap.size (w4).drew (w4).drew := Below.refl _ _
        refine os_move rfl rfl rfl (Nat.le_of_ble_eq_true rfl) ?_
        apply Exists.intro
        refine ⟨fun w' K hK => ?_, ?_⟩
        (focus
          go_simp
          exact hK)
        refine os_move rfl rfl rfl (Nat.le_of_ble_eq_true rfl) ?_
        apply Exists.intro
        refine ⟨fun w' K hK => ?_, ?_⟩
        (focus
          go_simp
          exact hK)
        refine os_load_mid 38 (.tmp 50) (g3) (0) (bs t.k) _ hS0 rfl rfl rfl rfl rfl (uK.out) rfl (iK.out) (fun w' h => rangeAt_bel (range_dr (Rk.out.1)) h gl3) ⟨_, rfl, ?_⟩
        refine os_move rfl rfl rfl (Nat.le_of_ble_eq_true rfl) ?_
        apply Exists.intro
        refine ⟨fun w' K hK => ?_, ?_⟩
        (focus
          go_simp
          exact hK)
        refine os_load_mid 40 (.tmp 52) (g3) (32) (bs t.n) _ hS0 rfl rfl rfl rfl rfl (uN.out) rfl (iN.out) (fun w' h => rangeAt_bel (range_dr (Rk.out.2)) h gl3) ⟨_, rfl, ?_⟩
        refine os_move rfl rfl rfl (Nat.le_of_ble_eq_true rfl) ?_
        apply Exists.intro
        refine ⟨fun w' K hK => ?_, ?_⟩
        (focus
          go_simp
          exact hK)
        refine os_yld hS0 rfl rfl rfl (Nat.le_of_ble_eq_true rfl) ?_
        apply Exists.intro
        refine ⟨fun w' hS' K hK => ?_, ?_⟩
        (focus
          obtain ⟨hcc, hff⟩ := bcellB (Below.undr hS')
          clear hS'
          go_simp
          exact hK)
        refine os_move rfl rfl rfl (Nat.le_of_ble_eq_true rfl) ?_
        apply Exists.intro
        refine ⟨fun w' K hK => ?_, ?_⟩
        (focus
          go_simp
          exact hK)
        refine os_move rfl rfl rfl (Nat.le_of_ble_eq_true rfl) ?_
        apply Exists.intro
        refine ⟨fun w' K hK => ?_, ?_⟩
        (focus
          go_simp
          exact hK)
        refine os_move rfl rfl rfl (Nat.le_of_ble_eq_true rfl) ?_
        apply Exists.intro
        refine ⟨fun w' K hK => ?_, ?_⟩
        (focus
          go_simp
          exact hK)
        refine os_yld hS0 rfl rfl rfl (Nat.le_of_ble_eq_true rfl) ?_
        apply Exists.intro
        refine ⟨fun w' hS' K hK => ?_, ?_⟩
        (focus
          obtain ⟨hcc, hff⟩ := bcellB (Below.undr hS')
          clear hS'
          go_simp
          exact hK)
        refine os_run rfl rfl (fun K hK => ?_)
        go_wp2_with fail
        refine (Open_any b F' (Old w2) s.src s.rows w4.drew (HS.out.box.fr (Fr.of_below (M := NoB) (Below.tr HB4.out (Below.dr1 _))) (fun _ _ e => e)) t.k t.n Lk.out Ln.out HA hn1 hc1 t.head (S44.out.belF (Below.tr HB4.out (Below.dr1 _)) (fun _ h => h)) XA xn xc o (Hsx.out.belF (Below.tr HB4.out (Below.dr1 _)) (fun _ h => h)) (fun k hk => Nat.lt_of_lt_of_le hk HB4.out.size) HrL.out _ Hown.out).mono ?_
        rintro e w5 ⟨A5, n5, c5, rfl, hb5, hown5⟩
        go_wp2_with fail
        refine ⟨fun _ hk => absurd hk List.not_mem_nil, ?_⟩
        replace hS0 := Below.tr hS0 (hb5)
        refine os_move rfl rfl rfl (Nat.le_of_ble_eq_true rfl) ?_
        apply Exists.intro
        refine ⟨fun w' K hK => ?_, ?_⟩
        (focus
          go_simp
          exact hK)
        refine os_move rfl rfl rfl (Nat.le_of_ble_eq_true rfl) ?_
        apply Exists.intro
        refine ⟨fun w' K hK => ?_, ?_⟩
        (focus
          go_simp
          exact hK)
        refine os_move rfl rfl rfl (Nat.le_of_ble_eq_true rfl) ?_
        apply Exists.intro
        refine ⟨fun w' K hK => ?_, ?_⟩
        (focus
          go_simp
          exact hK)
        refine os_move rfl rfl rfl (Nat.le_of_ble_eq_true rfl) ?_
        apply Exists.intro
        refine ⟨fun w' K hK => ?_, ?_⟩
        (focus
          go_simp
          exact hK)
        refine os_move rfl rfl rfl (Nat.le_of_ble_eq_true rfl) ?_
        apply Exists.intro
        refine ⟨fun w' K hK => ?_, ?_⟩
        (focus
          go_simp
          exact hK)
        refine os_done ⟨rfl, ?_⟩
        have HB5 : Hid (Below w2.heap.size w2 w5) := Below.tr HB4.out (Below.tr (Below.dr1 _) hS0)
        have s5 : Hid (Sl w5 (Iv w4.heap.size w5.heap.size) A5 n5 c5 t.plain) := Sl.own_ (w := w4.drew) hown5
        have b45 : Hid (Below w4.heap.size w4 w5) := Below.tr (Below.dr1 _) hS0
        have n5l : Hid (n5 = pn) := by have := s5.out.len; have := S45.out.len; show _ = _; omega
        clear hS0 hb5 hown5
        replace c45 := cell_bel c45 b45.out
        replace ck := cell_bel ck b45.out
        replace gl3 : g3 < w5.heap.size := Nat.lt_of_lt_of_le gl3 b45.out.size
        replace gls : gs < w5.heap.size := Nat.lt_of_lt_of_le gls b45.out.size
        have Rk5 : Hid (w5.rangeAt g3 0 (bs t.k) ∧ w5.rangeAt g3 32 (bs t.n)) := ⟨rangeAt_bel Rk.out.1 b45.out (by have := b45.out.size; have := gl3; exact block_lt_of c44), rangeAt_bel Rk.out.2 b45.out (block_lt_of c44)⟩
        replace c44 := cell_bel c44 b45.out
        clear Rk b45
        have hxw : IntKind.i64.wrap (16 + (pn : Int)) = 16 + (pn : Int) := by rw [IntKind.wrap_i64]; omega
        have hxn : ((xn : Int) != 16 + (pn : Int)) = false := by have := Hol.out; simp; omega
        go_wp2_with fail
        refine wp_calm ?_
        refine wp_region_os (fun _ w' => Below (w5).drew.heap.size (w5).drew w') [5, 13, 16] (.move 0 (.move 1 (.move 2 (.move 3 (.move 4 (.take 5 (.run 6 [13, 16] (.move 7 (.move 8 (.move 9 (.move 10 (.move 11 (.move 12 (.take 13 (.move 14 (.move 15 (.take 16 (.move 17 (.move 18 (.move 19 (.move 20 .done))))))))))))))))))))) (by kernel_rfl) (by kernel_rfl) (fun _ _ _ _ _ h => nomatch h.1) ?_
        have hS0 : Below (w5).drew.heap.size (w5).drew (w5).drew := Below.refl _ _
        refine os_move rfl rfl rfl (Nat.le_of_ble_eq_true rfl) ?_
        apply Exists.intro
        refine ⟨fun w' K hK => ?_, ?_⟩
        (focus
          go_simp
          exact hK)
        refine os_move rfl rfl rfl (Nat.le_of_ble_eq_true rfl) ?_
        apply Exists.intro
        refine ⟨fun w' K hK => ?_, ?_⟩
        (focus
          go_simp
          exact hK)
        refine os_move rfl rfl rfl (Nat.le_of_ble_eq_true rfl) ?_
        apply Exists.intro
        refine ⟨fun w' K hK => ?_, ?_⟩
        (focus
          go_simp
          exact hK)
        refine os_moveg rfl rfl rfl (Nat.le_of_ble_eq_true rfl) ?_
        apply Exists.intro
        refine ⟨fun w' K hK => ?_, ?_⟩
        (focus
          go_simp
          exact hK)
        refine os_moveg rfl rfl rfl (Nat.le_of_ble_eq_true rfl) ?_
        apply Exists.intro
        refine ⟨fun w' K hK => ?_, ?_⟩
        (focus
          go_simp
          exact hK)
        refine os_yldg hS0 rfl rfl rfl (Nat.le_of_ble_eq_true rfl) ?_
        apply Exists.intro
        refine ⟨fun w' hS' K hK => ?_, ?_⟩
        (focus
          obtain ⟨hcc, hff⟩ := bcellB (Below.undr hS')
          clear hS'
          go_simp
          exact hK)
        refine os_run rfl rfl (fun K hK => ?_)
        go_wp2_with fail
        refine (Same_at (s5.out.dr 1) (S45.out.belF (Below.tr HB5.out (Below.dr1 _)) (fun _ h => h)) (by have := n5l.out; omega) (by omega) true (by simp)).mono ?_
        rintro e w6 ⟨rfl, x6, rfl⟩
        go_wp2_with fail
        refine ⟨fun _ _ h => Below.tr h (Below.drd w5 (1 + x6)), ?_⟩
        replace hS0 := Below.tr hS0 (Below.drd w5 (1 + x6))
        refine os_moveg rfl rfl rfl (Nat.le_of_ble_eq_true rfl) ?_
        apply Exists.intro
        refine ⟨fun w' K hK => ?_, ?_⟩
        (focus
          go_simp
          exact hK)
        refine os_move rfl rfl rfl (Nat.le_of_ble_eq_true rfl) ?_
        apply Exists.intro
        refine ⟨fun w' K hK => ?_, ?_⟩
        (focus
          go_simp
          exact hK)
        refine os_move rfl rfl rfl (Nat.le_of_ble_eq_true rfl) ?_
        apply Exists.intro
        refine ⟨fun w' K hK => ?_, ?_⟩
        (focus
          go_simp
          exact hK)
        refine os_moveg rfl rfl rfl (Nat.le_of_ble_eq_true rfl) ?_
        apply Exists.intro
        refine ⟨fun w' K hK => ?_, ?_⟩
        (focus
          go_simp
          exact hK)
        refine os_moveg rfl rfl rfl (Nat.le_of_ble_eq_true rfl) ?_
        apply Exists.intro
        refine ⟨fun w' K hK => ?_, ?_⟩
        (focus
          go_simp
          exact hK)
        refine os_moveg rfl rfl rfl (Nat.le_of_ble_eq_true rfl) ?_
        apply Exists.intro
        refine ⟨fun w' K hK => ?_, ?_⟩
        (focus
          go_simp
          exact hK)
        refine os_yldg hS0 rfl rfl rfl (Nat.le_of_ble_eq_true rfl) ?_
        apply Exists.intro
        refine ⟨fun w' hS' K hK => ?_, ?_⟩
        (focus
          obtain ⟨hcc, hff⟩ := bcellB (Below.undr hS')
          clear hS'
          go_simp
          exact hK)
        refine os_moveg rfl rfl rfl (Nat.le_of_ble_eq_true rfl) ?_
        apply Exists.intro
        refine ⟨fun w' K hK => ?_, ?_⟩
        (focus
          go_simp
          exact hK)
        refine os_moveg rfl rfl rfl (Nat.le_of_ble_eq_true rfl) ?_
        apply Exists.intro
        refine ⟨fun w' K hK => ?_, ?_⟩
        (focus
          go_simp
          exact hK)
        refine os_yldg hS0 rfl rfl rfl (Nat.le_of_ble_eq_true rfl) ?_
        apply Exists.intro
        refine ⟨fun w' hS' K hK => ?_, ?_⟩
        (focus
          obtain ⟨hcc, hff⟩ := bcellB (Below.undr hS')
          clear hS'
          go_simp
          exact hK)
        refine os_moveg rfl rfl rfl (Nat.le_of_ble_eq_true rfl) ?_
        apply Exists.intro
        refine ⟨fun w' K hK => ?_, ?_⟩
        (focus
          go_simp
          exact hK)
        refine os_moveg rfl rfl rfl (Nat.le_of_ble_eq_true rfl) ?_
        apply Exists.intro
        refine ⟨fun w' K hK => ?_, ?_⟩
        (focus
          go_simp
          exact hK)
        refine os_moveg rfl rfl rfl (Nat.le_of_ble_eq_true rfl) ?_
        apply Exists.intro
        refine ⟨fun w' K hK => ?_, ?_⟩
        (focus
          go_simp
          exact hK)
        refine os_move rfl rfl rfl (Nat.le_of_ble_eq_true rfl) ?_
        apply Exists.intro
        refine ⟨fun w' K hK => ?_, ?_⟩
        (focus
          go_simp
          exact hK)
        refine os_done ⟨rfl, ?_⟩
        clear hxw hxn
        have HB6 : Hid (Below w2.heap.size w2 (w5.drewN (1 + x6))) := Below.tr HB5.out (Below.drN _ _)
        have c44' : (w5.drewN (1 + x6)).cell? ⟨g3, 44, none⟩ = some (.slice HA hn1 hc1) := c44
        have ck' : (w5.drewN (1 + x6)).cell? ⟨gs, k, none⟩ = some (.slice XA xn xc) := ck
        have gl3' : g3 < (w5.drewN (1 + x6)).heap.size := gl3
        have gls' : gs < (w5.drewN (1 + x6)).heap.size := gls
        have Rk6 : Hid ((w5.drewN (1 + x6)).rangeAt g3 0 (bs t.k) ∧ (w5.drewN (1 + x6)).rangeAt g3 32 (bs t.n)) := Rk5.out
        generalize w5.drewN (1 + x6) = w6 at HB6 c44' ck' gl3' gls' Rk6 ⊢
        clear c44 c45 ck gl3 gls Rk5 s5 HB5 HB4 hS0
        obtain ⟨iK0, hiK0, zK0, _, _⟩ := info_parts Try.inK0
        obtain ⟨iN0, hiN0, zN0, _, _⟩ := info_parts Try.inN0
        have HiK0 := Lib.hid hiK0; have HzK0 := Lib.hid zK0; have HiN0 := Lib.hid hiN0; have HzN0 := Lib.hid zN0
        clear hiK0 zK0 hiN0 zN0
        go_upto_region 13 with fail
        go_cut [14, 15] from 84 to 88 (fun s14 s15 wx => ∃ gk gn, s14 = .pointer (some ⟨gk, 0, none⟩) ∧ s15 = .pointer (some ⟨gn, 0, none⟩) ∧ Hid (Below w6.heap.size w6 wx ∧ gk ≠ gn ∧ w6.heap.size ≤ gk ∧ w6.heap.size ≤ gn ∧ wx.heap[gk]? = some (.cells (bs t.k).toArray 38 (0, 0)) ∧ wx.heap[gn]? = some (.cells (bs t.n).toArray 40 (0, 0))))
        case first =>
          --dev<
          refine wp_calm ?_
          refine wp_region_os (fun _ w' => Below (w6).drew.heap.size (w6).drew w') [1, 3] (.move 0 (.take 1 (.move 2 (.take 3 (.two 4 [1, 3] (.run 5 [1, 3] (.run 6 [3] (.run 7 [] .done))) 5 [1, 3] (.run 4 [1, 3] (.run 6 [3] (.run 7 [] .done)))))))) (by kernel_rfl) (by kernel_rfl) (fun _ _ _ _ _ h => nomatch h.1) ?_
          have hS0 : Below (w6).drew.heap.size (w6).drew (w6).drew := Below.refl _ _
          refine os_move rfl rfl rfl (Nat.le_of_ble_eq_true rfl) ?_
          apply Exists.intro
          refine ⟨fun w' K hK => ?_, ?_⟩
          (focus
            go_simp
            exact hK)
          refine os_load_mid 38 (.tmp 84) (g3) (0) (bs t.k) _ hS0 rfl rfl rfl rfl rfl (uK.out) rfl (iK.out) (fun w' h => rangeAt_bel (range_dr (Rk6.out.1)) h gl3') ⟨_, rfl, ?_⟩
          refine os_move rfl rfl rfl (Nat.le_of_ble_eq_true rfl) ?_
          apply Exists.intro
          refine ⟨fun w' K hK => ?_, ?_⟩
          (focus
            go_simp
            exact hK)
          refine os_load_mid 40 (.tmp 86) (g3) (32) (bs t.n) _ hS0 rfl rfl rfl rfl rfl (uN.out) rfl (iN.out) (fun w' h => rangeAt_bel (range_dr (Rk6.out.2)) h gl3') ⟨_, rfl, ?_⟩
          refine os_two rfl rfl rfl rfl (fun K hK => ?_) (fun K hK => ?_)
          · refine wp_alloc_abs 38 rfl iK0 _ HiK0.out HzK0.out ?_
            intro gk wk Hgk Hhk hbk
            refine hK _ _ ⟨fun _ _ h => Below.tr h (hbk), ?_⟩
            clear hK
            replace hS0 := Below.tr hS0 (hbk)
            refine os_run rfl rfl (fun K hK => ?_)
            refine wp_alloc_abs 40 rfl iN0 _ HiN0.out HzN0.out ?_
            intro gn wn Hgn Hhn hbn
            refine hK _ _ ⟨fun _ _ h => Below.tr h (hbn), ?_⟩
            clear hK
            replace hS0 := Below.tr hS0 (hbn)
            refine os_run rfl rfl (fun K hK => ?_)
            have Hhk2 := heap_bel Hhk.out hbn
            have Hhn2 := Hhn.out
            have e1 := Hgk.out; have e2 := Hgn.out
            have e3 : w6.drew.heap.size = w6.heap.size := rfl
            have hne : gk ≠ gn := by omega
            refine wp_store_abs 38 (.tmp 14) (.tmp 85) rfl gk 38 _ (bs t.k).toArray rfl rfl Hhk2 (by simpa using iK.out) (by simp [Value.cells, bs_length, Lk.out]) (by simp; exact bs_oneCell _) ?_
            intro w8 Hh8 hg8
            have hh8 := (hg8.block gn (by omega) (by simp; omega)).trans Hhn2
            have hb8 : Below w6.heap.size w6 w8 := (Below.tr (Below.dr1 w6) (Below.tr hbk hbn)).grown hg8 (Below.tr (Below.dr1 w6) (Below.tr hbk hbn)).size (fun j hj => by injection hj with hj; omega)
            have hl8 : gk < w8.heap.size ∧ gn < w8.heap.size := by have := hg8.size; omega
            refine hK _ _ ⟨fun _ _ _ => Below.dr hb8, ?_⟩
            clear hK
            replace hS0 := Below.dr hb8
            refine os_run rfl rfl (fun K hK => ?_)
            refine wp_store_abs 40 (.tmp 15) (.tmp 87) rfl gn 40 _ (bs t.n).toArray rfl rfl hh8 (by simpa using iN.out) (by simp [Value.cells, bs_length, Ln.out]) (by simp; exact bs_oneCell _) ?_
            intro w9 Hh9 hg9
            have hh9 := (hg9.block gk hl8.1 (by simp; omega)).trans Hh8.out
            have hb9 : Below w6.heap.size w6 w9 := hb8.grown hg9 hb8.size (fun j hj => by injection hj with hj; omega)
            refine hK _ _ ⟨fun _ hk => absurd hk List.not_mem_nil, ?_⟩
            clear hK
            refine os_done ⟨rfl, ?_⟩
            go_wp2_with fail
            go_meet
            exact ⟨gk, gn, rfl, rfl, Lib.hid ⟨hb9, hne, by omega, by omega, hh9, Hh9.out⟩⟩
          · refine wp_alloc_abs 40 rfl iN0 _ HiN0.out HzN0.out ?_
            intro gn wn Hgn Hhn hbn
            refine hK _ _ ⟨fun _ _ h => Below.tr h (hbn), ?_⟩
            clear hK
            replace hS0 := Below.tr hS0 (hbn)
            refine os_run rfl rfl (fun K hK => ?_)
            refine wp_alloc_abs 38 rfl iK0 _ HiK0.out HzK0.out ?_
            intro gk wk Hgk Hhk hbk
            refine hK _ _ ⟨fun _ _ h => Below.tr h (hbk), ?_⟩
            clear hK
            replace hS0 := Below.tr hS0 (hbk)
            refine os_run rfl rfl (fun K hK => ?_)
            have Hhk2 := Hhk.out
            have Hhn2 := heap_bel Hhn.out hbk
            have e1 := Hgk.out; have e2 := Hgn.out
            have e3 : w6.drew.heap.size = w6.heap.size := rfl
            have hne : gk ≠ gn := by omega
            refine wp_store_abs 38 (.tmp 14) (.tmp 85) rfl gk 38 _ (bs t.k).toArray rfl rfl Hhk2 (by simpa using iK.out) (by simp [Value.cells, bs_length, Lk.out]) (by simp; exact bs_oneCell _) ?_
            intro w8 Hh8 hg8
            have hh8 := (hg8.block gn (by omega) (by simp; omega)).trans Hhn2
            have hb8 : Below w6.heap.size w6 w8 := (Below.tr (Below.dr1 w6) (Below.tr hbn hbk)).grown hg8 (Below.tr (Below.dr1 w6) (Below.tr hbn hbk)).size (fun j hj => by injection hj with hj; omega)
            have hl8 : gk < w8.heap.size ∧ gn < w8.heap.size := by have := hg8.size; omega
            refine hK _ _ ⟨fun _ _ _ => Below.dr hb8, ?_⟩
            clear hK
            replace hS0 := Below.dr hb8
            refine os_run rfl rfl (fun K hK => ?_)
            refine wp_store_abs 40 (.tmp 15) (.tmp 87) rfl gn 40 _ (bs t.n).toArray rfl rfl hh8 (by simpa using iN.out) (by simp [Value.cells, bs_length, Ln.out]) (by simp; exact bs_oneCell _) ?_
            intro w9 Hh9 hg9
            have hh9 := (hg9.block gk hl8.1 (by simp; omega)).trans Hh8.out
            have hb9 : Below w6.heap.size w6 w9 := hb8.grown hg9 hb8.size (fun j hj => by injection hj with hj; omega)
            refine hK _ _ ⟨fun _ hk => absurd hk List.not_mem_nil, ?_⟩
            clear hK
            refine os_done ⟨rfl, ?_⟩
            go_wp2_with fail
            go_meet
            exact ⟨gk, gn, rfl, rfl, Lib.hid ⟨hb9, hne, by omega, by omega, hh9, Hh9.out⟩⟩
          --dev>
        case rest =>
          obtain ⟨gk, gn, rfl, rfl, H7⟩ := hcut
          obtain ⟨b67, hkn, hk6, hn6, hck, hcn⟩ := H7.out
          clear H7
          have b67 := Lib.hid b67; have Hck := Lib.hid hck; have Hcn := Lib.hid hcn
          have kl : 31 < t.k.length := by rw [Lk.out]; decide
          have nl : 0 < t.n.length := by rw [Ln.out]; decide
          obtain ⟨xk, hxk⟩ : ∃ x, x = t.k[31] := ⟨_, rfl⟩
          obtain ⟨xn0, hxn0⟩ : ∃ x, x = t.n[0] := ⟨_, rfl⟩
          have ck31 : wc.cell? ⟨gk, 31, none⟩ = some (.int .u8 (xk.toNat : Int)) := by rw [cell_of_row wc gk 31 _ _ _ hck, List.getElem?_toArray, bs_get t.k 31 kl, hxk]; rfl
          have cn0 : wc.cell? ⟨gn, 0, none⟩ = some (.int .u8 (xn0.toNat : Int)) := by rw [cell_of_row wc gn 0 _ _ _ hcn, List.getElem?_toArray, bs_get t.n 0 nl, hxn0]; rfl
          have fk31 : wc.frozen? ⟨gk, 31, none⟩ = false := frozen_of_row wc gk 31 _ _ hck
          have fn0 : wc.frozen? ⟨gn, 0, none⟩ = false := frozen_of_row wc gn 0 _ _ hcn
          obtain ⟨zk, hzk⟩ : ∃ z, z = xk ^^^ 1 := ⟨_, rfl⟩
          obtain ⟨zn, hzn⟩ : ∃ z, z = xn0 ^^^ 128 := ⟨_, rfl⟩
          have hx1 : bits .xor .u8 (xk.toNat : Int) 1 = (zk.toNat : Int) := by rw [hzk]; exact xor_byte xk 1
          have hx2 : bits .xor .u8 (xn0.toNat : Int) 128 = (zn.toNat : Int) := by rw [hzn]; exact xor_byte xn0 128
          have Hzk := Lib.hid hzk; have Hzn := Lib.hid hzn
          clear hzk hzn
          have Hxk := Lib.hid hxk; have Hxn0 := Lib.hid hxn0
          clear hck hcn hxk hxn0
          go_wp2_with fail
          clear ck31 cn0 fk31 fn0 hx1 hx2
          have Hk8 : Hid (((wc.setCell ⟨gk, 31, none⟩ (.int .u8 (zk.toNat : Int))).setCell ⟨gn, 0, none⟩ (.int .u8 (zn.toNat : Int))).heap[gk]? = some (.cells (bs (t.k.set 31 zk)).toArray 38 (0, 0))) := by
            show _ = _
            rw [Below.heap_setCell _ _ _ _ (show gk ≠ gn from hkn), setCell_block _ _ _ _ _ _ Hck.out]
            simp [bs, bv]
          have Hn8 : Hid (((wc.setCell ⟨gk, 31, none⟩ (.int .u8 (zk.toNat : Int))).setCell ⟨gn, 0, none⟩ (.int .u8 (zn.toNat : Int))).heap[gn]? = some (.cells (bs (t.n.set 0 zn)).toArray 40 (0, 0))) := by
            show _ = _
            rw [setCell_block _ _ _ _ _ _ ((Below.heap_setCell _ _ _ _ (show gn ≠ gk from fun e => hkn e.symm)).trans Hcn.out)]
            simp [bs, bv]
          have b68 : Hid (Below w6.heap.size w6 ((wc.setCell ⟨gk, 31, none⟩ (.int .u8 (zk.toNat : Int))).setCell ⟨gn, 0, none⟩ (.int .u8 (zn.toNat : Int)))) :=
            (b67.out.setCell (p := ⟨gk, 31, none⟩) hk6 _).setCell (p := ⟨gn, 0, none⟩) hn6 _
          generalize (wc.setCell ⟨gk, 31, none⟩ (.int .u8 (zk.toNat : Int))).setCell ⟨gn, 0, none⟩ (.int .u8 (zn.toNat : Int)) = w8 at Hk8 Hn8 b68 ⊢
          have HB8 : Hid (Below w2.heap.size w2 w8) := Below.tr HB6.out b68.out
          have c44 := cell_bel c44' b68.out
          have ck := cell_bel ck' b68.out
          have gl3 : g3 < w8.heap.size := block_lt_of c44
          have gls : gs < w8.heap.size := block_lt_of ck
          have Rk8 : Hid (w8.rangeAt g3 0 (bs t.k) ∧ w8.rangeAt g3 32 (bs t.n)) := ⟨rangeAt_bel Rk6.out.1 b68.out gl3', rangeAt_bel Rk6.out.2 b68.out gl3'⟩
          have glk : gk < w8.heap.size := (Array.getElem?_eq_some_iff.1 Hk8.out).1
          have gln : gn < w8.heap.size := (Array.getElem?_eq_some_iff.1 Hn8.out).1
          have iKs : Hid ((Try.prog.info? 38).map (·.size) = some (bs (t.k.set 31 zk)).length) := by rw [bs_length, List.length_set, Lk.out]; exact Try.szK
          have iNs : Hid ((Try.prog.info? 40).map (·.size) = some (bs (t.n.set 0 zn)).length) := by rw [bs_length, List.length_set, Ln.out]; exact Try.szN
          clear b67 Hck Hcn c44' ck' gl3' gls' Rk6 HB6 b68 hk6 hn6 HiK0 HzK0 HiN0 HzN0
          have hnk : t.k.set 31 zk ≠ t.k := by
            intro e
            have h := congrArg (fun l => l[31]?) e
            simp only [List.getElem?_set_self kl, List.getElem?_eq_getElem kl, Option.some.injEq] at h
            rw [← Hxk.out, Hzk.out] at h
            exact xor_ne xk 1 (by decide) h
          have hnn : t.n.set 0 zn ≠ t.n := by
            intro e
            have h := congrArg (fun l => l[0]?) e
            simp only [List.getElem?_set_self nl, List.getElem?_eq_getElem nl, Option.some.injEq] at h
            rw [← Hxn0.out, Hzn.out] at h
            exact xor_ne xn0 128 (by decide) h
          have Hnk := Lib.hid hnk; have Hnn := Lib.hid hnn
          clear hnk hnn kl nl Hxk Hxn0 hkn Hzk Hzn
          obtain ⟨k2, hk2⟩ : ∃ k2, k2 = t.k.set 31 zk := ⟨_, rfl⟩
          obtain ⟨n2, hn2⟩ : ∃ n2, n2 = t.n.set 0 zn := ⟨_, rfl⟩
          have Lk2 : Hid (k2.length = 32) := by rw [hk2, List.length_set]; exact Lk.out
          have Ln2 : Hid (n2.length = 12) := by rw [hn2, List.length_set]; exact Ln.out
          rw [← hk2] at Hk8 iKs Hnk
          rw [← hn2] at Hn8 iNs Hnn
          clear hk2 hn2
          refine wp_calm ?_
          refine wp_region_os (fun _ w' => Below (w8).drew.heap.size (w8).drew w') [1, 3, 5, 9] (.move 0 (.take 1 (.move 2 (.take 3 (.move 4 (.take 5 (.move 6 (.move 7 (.move 8 (.take 9 (.run 10 [] (.move 11 (.move 12 (.move 13 (.move 14 (.move 15 .done)))))))))))))))) (by kernel_rfl) (by kernel_rfl) (fun _ _ _ _ _ h => nomatch h.1) ?_
          have hS0 : Below (w8).drew.heap.size (w8).drew (w8).drew := Below.refl _ _
          refine os_move rfl rfl rfl (Nat.le_of_ble_eq_true rfl) ?_
          apply Exists.intro
          refine ⟨fun w' K hK => ?_, ?_⟩
          (focus
            go_simp
            exact hK)
          refine os_load_mid 38 (.tmp 14) (gk) (0) (bs k2) _ hS0 rfl rfl rfl rfl rfl (uK.out) rfl (iKs.out) (fun w' h => rangeAt_bel (range_dr (range_block Hk8.out)) h glk) ⟨_, rfl, ?_⟩
          refine os_move rfl rfl rfl (Nat.le_of_ble_eq_true rfl) ?_
          apply Exists.intro
          refine ⟨fun w' K hK => ?_, ?_⟩
          (focus
            go_simp
            exact hK)
          refine os_load_mid 40 (.tmp 99) (g3) (32) (bs t.n) _ hS0 rfl rfl rfl rfl rfl (uN.out) rfl (iN.out) (fun w' h => rangeAt_bel (range_dr (Rk8.out.2)) h gl3) ⟨_, rfl, ?_⟩
          refine os_move rfl rfl rfl (Nat.le_of_ble_eq_true rfl) ?_
          apply Exists.intro
          refine ⟨fun w' K hK => ?_, ?_⟩
          (focus
            go_simp
            exact hK)
          refine os_yld hS0 rfl rfl rfl (Nat.le_of_ble_eq_true rfl) ?_
          apply Exists.intro
          refine ⟨fun w' hS' K hK => ?_, ?_⟩
          (focus
            obtain ⟨hcc, hff⟩ := bcellB (Below.undr hS')
            clear hS'
            go_simp
            exact hK)
          refine os_move rfl rfl rfl (Nat.le_of_ble_eq_true rfl) ?_
          apply Exists.intro
          refine ⟨fun w' K hK => ?_, ?_⟩
          (focus
            go_simp
            exact hK)
          refine os_move rfl rfl rfl (Nat.le_of_ble_eq_true rfl) ?_
          apply Exists.intro
          refine ⟨fun w' K hK => ?_, ?_⟩
          (focus
            go_simp
            exact hK)
          refine os_move rfl rfl rfl (Nat.le_of_ble_eq_true rfl) ?_
          apply Exists.intro
          refine ⟨fun w' K hK => ?_, ?_⟩
          (focus
            go_simp
            exact hK)
          refine os_yld hS0 rfl rfl rfl (Nat.le_of_ble_eq_true rfl) ?_
          apply Exists.intro
          refine ⟨fun w' hS' K hK => ?_, ?_⟩
          (focus
            obtain ⟨hcc, hff⟩ := bcellB (Below.undr hS')
            clear hS'
            go_simp
            exact hK)
          refine os_run rfl rfl (fun K hK => ?_)
          go_wp2_with fail
          refine (Open_any b F' (Old w2) s.src s.rows w8.drew (HS.out.box.fr (Fr.of_below (M := NoB) (Below.tr HB8.out (Below.dr1 _))) (fun _ _ e => e)) k2 t.n Lk2.out Ln.out HA hn1 hc1 t.head (S44.out.belF (Below.tr HB8.out (Below.dr1 _)) (fun _ h => h)) XA xn xc o (Hsx.out.belF (Below.tr HB8.out (Below.dr1 _)) (fun _ h => h)) (fun k hk => Nat.lt_of_lt_of_le hk HB8.out.size) HrL.out none (Hoth.out _ _ _ (.inl Hnk.out))).mono ?_
          rintro e w9 ⟨B16, m16, d16, rfl, hb, -⟩
          go_wp2_with fail
          refine ⟨fun _ hk => absurd hk List.not_mem_nil, ?_⟩
          replace hS0 := Below.tr hS0 (hb)
          refine os_move rfl rfl rfl (Nat.le_of_ble_eq_true rfl) ?_
          apply Exists.intro
          refine ⟨fun w' K hK => ?_, ?_⟩
          (focus
            go_simp
            exact hK)
          refine os_move rfl rfl rfl (Nat.le_of_ble_eq_true rfl) ?_
          apply Exists.intro
          refine ⟨fun w' K hK => ?_, ?_⟩
          (focus
            go_simp
            exact hK)
          refine os_move rfl rfl rfl (Nat.le_of_ble_eq_true rfl) ?_
          apply Exists.intro
          refine ⟨fun w' K hK => ?_, ?_⟩
          (focus
            go_simp
            exact hK)
          refine os_move rfl rfl rfl (Nat.le_of_ble_eq_true rfl) ?_
          apply Exists.intro
          refine ⟨fun w' K hK => ?_, ?_⟩
          (focus
            go_simp
            exact hK)
          refine os_move rfl rfl rfl (Nat.le_of_ble_eq_true rfl) ?_
          apply Exists.intro
          refine ⟨fun w' K hK => ?_, ?_⟩
          (focus
            go_simp
            exact hK)
          refine os_done ⟨rfl, ?_⟩
          have bs_ : Hid (Below w8.heap.size w8 w9) := Below.tr (Below.dr1 _) hS0
          replace HB8 := Lib.hid (Below.tr HB8.out bs_.out)
          replace c44 := cell_bel c44 bs_.out
          replace ck := cell_bel ck bs_.out
          replace Rk8 := Lib.hid (And.intro (rangeAt_bel Rk8.out.1 bs_.out gl3) (rangeAt_bel Rk8.out.2 bs_.out gl3))
          replace Hk8 := Lib.hid (heap_bel Hk8.out bs_.out)
          replace Hn8 := Lib.hid (heap_bel Hn8.out bs_.out)
          replace gl3 : g3 < w9.heap.size := block_lt_of c44
          replace gls : gs < w9.heap.size := block_lt_of ck
          replace glk : gk < w9.heap.size := (Array.getElem?_eq_some_iff.1 Hk8.out).1
          replace gln : gn < w9.heap.size := (Array.getElem?_eq_some_iff.1 Hn8.out).1
          clear bs_ hS0 hb
          go_wp2_with fail
          refine wp_calm ?_
          refine wp_region_os (fun _ w' => Below (w9).drew.heap.size (w9).drew w') [2, 3, 5, 9] (.move 0 (.move 1 (.take 2 (.take 3 (.move 4 (.take 5 (.move 6 (.move 7 (.move 8 (.take 9 (.run 10 [] (.move 11 (.move 12 (.move 13 (.move 14 (.move 15 .done)))))))))))))))) (by kernel_rfl) (by kernel_rfl) (fun _ _ _ _ _ h => nomatch h.1) ?_
          have hS0 : Below (w9).drew.heap.size (w9).drew (w9).drew := Below.refl _ _
          refine os_move rfl rfl rfl (Nat.le_of_ble_eq_true rfl) ?_
          apply Exists.intro
          refine ⟨fun w' K hK => ?_, ?_⟩
          (focus
            go_simp
            exact hK)
          refine os_move rfl rfl rfl (Nat.le_of_ble_eq_true rfl) ?_
          apply Exists.intro
          refine ⟨fun w' K hK => ?_, ?_⟩
          (focus
            go_simp
            exact hK)
          refine os_load_mid 38 (.tmp 112) (g3) (0) (bs t.k) _ hS0 rfl rfl rfl rfl rfl (uK.out) rfl (iK.out) (fun w' h => rangeAt_bel (range_dr (Rk8.out.1)) h gl3) ⟨_, rfl, ?_⟩
          refine os_load_mid 40 (.tmp 15) (gn) (0) (bs n2) _ hS0 rfl rfl rfl rfl rfl (uN.out) rfl (iNs.out) (fun w' h => rangeAt_bel (range_dr (range_block Hn8.out)) h gln) ⟨_, rfl, ?_⟩
          refine os_move rfl rfl rfl (Nat.le_of_ble_eq_true rfl) ?_
          apply Exists.intro
          refine ⟨fun w' K hK => ?_, ?_⟩
          (focus
            go_simp
            exact hK)
          refine os_yld hS0 rfl rfl rfl (Nat.le_of_ble_eq_true rfl) ?_
          apply Exists.intro
          refine ⟨fun w' hS' K hK => ?_, ?_⟩
          (focus
            obtain ⟨hcc, hff⟩ := bcellB (Below.undr hS')
            clear hS'
            go_simp
            exact hK)
          refine os_move rfl rfl rfl (Nat.le_of_ble_eq_true rfl) ?_
          apply Exists.intro
          refine ⟨fun w' K hK => ?_, ?_⟩
          (focus
            go_simp
            exact hK)
          refine os_move rfl rfl rfl (Nat.le_of_ble_eq_true rfl) ?_
          apply Exists.intro
          refine ⟨fun w' K hK => ?_, ?_⟩
          (focus
            go_simp
            exact hK)
          refine os_move rfl rfl rfl (Nat.le_of_ble_eq_true rfl) ?_
          apply Exists.intro
          refine ⟨fun w' K hK => ?_, ?_⟩
          (focus
            go_simp
            exact hK)
          refine os_yld hS0 rfl rfl rfl (Nat.le_of_ble_eq_true rfl) ?_
          apply Exists.intro
          refine ⟨fun w' hS' K hK => ?_, ?_⟩
          (focus
            obtain ⟨hcc, hff⟩ := bcellB (Below.undr hS')
            clear hS'
            go_simp
            exact hK)
          refine os_run rfl rfl (fun K hK => ?_)
          go_wp2_with fail
          refine (Open_any b F' (Old w2) s.src s.rows w9.drew (HS.out.box.fr (Fr.of_below (M := NoB) (Below.tr HB8.out (Below.dr1 _))) (fun _ _ e => e)) t.k n2 Lk.out Ln2.out HA hn1 hc1 t.head (S44.out.belF (Below.tr HB8.out (Below.dr1 _)) (fun _ h => h)) XA xn xc o (Hsx.out.belF (Below.tr HB8.out (Below.dr1 _)) (fun _ h => h)) (fun k hk => Nat.lt_of_lt_of_le hk HB8.out.size) HrL.out none (Hoth.out _ _ _ (.inr (.inl Hnn.out)))).mono ?_
          rintro e w10 ⟨B17, m17, d17, rfl, hb, -⟩
          go_wp2_with fail
          refine ⟨fun _ hk => absurd hk List.not_mem_nil, ?_⟩
          replace hS0 := Below.tr hS0 (hb)
          refine os_move rfl rfl rfl (Nat.le_of_ble_eq_true rfl) ?_
          apply Exists.intro
          refine ⟨fun w' K hK => ?_, ?_⟩
          (focus
            go_simp
            exact hK)
          refine os_move rfl rfl rfl (Nat.le_of_ble_eq_true rfl) ?_
          apply Exists.intro
          refine ⟨fun w' K hK => ?_, ?_⟩
          (focus
            go_simp
            exact hK)
          refine os_move rfl rfl rfl (Nat.le_of_ble_eq_true rfl) ?_
          apply Exists.intro
          refine ⟨fun w' K hK => ?_, ?_⟩
          (focus
            go_simp
            exact hK)
          refine os_move rfl rfl rfl (Nat.le_of_ble_eq_true rfl) ?_
          apply Exists.intro
          refine ⟨fun w' K hK => ?_, ?_⟩
          (focus
            go_simp
            exact hK)
          refine os_move rfl rfl rfl (Nat.le_of_ble_eq_true rfl) ?_
          apply Exists.intro
          refine ⟨fun w' K hK => ?_, ?_⟩
          (focus
            go_simp
            exact hK)
          refine os_done ⟨rfl, ?_⟩
          have bs_ : Hid (Below w9.heap.size w9 w10) := Below.tr (Below.dr1 _) hS0
          replace HB8 := Lib.hid (Below.tr HB8.out bs_.out)
          replace c44 := cell_bel c44 bs_.out
          replace ck := cell_bel ck bs_.out
          replace Rk8 := Lib.hid (And.intro (rangeAt_bel Rk8.out.1 bs_.out gl3) (rangeAt_bel Rk8.out.2 bs_.out gl3))
          replace Hk8 := Lib.hid (heap_bel Hk8.out bs_.out)
          replace Hn8 := Lib.hid (heap_bel Hn8.out bs_.out)
          replace gl3 : g3 < w10.heap.size := block_lt_of c44
          replace gls : gs < w10.heap.size := block_lt_of ck
          replace glk : gk < w10.heap.size := (Array.getElem?_eq_some_iff.1 Hk8.out).1
          replace gln : gn < w10.heap.size := (Array.getElem?_eq_some_iff.1 Hn8.out).1
          clear bs_ hS0 hb
          go_upto_region 18 with fail
          go_cut [20, 21] from 124 to 142 (fun s20 s21 wx => s21 = .bool false ∧ Hid (Below w10.heap.size w10 wx))
          case first =>
            --dev<
            refine wp_calm ?_
            refine wp_region_os (fun _ w' => Below (w10).drew.heap.size (w10).drew w') [2, 4, 6, 13] (.move 0 (.move 1 (.take 2 (.move 3 (.take 4 (.move 5 (.take 6 (.move 10 (.move 11 (.move 12 (.take 13 (.two 7 [2, 4, 13] (.run 8 [2, 4, 6, 13] (.run 9 [2, 4, 6, 13] (.run 14 [6] (.move 15 (.move 16 (.move 17 (.move 18 (.move 19 .done)))))))) 8 [2, 4, 6, 13] (.run 7 [2, 4, 13] (.run 9 [2, 4, 6, 13] (.run 14 [6] (.move 15 (.move 16 (.move 17 (.move 18 (.move 19 .done)))))))))))))))))))) (by kernel_rfl) (by kernel_rfl) (fun _ _ _ _ _ h => nomatch h.1) ?_
            have hS0 : Below (w10).drew.heap.size (w10).drew (w10).drew := Below.refl _ _
            refine os_move rfl rfl rfl (Nat.le_of_ble_eq_true rfl) ?_
            apply Exists.intro
            refine ⟨fun w' K hK => ?_, ?_⟩
            (focus
              go_simp
              exact hK)
            refine os_move rfl rfl rfl (Nat.le_of_ble_eq_true rfl) ?_
            apply Exists.intro
            refine ⟨fun w' K hK => ?_, ?_⟩
            (focus
              go_simp
              exact hK)
            refine os_load_mid 38 (.tmp 126) (g3) (0) (bs t.k) _ hS0 rfl rfl rfl rfl rfl (uK.out) rfl (iK.out) (fun w' h => rangeAt_bel (range_dr (Rk8.out.1)) h gl3) ⟨_, rfl, ?_⟩
            refine os_move rfl rfl rfl (Nat.le_of_ble_eq_true rfl) ?_
            apply Exists.intro
            refine ⟨fun w' K hK => ?_, ?_⟩
            (focus
              go_simp
              exact hK)
            refine os_load_mid 40 (.tmp 128) (g3) (32) (bs t.n) _ hS0 rfl rfl rfl rfl rfl (uN.out) rfl (iN.out) (fun w' h => rangeAt_bel (range_dr (Rk8.out.2)) h gl3) ⟨_, rfl, ?_⟩
            refine os_move rfl rfl rfl (Nat.le_of_ble_eq_true rfl) ?_
            apply Exists.intro
            refine ⟨fun w' K hK => ?_, ?_⟩
            (focus
              go_simp
              exact hK)
            refine os_yld hS0 rfl rfl rfl (Nat.le_of_ble_eq_true rfl) ?_
            apply Exists.intro
            refine ⟨fun w' hS' K hK => ?_, ?_⟩
            (focus
              obtain ⟨hcc, hff⟩ := bcellB (Below.undr hS')
              clear hS'
              go_simp
              exact hK)
            refine os_move rfl rfl rfl (Nat.le_of_ble_eq_true rfl) ?_
            apply Exists.intro
            refine ⟨fun w' K hK => ?_, ?_⟩
            (focus
              go_simp
              exact hK)
            refine os_move rfl rfl rfl (Nat.le_of_ble_eq_true rfl) ?_
            apply Exists.intro
            refine ⟨fun w' K hK => ?_, ?_⟩
            (focus
              go_simp
              exact hK)
            refine os_move rfl rfl rfl (Nat.le_of_ble_eq_true rfl) ?_
            apply Exists.intro
            refine ⟨fun w' K hK => ?_, ?_⟩
            (focus
              go_simp
              exact hK)
            refine os_yld hS0 rfl rfl rfl (Nat.le_of_ble_eq_true rfl) ?_
            apply Exists.intro
            refine ⟨fun w' hS' K hK => ?_, ?_⟩
            (focus
              obtain ⟨hcc, hff⟩ := bcellB (Below.undr hS')
              clear hS'
              go_simp
              exact hK)
            refine os_two rfl rfl rfl rfl (fun K hK => ?_) (fun K hK => ?_)
            · go_wp2_with fail
              refine (CopyBytes_sl (S44.out.belF (Below.tr HB8.out (Below.dr1 _)) (fun _ h => h)) (fun k hk => Nat.lt_of_lt_of_le hk HB8.out.size) (by omega)).mono ?_
              rintro e wa ⟨Aa, ca, rfl, hown, hba⟩
              go_wp2_with fail
              refine ⟨fun _ _ h => Below.tr h (hba), ?_⟩
              replace hS0 := Below.tr hS0 (hba)
              refine os_run rfl rfl (fun K hK => ?_)
              go_wp2_with fail
              have ownb := hown.alloc (.cells #[.int .u8 0] 5)
              have rb := Rd.one wa 0
              have hbb := Below.al wa (.cells #[.int .u8 0] 5)
              have hgz : wa.heap.size = wa.heap.size := rfl
              have hbz : w10.heap.size ≤ wa.heap.size := hba.size
              replace rb : Rd (wa.alloc (.cells #[.int .u8 0] 5)) (some ⟨wa.heap.size, 0, none⟩) (bs [0]) := rb
              generalize wa.alloc (.cells #[.int .u8 0] 5) = wb at ownb rb hbb ⊢
              generalize hgz0 : wa.heap.size = gz at rb hgz ⊢
              refine ⟨fun _ _ h => Below.tr h (hbb), ?_⟩
              replace hS0 := Below.tr hS0 (hbb)
              refine os_run rfl rfl (fun K hK => ?_)
              refine wp_append_bytes (.tmp 132) (.tmp 133) rfl w10.heap.size Aa hn1 ca t.head rfl ownb (some ⟨gz, 0, none⟩) 1 1 [0] rfl rfl rb (by omega) hS0.size ?_
              intro A9 c9 w9' hown9 hg9 _
              have hb9 : Below w10.heap.size w10 w9' := (Below.undr hS0).grown hg9 hS0.size (fun j hj => (ownb.lt j hj).1)
              refine hK _ _ ⟨fun _ _ _ => Below.dr hb9, ?_⟩
              clear hK
              replace hS0 := Below.dr hb9
              refine os_run rfl rfl (fun K hK => ?_)
              go_wp2_with fail
              refine (Open_any b F' (Old w9') s.src s.rows w9' (HS.out.box.fr (Fr.of_below (M := NoB) (Below.tr HB8.out hb9)) (fun _ _ e => e)) t.k t.n Lk.out Ln.out A9 (hn1 + 1) c9 (t.head ++ [0]) ((Sl.of_own hown9).mono (fun k hk => hk.2.1)) XA xn xc o ((Hsx.out.belF (Below.tr HB8.out hb9) (fun _ h => h)).mono (fun k hk => Nat.lt_of_lt_of_le hk (Below.tr HB8.out hb9).size)) (fun k hk => hk) HrL.out none (Hoth.out _ _ _ (.inr (.inr (fun e => by have := congrArg List.length e; simp at this))))).mono ?_
              rintro e w11 ⟨B18, m18, d18, rfl, hb, -⟩
              go_wp2_with fail
              refine ⟨fun _ _ h => Below.tr h (hb), ?_⟩
              replace hS0 := Below.tr hS0 (hb)
              refine os_move rfl rfl rfl (Nat.le_of_ble_eq_true rfl) ?_
              apply Exists.intro
              refine ⟨fun w' K hK => ?_, ?_⟩
              (focus
                go_simp
                exact hK)
              refine os_move rfl rfl rfl (Nat.le_of_ble_eq_true rfl) ?_
              apply Exists.intro
              refine ⟨fun w' K hK => ?_, ?_⟩
              (focus
                go_simp
                exact hK)
              refine os_move rfl rfl rfl (Nat.le_of_ble_eq_true rfl) ?_
              apply Exists.intro
              refine ⟨fun w' K hK => ?_, ?_⟩
              (focus
                go_simp
                exact hK)
              refine os_move rfl rfl rfl (Nat.le_of_ble_eq_true rfl) ?_
              apply Exists.intro
              refine ⟨fun w' K hK => ?_, ?_⟩
              (focus
                go_simp
                exact hK)
              refine os_move rfl rfl rfl (Nat.le_of_ble_eq_true rfl) ?_
              apply Exists.intro
              refine ⟨fun w' K hK => ?_, ?_⟩
              (focus
                go_simp
                exact hK)
              refine os_done ⟨rfl, ?_⟩
              go_wp2_with fail
              go_meet
              exact ⟨rfl, Lib.hid (Below.undr hS0)⟩
            · go_wp2_with fail
              have rb := Rd.one w10 0
              have hbb : Below w10.drew.heap.size w10.drew (w10.alloc (.cells #[.int .u8 0] 5)).drew := Below.dr (below_drewN (Below.al w10 _) 1)
              replace rb : Rd (w10.alloc (.cells #[.int .u8 0] 5)).drew (some ⟨w10.heap.size, 0, none⟩) (bs [0]) := rb
              have hzl : w10.heap.size < (w10.alloc (.cells #[.int .u8 0] 5)).drew.heap.size := by show _ < (w10.alloc _).heap.size; simp
              generalize (w10.alloc (.cells #[.int .u8 0] 5)).drew = wa at rb hbb hzl ⊢
              refine ⟨fun _ _ h => Below.tr h (hbb), ?_⟩
              replace hS0 := Below.tr hS0 (hbb)
              refine os_run rfl rfl (fun K hK => ?_)
              go_wp2_with fail
              refine (CopyBytes_sl (S44.out.belF (Below.tr HB8.out (Below.undr hbb)) (fun _ h => h)) (fun k hk => Nat.lt_of_lt_of_le (Nat.lt_of_lt_of_le hk HB8.out.size) hbb.size) (by omega)).mono ?_
              rintro e wb ⟨Aa, ca, rfl, hown, hba⟩
              have ownb := hown
              replace rb := rb.below (fun ad h _ => by injection h with h; subst h; exact hzl) hba
              go_wp2_with fail
              refine ⟨fun _ _ h => Below.tr h (hba), ?_⟩
              replace hS0 := Below.tr hS0 (hba)
              refine os_run rfl rfl (fun K hK => ?_)
              refine wp_append_bytes (.tmp 132) (.tmp 133) rfl w10.heap.size Aa hn1 ca t.head rfl (own_mono ownb hbb.size) (some ⟨w10.heap.size, 0, none⟩) 1 1 [0] rfl rfl rb (by omega) hS0.size ?_
              intro A9 c9 w9' hown9 hg9 _
              have hb9 : Below w10.heap.size w10 w9' := (Below.undr hS0).grown hg9 hS0.size (fun j hj => Nat.le_trans hbb.size (ownb.lt j hj).1)
              refine hK _ _ ⟨fun _ _ _ => Below.dr hb9, ?_⟩
              clear hK
              replace hS0 := Below.dr hb9
              refine os_run rfl rfl (fun K hK => ?_)
              go_wp2_with fail
              refine (Open_any b F' (Old w9') s.src s.rows w9' (HS.out.box.fr (Fr.of_below (M := NoB) (Below.tr HB8.out hb9)) (fun _ _ e => e)) t.k t.n Lk.out Ln.out A9 (hn1 + 1) c9 (t.head ++ [0]) ((Sl.of_own hown9).mono (fun k hk => hk.2.1)) XA xn xc o ((Hsx.out.belF (Below.tr HB8.out hb9) (fun _ h => h)).mono (fun k hk => Nat.lt_of_lt_of_le hk (Below.tr HB8.out hb9).size)) (fun k hk => hk) HrL.out none (Hoth.out _ _ _ (.inr (.inr (fun e => by have := congrArg List.length e; simp at this))))).mono ?_
              rintro e w11 ⟨B18, m18, d18, rfl, hb, -⟩
              go_wp2_with fail
              refine ⟨fun _ _ h => Below.tr h (hb), ?_⟩
              replace hS0 := Below.tr hS0 (hb)
              refine os_move rfl rfl rfl (Nat.le_of_ble_eq_true rfl) ?_
              apply Exists.intro
              refine ⟨fun w' K hK => ?_, ?_⟩
              (focus
                go_simp
                exact hK)
              refine os_move rfl rfl rfl (Nat.le_of_ble_eq_true rfl) ?_
              apply Exists.intro
              refine ⟨fun w' K hK => ?_, ?_⟩
              (focus
                go_simp
                exact hK)
              refine os_move rfl rfl rfl (Nat.le_of_ble_eq_true rfl) ?_
              apply Exists.intro
              refine ⟨fun w' K hK => ?_, ?_⟩
              (focus
                go_simp
                exact hK)
              refine os_move rfl rfl rfl (Nat.le_of_ble_eq_true rfl) ?_
              apply Exists.intro
              refine ⟨fun w' K hK => ?_, ?_⟩
              (focus
                go_simp
                exact hK)
              refine os_move rfl rfl rfl (Nat.le_of_ble_eq_true rfl) ?_
              apply Exists.intro
              refine ⟨fun w' K hK => ?_, ?_⟩
              (focus
                go_simp
                exact hK)
              refine os_done ⟨rfl, ?_⟩
              go_wp2_with fail
              go_meet
              exact ⟨rfl, Lib.hid (Below.undr hS0)⟩
            --dev>
          case rest =>
            obtain ⟨rfl, H11⟩ := hcut
            replace HB8 := Lib.hid (Below.tr HB8.out H11.out)
            clear H11 c44 ck Rk8 Hk8 Hn8 gl3 gls glk gln iKs iNs iK iN uK uN
            go_wp2_with fail
            go_loopw [22] (fun v wr => ∃ m : Nat, m ≤ k ∧ v = .int .i64 (m : Nat) ∧ Hid (Below w2.heap.size w2 wr)) (fun v _ => k - (intOf v).toNat)
            case atStart => exact ⟨0, Nat.zero_le _, rfl, HB8.out⟩
            case round =>
              rename World => wi
              clear HB8
              obtain ⟨m, hm, rfl, HBi⟩ := hrel
              by_cases hmk : m < k
              · have hmI : (m : Int) < (k : Int) := by omega
                have hm0 : (0 : Int) ≤ (m : Int) := by omega
                have hmn : (m : Int) < (n : Int) := by omega
                obtain ⟨gs', YA, yn, yc, q, hgs', hcy, hsy, hoy, -⟩ := HS.out.out (Below.refl _ _) (show m < n by omega) Hlen.out
                injection hgs' with hgs'; injection hgs' with hgs' _; subst hgs'
                have hne := HS.out.good.apart (by have := Hg.out.1; omega) Hox.out hoy hmk
                have hbeq : Hid ((o == q) = false) := by show _ = _; simpa using hne
                have ck := cell_bel Hcx.out HBi.out
                have cm := cell_bel hcy HBi.out
                have gls : gs < wi.heap.size := block_lt_of ck
                have hxl : Hid (xn ≤ 2048) := by have := Hol.out; show _ ≤ _; omega
                have hyl : Hid (yn ≤ 2048) := by
                  have hy := HS.out.good.own (by have := Hg.out.1; omega) (show m < things.length by have := Hlen.out; omega) hoy
                  have := (Hg.out.2 _ (List.getElem_mem (show m < things.length by have := Hlen.out; omega))).2
                  have := hsy.len; have := hy.2; show _ ≤ _; omega
                have Hsy := Lib.hid hsy
                clear hoy hne hcy hsy
                go_wp2_with fail
                refine wp_calm ?_
                refine wp_region_os (fun _ w' => Below (wi).drew.heap.size (wi).drew w') [3, 7] (.move 0 (.move 1 (.move 2 (.take 3 (.move 4 (.move 5 (.move 6 (.take 7 (.run 8 [] .done))))))))) (by kernel_rfl) (by kernel_rfl) (fun _ _ _ _ _ h => nomatch h.1) ?_
                have hS0 : Below (wi).drew.heap.size (wi).drew (wi).drew := Below.refl _ _
                refine os_move rfl rfl rfl (Nat.le_of_ble_eq_true rfl) ?_
                apply Exists.intro
                refine ⟨fun w' K hK => ?_, ?_⟩
                (focus
                  go_simp
                  exact hK)
                refine os_move rfl rfl rfl (Nat.le_of_ble_eq_true rfl) ?_
                apply Exists.intro
                refine ⟨fun w' K hK => ?_, ?_⟩
                (focus
                  go_simp
                  exact hK)
                refine os_move rfl rfl rfl (Nat.le_of_ble_eq_true rfl) ?_
                apply Exists.intro
                refine ⟨fun w' K hK => ?_, ?_⟩
                (focus
                  go_simp
                  exact hK)
                refine os_yld hS0 rfl rfl rfl (Nat.le_of_ble_eq_true rfl) ?_
                apply Exists.intro
                refine ⟨fun w' hS' K hK => ?_, ?_⟩
                (focus
                  obtain ⟨hcc, hff⟩ := bcellB (Below.undr hS')
                  clear hS'
                  go_simp
                  exact hK)
                refine os_move rfl rfl rfl (Nat.le_of_ble_eq_true rfl) ?_
                apply Exists.intro
                refine ⟨fun w' K hK => ?_, ?_⟩
                (focus
                  go_simp
                  exact hK)
                refine os_move rfl rfl rfl (Nat.le_of_ble_eq_true rfl) ?_
                apply Exists.intro
                refine ⟨fun w' K hK => ?_, ?_⟩
                (focus
                  go_simp
                  exact hK)
                refine os_move rfl rfl rfl (Nat.le_of_ble_eq_true rfl) ?_
                apply Exists.intro
                refine ⟨fun w' K hK => ?_, ?_⟩
                (focus
                  go_simp
                  exact hK)
                refine os_yld hS0 rfl rfl rfl (Nat.le_of_ble_eq_true rfl) ?_
                apply Exists.intro
                refine ⟨fun w' hS' K hK => ?_, ?_⟩
                (focus
                  obtain ⟨hcc, hff⟩ := bcellB (Below.undr hS')
                  clear hS'
                  go_simp
                  exact hK)
                refine os_run rfl rfl (fun K hK => ?_)
                go_wp2_with fail
                refine (Same_at (Hsx.out.belF (Below.tr HBi.out (Below.dr1 _)) (fun _ h => h)) (Hsy.out.belF (Below.tr HBi.out (Below.dr1 _)) (fun _ h => h)) (by have := hxl.out; omega) (by have := hyl.out; omega) false hbeq.out).mono ?_
                rintro e wj ⟨rfl, xj, rfl⟩
                go_wp2_with fail
                refine ⟨fun _ hk => absurd hk List.not_mem_nil, ?_⟩
                replace hS0 := Below.tr hS0 (Below.drd wi (1 + xj))
                refine os_done ⟨rfl, ?_⟩
                replace HBi := Lib.hid (Below.tr HBi.out (Below.drN wi (1 + xj)))
                clear hS0 ck cm gls
                go_wp2_with fail
                go_roundw
                case rel => exact ⟨m + 1, by omega, by go_num, HBi.out⟩
                case measure => simp [intOf]; omega
              · have hmI : decide ((m : Int) < (k : Int)) = false := decide_eq_false (by omega)
                have hmk2 : m = k := by omega
                clear hmk
                have ck := cell_bel Hcx.out HBi.out
                have hxl : Hid (xn ≤ 2048) := by have := Hol.out; show _ ≤ _; omega
                obtain ⟨r, hr⟩ : ∃ r, (o == other) = r := ⟨_, rfl⟩
                have Hr := Lib.hid hr
                have HO : Hid (Sl wi (Old w2) OA on oc other) := HS.out.oth.belF HBi.out (fun _ h => h)
                have Hxi : Hid (Sl wi (Old w2) XA xn xc o) := Hsx.out.belF HBi.out (fun _ h => h)
                clear hr
                cases sb with
                | false =>
                  go_wp2_with fail
                  go_roundw
                  case rel => exact ⟨k + 1, by omega, by go_num, ⟨false, rfl, Lib.hid ⟨(fun h => nomatch h), fun h => Hsb.out.2 (fun j oj hj => h j oj (by omega))⟩⟩, HBi.out⟩
                  case measure => simp [intOf]; omega
                | true =>
                  go_wp2_with (go_at_call 15; refine (Same_at Hxi.out HO.out (by have := hxl.out; omega) (by have := Ho.out; omega) r Hr.out).mono ?_; rintro e wj ⟨rfl, xj, rfl⟩)
                  go_roundw
                  case rel =>
                    refine ⟨k + 1, by omega, by go_num, ⟨!r, rfl, Lib.hid ⟨fun h j oj hj hoj => ?_, fun h => ?_⟩⟩, Below.tr HBi.out (Below.drN _ _)⟩
                    · rcases Nat.lt_or_ge j k with hl | hl
                      · exact Hsb.out.1 (by first | rfl | trivial) j oj hl hoj
                      · obtain rfl : j = k := by omega
                        rw [Hox.out] at hoj; injection hoj with hoj; subst hoj
                        intro e
                        have h2 : r = true := by rw [← Hr.out, e]; simp
                        rw [h2] at h; cases h
                    · have h1 := h k o (by omega) Hox.out
                      have := Hr.out
                      cases r with
                      | false => rfl
                      | true => simp at this; exact absurd this h1
                  case measure => simp [intOf]; omega
      · have hlI : decide ((k : Int) < n) = false := decide_eq_false (by omega)
        have hkn : k = n := by omega
        subst hkn
        go_wp2_with fail
        have Hst : Hid (sb = true → ∀ (j : Nat) o, s.outs[j]? = some o → o ≠ other) := fun h j o hj => Hsb.out.1 h j o (by have := (List.getElem?_eq_some_iff.1 hj).1; have := HS.out.good.2.1; have := Hlen.out; omega) hj
        clear Hsb
        go_loopw [23] (fun v wr => ∃ m : Nat, m ≤ k ∧ v = .int .i64 (m : Nat) ∧ Hid (Below w2.heap.size w2 wr)) (fun v _ => k - (intOf v).toNat)
        case atStart => exact ⟨0, Nat.zero_le _, rfl, HB.out⟩
        case round =>
          rename World => wi
          clear HB hlI
          obtain ⟨m, hm, rfl, HBi⟩ := hrel
          by_cases hgo : m < k ∧ sb = true
          · obtain ⟨hmk, rfl⟩ := hgo
            have hmI : (m : Int) < (k : Int) := by omega
            have hm0 : (0 : Int) ≤ (m : Int) := by omega
            have hmt : m < things.length := by have := Hlen.out; omega
            obtain ⟨g, og, HA, hn1, hc1, PA, pn, pc, rfl, hg, lk, ln', rk, rn, c44, c45, s44, s45, rr⟩ := HS.out.th.open_ m hmt
            have hbd := Hg.out.2 _ (List.getElem_mem hmt)
            have hstr := HS.out.good.strange other (Hst.out rfl) things[m].k things[m].n things[m].head
            obtain ⟨t, ht⟩ : ∃ t, t = things[m] := ⟨_, rfl⟩
            rw [← ht] at lk ln' rk rn s44 hstr
            have Hstr := Lib.hid hstr; have S44 := Lib.hid s44; have Lk := Lib.hid lk; have Ln := Lib.hid ln'
            have Rk : Hid (wi.rangeAt g (og + m * 46) (bs t.k)) := rangeAt_bel rk HBi.out hg
            have Rn : Hid (wi.rangeAt g (og + m * 46 + 32) (bs t.n)) := rangeAt_bel rn HBi.out hg
            replace c44 := cell_bel c44 HBi.out
            have gl : g < wi.heap.size := block_lt_of c44
            have uK := Lib.hid Try.underlying38
            have uN := Lib.hid Try.underlying40
            have iK : Hid ((Try.prog.info? 38).map (·.size) = some (bs t.k).length) := by rw [bs_length, lk]; exact Try.szK
            have iN : Hid ((Try.prog.info? 40).map (·.size) = some (bs t.n).length) := by rw [bs_length, ln']; exact Try.szN
            clear rk rn c45 s44 s45 rr hbd lk ln' hstr ht hg
            go_wp2_with fail
            refine wp_calm ?_
            refine wp_region_os (fun _ w' => Below (wi).drew.heap.size (wi).drew w') [5, 10, 15] (.move 0 (.move 1 (.move 2 (.move 3 (.move 4 (.take 5 (.move 6 (.move 7 (.move 8 (.move 9 (.take 10 (.move 11 (.move 12 (.move 13 (.move 14 (.take 15 (.move 16 (.run 17 [] (.move 18 (.move 19 (.move 20 (.move 21 (.move 22 .done))))))))))))))))))))))) (by kernel_rfl) (by kernel_rfl) (fun _ _ _ _ _ h => nomatch h.1) ?_
            have hS0 : Below (wi).drew.heap.size (wi).drew (wi).drew := Below.refl _ _
            refine os_move rfl rfl rfl (Nat.le_of_ble_eq_true rfl) ?_
            apply Exists.intro
            refine ⟨fun w' K hK => ?_, ?_⟩
            (focus
              go_simp
              exact hK)
            refine os_move rfl rfl rfl (Nat.le_of_ble_eq_true rfl) ?_
            apply Exists.intro
            refine ⟨fun w' K hK => ?_, ?_⟩
            (focus
              go_simp
              exact hK)
            refine os_move rfl rfl rfl (Nat.le_of_ble_eq_true rfl) ?_
            apply Exists.intro
            refine ⟨fun w' K hK => ?_, ?_⟩
            (focus
              go_simp
              exact hK)
            refine os_move rfl rfl rfl (Nat.le_of_ble_eq_true rfl) ?_
            apply Exists.intro
            refine ⟨fun w' K hK => ?_, ?_⟩
            (focus
              go_simp
              exact hK)
            refine os_move rfl rfl rfl (Nat.le_of_ble_eq_true rfl) ?_
            apply Exists.intro
            refine ⟨fun w' K hK => ?_, ?_⟩
            (focus
              go_simp
              exact hK)
            refine os_load_mid 38 (.tmp 187) (g) (og + m * 46) (bs t.k) _ hS0 rfl rfl rfl rfl rfl (uK.out) rfl (iK.out) (fun w' h => rangeAt_bel (range_dr (Rk.out)) h gl) ⟨_, rfl, ?_⟩
            refine os_move rfl rfl rfl (Nat.le_of_ble_eq_true rfl) ?_
            apply Exists.intro
            refine ⟨fun w' K hK => ?_, ?_⟩
            (focus
              go_simp
              exact hK)
            refine os_move rfl rfl rfl (Nat.le_of_ble_eq_true rfl) ?_
            apply Exists.intro
            refine ⟨fun w' K hK => ?_, ?_⟩
            (focus
              go_simp
              exact hK)
            refine os_move rfl rfl rfl (Nat.le_of_ble_eq_true rfl) ?_
            apply Exists.intro
            refine ⟨fun w' K hK => ?_, ?_⟩
            (focus
              go_simp
              exact hK)
            refine os_move rfl rfl rfl (Nat.le_of_ble_eq_true rfl) ?_
            apply Exists.intro
            refine ⟨fun w' K hK => ?_, ?_⟩
            (focus
              go_simp
              exact hK)
            refine os_load_mid 40 (.tmp 192) (g) (og + m * 46 + 32) (bs t.n) _ hS0 rfl rfl rfl rfl rfl (uN.out) rfl (iN.out) (fun w' h => rangeAt_bel (range_dr (Rn.out)) h gl) ⟨_, rfl, ?_⟩
            refine os_move rfl rfl rfl (Nat.le_of_ble_eq_true rfl) ?_
            apply Exists.intro
            refine ⟨fun w' K hK => ?_, ?_⟩
            (focus
              go_simp
              exact hK)
            refine os_move rfl rfl rfl (Nat.le_of_ble_eq_true rfl) ?_
            apply Exists.intro
            refine ⟨fun w' K hK => ?_, ?_⟩
            (focus
              go_simp
              exact hK)
            refine os_move rfl rfl rfl (Nat.le_of_ble_eq_true rfl) ?_
            apply Exists.intro
            refine ⟨fun w' K hK => ?_, ?_⟩
            (focus
              go_simp
              exact hK)
            refine os_move rfl rfl rfl (Nat.le_of_ble_eq_true rfl) ?_
            apply Exists.intro
            refine ⟨fun w' K hK => ?_, ?_⟩
            (focus
              go_simp
              exact hK)
            refine os_yld hS0 rfl rfl rfl (Nat.le_of_ble_eq_true rfl) ?_
            apply Exists.intro
            refine ⟨fun w' hS' K hK => ?_, ?_⟩
            (focus
              obtain ⟨hcc, hff⟩ := bcellB (Below.undr hS')
              clear hS'
              go_simp
              exact hK)
            refine os_move rfl rfl rfl (Nat.le_of_ble_eq_true rfl) ?_
            apply Exists.intro
            refine ⟨fun w' K hK => ?_, ?_⟩
            (focus
              go_simp
              exact hK)
            refine os_run rfl rfl (fun K hK => ?_)
            go_wp2_with fail
            refine (Open_any b F' (Old w2) s.src s.rows wi.drew (HS.out.box.fr (Fr.of_below (M := NoB) (Below.tr HBi.out (Below.dr1 _))) (fun _ _ e => e)) t.k t.n Lk.out Ln.out HA hn1 hc1 t.head (S44.out.belF (Below.tr HBi.out (Below.dr1 _)) (fun _ h => h)) OA on oc other (HS.out.oth.belF (Below.tr HBi.out (Below.dr1 _)) (fun _ h => h)) (fun k hk => Nat.lt_of_lt_of_le hk HBi.out.size) HrL.out none Hstr.out).mono ?_
            rintro e wj ⟨B30, m30, d30, rfl, hb, -⟩
            go_wp2_with fail
            refine ⟨fun _ hk => absurd hk List.not_mem_nil, ?_⟩
            replace hS0 := Below.tr hS0 (hb)
            refine os_move rfl rfl rfl (Nat.le_of_ble_eq_true rfl) ?_
            apply Exists.intro
            refine ⟨fun w' K hK => ?_, ?_⟩
            (focus
              go_simp
              exact hK)
            refine os_move rfl rfl rfl (Nat.le_of_ble_eq_true rfl) ?_
            apply Exists.intro
            refine ⟨fun w' K hK => ?_, ?_⟩
            (focus
              go_simp
              exact hK)
            refine os_move rfl rfl rfl (Nat.le_of_ble_eq_true rfl) ?_
            apply Exists.intro
            refine ⟨fun w' K hK => ?_, ?_⟩
            (focus
              go_simp
              exact hK)
            refine os_move rfl rfl rfl (Nat.le_of_ble_eq_true rfl) ?_
            apply Exists.intro
            refine ⟨fun w' K hK => ?_, ?_⟩
            (focus
              go_simp
              exact hK)
            refine os_move rfl rfl rfl (Nat.le_of_ble_eq_true rfl) ?_
            apply Exists.intro
            refine ⟨fun w' K hK => ?_, ?_⟩
            (focus
              go_simp
              exact hK)
            refine os_done ⟨rfl, ?_⟩
            replace HBi := Lib.hid (Below.tr HBi.out (Below.tr (Below.dr1 _) hS0))
            clear hS0 c44 gl
            go_wp2_with fail
            go_roundw
            case rel => exact ⟨m + 1, by omega, by go_num, HBi.out⟩
            case measure => simp [intOf]; omega
          · have hex : (decide ((m : Int) < (k : Int)) = false ∧ ¬ m < k) ∨ (decide ((m : Int) < (k : Int)) = true ∧ sb = false) := by
              by_cases h : m < k
              · right
                refine ⟨decide_eq_true (by omega), ?_⟩
                cases sb with
                | false => rfl
                | true => exact absurd ⟨h, rfl⟩ hgo
              · left; exact ⟨decide_eq_false (by omega), h⟩
            have hrl : s.rows.length = k := by have := HS.out.good.1; have := Hlen.out; omega
            have Hrl := Lib.hid hrl
            have hkk : ((k : Int) == (k : Int)) = true := by simp
            clear hgo hrl
            rcases hex with ⟨hex, hexN⟩ | ⟨hex, rfl⟩
            all_goals
              go_wp2_with (first
                | (go_at_call 22; refine (Len_any b F' _ _ wi (HS.out.box.fr (Fr.of_below (M := NoB) HBi.out) (fun _ _ e => e))).mono ?_; rintro e w' ⟨rfl, rfl⟩; rw [Hrl.out])
                | (go_at_call 12; refine (known_any wi).mono ?_; rintro e w9 ⟨rfl, hb9⟩))
            all_goals
              go_ret
              exact ⟨rfl, Below.tr HS.out.fr (Below.tr HBi.out hb9)⟩
  · have Hgg := Lib.hid hg
    clear hg
    go_wp2_with (go_at_call 19; refine (great_any A n c things _ w1 HT1.out hn).mono ?_; rintro e w' ⟨rfl, rfl⟩; rw [Hgg.out])
    refine (known_any _).mono ?_
    rintro e w3 ⟨rfl, hb3⟩
    go_wp2_with fail
    go_ret
    exact ⟨rfl, Hbw1.out.trans (hb3.mono Hbw1.out.size)⟩
end Go.Proofs.Ytnejcciociinmaa
