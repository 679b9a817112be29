/- BoxBlind's walk. -/
import Derived.Test.YtnejcciociinmaaBox9
namespace Go.Proofs.Ytnejcciociinmaa
open Go.RowKit

/-- the other things, ahead of round k -/
def BlInv (w w2 : World) (things : List Th) (k : Nat) (out : Value) (w' : World) : Prop :=
  ∃ A c cells ots D, out = .slice A k c ∧ w'.ownsRow w2.heap.size 50 46 (.slice A k c) k cells ∧ ThsAt w' D ots cells ∧ ots.length = k ∧
    (∀ j, D j → j < w'.heap.size ∧ (Value.slice A k c).ownBlock ≠ some j ∧ (j < w.heap.size ∨ w2.heap.size ≤ j)) ∧
    ots.map (·.plain.length) = (things.take k).map (·.plain.length) ∧ (∀ t ∈ ots, t.head.length ≤ 140737488355000) ∧ Below w2.heap.size w2 w'

attribute [local go_sem] yld yldUpon_value

set_option maxRecDepth 100000 in
set_option maxHeartbeats 3000000 in
theorem BoxBlind_any (w : World) (LA : Option Addr) (ln lc : Nat) (src : List UInt8) (hL : Sl w (Old w) LA ln lc src) (A : Option Addr) (n c : Nat) (things : List Th) (hT : ThSl w (Old w) A n c things)
    (TA : Option Addr) (tn tc : Nat) (turn : List UInt8) (hTn : Sl w (Old w) TA tn tc turn) (hl : ln ≤ 140737488355000) (hn : n ≤ 140737488355328) (ht : tn ≤ 140737488355000) :
    Calls Try.prog 5 #[.slice LA ln lc, .slice A n c, .slice TA tn tc] w fun e w' => e = .returned (.bool true) ∧ Below w.heap.size w w' := by
  have HL := Lib.hid hL; have HT := Lib.hid hT; have HTn := Lib.hid hTn
  clear hL hT hTn
  go_enter Try.func5, Try.ntmps5
  go_wp2_with fail
  refine (New_any HL.out (fun k hk => hk) (by omega)).mono ?_
  rintro e w1 ⟨b, F, rfl, hbox1, hbw1, hF⟩
  have Hbox1 := Lib.hid hbox1; have Hbw1 := Lib.hid hbw1; have HF := Lib.hid hF
  have HL1 := Lib.hid (HL.out.fr (Fr.of_below (M := NoB) hbw1) (fun k hk => ⟨hk, id⟩))
  clear hbox1 hF hbw1
  go_wp2_with fail
  refine (New_any HL1.out (fun k hk => Nat.lt_of_lt_of_le hk Hbw1.out.size) (by omega)).mono ?_
  rintro e w2 ⟨b2, F2, rfl, hbox2, hbw2, hF2⟩
  have Hbox2 := Lib.hid hbox2; have HF2 := Lib.hid hF2
  have Hbox12 := Lib.hid (Hbox1.out.fr (Fr.of_below (M := NoB) hbw2) (fun _ _ e => e))
  have Hbw2 : Hid (Below w.heap.size w w2) := Hbw1.out.trans (hbw2.mono Hbw1.out.size)
  have HT2 := Lib.hid (HT.out.fr (Fr.of_below (M := NoB) Hbw2.out) (fun k hk => ⟨hk, id⟩))
  have HTn2 := Lib.hid (HTn.out.fr (Fr.of_below (M := NoB) Hbw2.out) (fun k hk => ⟨hk, id⟩))
  have Hsz1 := Lib.hid hbw2.size
  clear hbox2 hF2 hbw2
  rcases hg : greatOf things with _ | _
  · have Hg := Lib.hid (great_no hg)
    have Hlen := Lib.hid HT.out.len
    have Hgg := Lib.hid hg
    have hn40 : n ≤ 40 := by have := Hlen.out; have := Hg.out.1; omega
    clear hg
    go_wp2_with (go_at_call 19; refine (great_any A n c things _ w2 HT2.out hn).mono ?_; rintro e w' ⟨rfl, rfl⟩; rw [Hgg.out])
    go_loopw [9, 10] (fun v i w' => ∃ k : Nat, k ≤ n ∧ i = .int .i64 (k : Nat) ∧ Hid (BlInv w w2 things k v w')) (fun _ i _ => n - (intOf i).toNat)
    case atStart => exact ⟨0, Nat.zero_le _, rfl, none, 0, [], [], NoB, rfl, World.ownsRow_nil _ _ _ _, rfl, rfl, fun j hj => hj.elim, by simp, by simp, Below.refl _ _⟩
    case round =>
      rename World => wo
      obtain ⟨k, hk, rfl, hinv⟩ := hrel
      by_cases hlt : k < n
      · have hlt' : k < things.length := by have := Hlen.out; omega
        have hlI : (k : Int) < n := by omega
        have hkI : (0 : Int) ≤ (k : Int) := by omega
        obtain ⟨Ao, co, cells, ots, D, rfl, hown, hths, hol, hD, hmap, hhd, hbw⟩ := hinv
        have hT1 := HT2.out.fr (Fr.of_below (M := NoB) hbw) (fun k hk => ⟨Nat.lt_of_lt_of_le hk Hbw2.out.size, id⟩)
        obtain ⟨g, o, HA, hn1, hc1, PA, pn, pc, rfl, hg, lk, ln, rk, rn, c44, c45, s44, s45, rr⟩ := hT1.open_ k hlt'
        have hbd := Hg.out.2 _ (List.getElem_mem hlt')
        have hpn : pn ≤ 1024 := by have := s45.len; omega
        have Hown := Lib.hid hown; have Hths := Lib.hid hths; have Hol := Lib.hid hol; have HD := Lib.hid hD; have Hmap := Lib.hid hmap; have Hhd := Lib.hid hhd; have Hbw := Lib.hid hbw
        have Rr := Lib.hid rr; have S45 := Lib.hid s45; have Lk := Lib.hid lk; have Ln := Lib.hid ln
        have Hgs := Lib.hid hg
        have hrow : Hid ((bs things[k].k ++ (bs things[k].n ++ [Value.slice HA hn1 hc1, Value.slice PA pn pc])).length = 46) := by show _ = _; simp [bs_length, lk, ln]
        have hone : Hid ((bs things[k].k ++ (bs things[k].n ++ [Value.slice HA hn1 hc1, Value.slice PA pn pc])).toArray.all (·.oneCell') = true) := by
          refine all_oneCell_toArray (fun v hv => ?_)
          simp only [List.mem_append, List.mem_cons, List.not_mem_nil, or_false] at hv
          rcases hv with hv | hv | rfl | rfl
          · exact bs_oneCell _ v hv
          · exact bs_oneCell _ v hv
          · rfl
          · rfl
        have h45 : Hid ((bs things[k].k ++ (bs things[k].n ++ [Value.slice HA hn1 hc1, Value.slice PA pn pc]))[45]? = some (.slice PA pn pc)) := by
          show _ = _
          rw [List.getElem?_append_right (by rw [bs_length]; omega), List.getElem?_append_right (by rw [bs_length, bs_length]; omega), bs_length, bs_length, lk, ln]; rfl
        clear hown hths hol hD hmap hhd hbw hT1 rk rn c44 c45 s44 s45 rr hbd hg lk ln
        generalize bs things[k].k ++ (bs things[k].n ++ [Value.slice HA hn1 hc1, Value.slice PA pn pc]) = row at Rr hrow hone h45
        obtain ⟨ir, hir, hzz⟩ := Option.map_eq_some_iff.1 Try.infoTh
        simp only [Prod.mk.injEq] at hzz
        obtain ⟨hzz1, hzz2, hzz3⟩ := hzz
        obtain ⟨zr, hzr, hzs⟩ := Option.map_eq_some_iff.1 hzz1
        have Hir := Lib.hid hir; have Hzr := Lib.hid hzr; have Hzs := Lib.hid hzs
        have Hir46 : Hid ((Try.prog.info? 50).map (·.size) = some row.length) := by rw [hir, hrow.out, Option.map_some, hzz2]; exact rfl
        have Hi2 := Lib.hid hzz2; have Hi3 := Lib.hid hzz3
        obtain ⟨d50, hu50, hd50⟩ : ∃ d, Try.prog.underlying 50 = some d ∧ d.isRow = true := ⟨_, Try.underlying50, rfl⟩
        have Hu50 := Lib.hid hu50
        clear hir hzz1 hzz2 hzz3 hzr hzs hu50
        go_wp2_with (first
          | ((with_reducible refine lst_load_mid 50 (.tmp 37) rfl g (o + k * 46) rfl row d50 Rr.out Hu50.out hd50 Hir46.out ?_ ?_)
             (focus rfl))
          | ((with_reducible refine lst_alloc_abs 50 rfl ir zr Hir.out Hzr.out ?_ ?_)
             (focus rfl)
             intro g3 w3 Hg3 Hh3 hb3)
          | ((with_reducible refine lst_store_abs 50 (.tmp 11) (.tmp 38) rfl g3 50 zr.cells row.toArray rfl rfl Hh3.out (by simpa using Hir46.out) (by have := hrow.out; rw [Hzs.out]; simp; omega) hone.out ?_ ?_)
             (focus rfl)
             intro w4 Hh4 hg4
             have hb4 : Below wo.heap.size wo w4 := hb3.grown hg4 hb3.size (fun k hk => by injection hk with hk; have := Hg3.out.1; omega)
             have hs4 := hb4.size
             have k45 : w4.cell? ⟨g3, 45, none⟩ = some (.slice PA pn pc) := by rw [cell_of_row w4 g3 45 _ _ _ Hh4.out]; simpa using h45.out)
          | (go_at_call 21
             (with_reducible refine (CopyBytes_sl (S45.out.fr (Fr.of_below (M := NoB) hb4) (fun k hk => ⟨Nat.lt_of_lt_of_le hk (Nat.le_trans Hbw2.out.size Hbw.out.size), id⟩)) (fun k hk => Nat.lt_of_lt_of_le hk (Nat.le_trans (Nat.le_trans Hbw2.out.size Hbw.out.size) hs4)) (by omega)).mono ?_)
             rintro e w5 ⟨A5, c5, rfl, hown5, hb5⟩))
        have hs5 := hb5.size
        have hbw5 : Hid (Below wo.heap.size wo w5) := hb4.trans (hb5.mono hs4)
        have HTn5 : Hid (Sl w5 (Old w) TA tn tc turn) := (HTn2.out.fr (Fr.of_below (M := NoB) Hbw.out) (fun k hk => ⟨Nat.lt_of_lt_of_le hk Hbw2.out.size, id⟩)).fr (Fr.of_below (M := NoB) hbw5.out) (fun k hk => ⟨Nat.lt_of_lt_of_le hk (Nat.le_trans Hbw2.out.size Hbw.out.size), id⟩)
        have Hg3w : Hid (w.heap.size ≤ w4.heap.size) := Nat.le_trans (Nat.le_trans Hbw2.out.size Hbw.out.size) hs4
        have Hown5 := Lib.hid hown5; have Hs5 := Lib.hid hs5; have Hs4 := Lib.hid hs4
        clear hb3 Hh3 Hg3 Hh4 hg4 hb4 k45 hb5 hown5 hs5 hs4
        go_loopw [13] (fun i w' => ∃ (q : Nat) (l' : List UInt8), q ≤ pn ∧ i = .int .i64 (q : Nat) ∧ w'.ownsRow w4.heap.size 5 1 (.slice A5 pn c5) pn (bs l') ∧ Hid (Fr (fun j => some j = (Value.slice A5 pn c5).ownBlock) w5 w')) (fun i _ => pn - (intOf i).toNat)
        case atStart => exact ⟨0, _, Nat.zero_le _, rfl, Hown5.out, Fr.refl _ _⟩
        case round =>
          obtain ⟨q, l', hq, rfl, hownq, hfq⟩ := hrel
          by_cases hgo : q < pn ∧ 0 < tn
          · obtain ⟨hlq, htn⟩ := hgo
            have hqI : (q : Int) < pn := by omega
            have hqI0 : (0 : Int) ≤ (q : Int) := by omega
            have htI : (0 : Int) < (tn : Int) := by omega
            obtain ⟨g5, cap5, hv5, hg5b, hg5⟩ := hownq.form (by omega)
            injection hv5 with hA5 _ hc5
            subst hA5 hc5
            have hl' : l'.length = pn := by have := hownq.1; rw [bs_length] at this; omega
            have hcq : wr.cell? ⟨g5, q, none⟩ = some (.int .u8 (l'[q].toNat : Int)) := by
              rw [hownq.cellAt q (by omega)]; exact bs_get l' q (by omega)
            have HTnr := HTn5.out.fr hfq (fun j hj => ⟨Nat.lt_of_lt_of_le hj (Nat.le_trans Hg3w.out Hs5.out), fun e => by
              have h1 := (hownq.lt j e.symm).1; have h2 := Hg3w.out; have hj : j < w.heap.size := hj; omega⟩)
            have hidx : (k + q) % tn < turn.length := by rw [HTnr.len]; exact Nat.mod_lt _ htn
            obtain ⟨ad, rfl, hct⟩ := HTnr.rd.at_ hidx
            have hid : Hid (IntKind.i64.wrap ((k : Int) + (q : Int)) = ((k + q : Nat) : Int)) := by show _ = _; rw [IntKind.wrap_i64]; omega
            have hfz := hownq.frozenAt q
            generalize hix : (k + q) % tn = ix at hidx hct
            have hixI : (0 : Int) ≤ (ix : Int) := by omega
            have hixlt : (ix : Int) < (tn : Int) := by have := HTnr.len; omega
            have hmd : Hid (Int.tmod ((k : Int) + (q : Int)) (tn : Int) = (ix : Int)) := by
              show _ = _
              rw [← hix]; exact (Int.ofNat_tmod _ _).symm
            have htn0 : Hid (¬ tn = 0) := by show ¬ _; omega
            go_wp2_with fail
            have hS0 := Lib.hid (show wr.drew.cell? ⟨g5, q, none⟩ = some (.int .u8 (l'[q].toNat : Int)) ∧ wr.drew.cell? (ad.add ix) = some (.int .u8 (turn[ix].toNat : Int)) from ⟨hcq, hct⟩)
            refine wp_region_ord (fun w' => w'.cell? ⟨g5, q, none⟩ = some (.int .u8 (l'[q].toNat : Int)) ∧ w'.cell? (ad.add ix) = some (.int .u8 (turn[ix].toNat : Int))) 17
              [(0, true), (1, true), (2, true), (3, true), (4, true), (5, true), (6, true), (7, true), (8, true), (9, true), (10, true), (11, true), (12, true), (13, true), (14, true), (15, true), (16, true), (17, false)]
              (by kernel_rfl) (by kernel_rfl) (fun _ _ _ _ _ h => h) ?_
            iterate 9 (
              refine ord_yld hS0.out rfl rfl rfl (Nat.le_of_ble_eq_true rfl) ?_
              apply Exists.intro
              refine ⟨fun w' hS' K hK => ?_, ?_⟩
              (focus
                obtain ⟨q1, q2⟩ := hS'
                go_simp
                exact hK))
            iterate 1 (
              refine ord_yld hS0.out rfl rfl rfl (Nat.le_of_ble_eq_true rfl) ?_
              apply Exists.intro
              refine ⟨fun w' hS' K hK => ?_, ?_⟩
              (focus
                obtain ⟨q1, q2⟩ := hS'
                go_simp
                rw [hid.out]
                exact hK))
            iterate 2 (
              refine ord_yld hS0.out rfl rfl rfl (Nat.le_of_ble_eq_true rfl) ?_
              apply Exists.intro
              refine ⟨fun w' hS' K hK => ?_, ?_⟩
              (focus
                obtain ⟨q1, q2⟩ := hS'
                go_simp
                exact hK))
            iterate 1 (
              refine ord_yld hS0.out rfl rfl rfl (Nat.le_of_ble_eq_true rfl) ?_
              apply Exists.intro
              refine ⟨fun w' hS' K hK => ?_, ?_⟩
              (focus
                obtain ⟨q1, q2⟩ := hS'
                go_simp
                rw [if_neg htn0.out]
                simp only [yldUpon_value]
                rw [hmd.out]
                exact hK))
            iterate 2 (
              refine ord_yld hS0.out rfl rfl rfl (Nat.le_of_ble_eq_true rfl) ?_
              apply Exists.intro
              refine ⟨fun w' hS' K hK => ?_, ?_⟩
              (focus
                obtain ⟨q1, q2⟩ := hS'
                go_simp
                exact hK))
            iterate 1 (
              refine ord_yld hS0.out rfl rfl rfl (Nat.le_of_ble_eq_true rfl) ?_
              apply Exists.intro
              refine ⟨fun w' hS' K hK => ?_, ?_⟩
              (focus
                obtain ⟨q1, q2⟩ := hS'
                go_simp
                rw [xor_byte]
                exact hK))
            iterate 1 (
              refine ord_yld hS0.out rfl rfl rfl (Nat.le_of_ble_eq_true rfl) ?_
              apply Exists.intro
              refine ⟨fun w' hS' K hK => ?_, ?_⟩
              (focus
                obtain ⟨q1, q2⟩ := hS'
                go_simp
                exact hK))
            refine ord_run rfl rfl (fun K hK => ?_)
            go_wp2_with fail
            refine ⟨fun hlt => absurd hlt (by omega), ?_⟩
            refine ord_end ?_
            go_wp2_with fail
            obtain ⟨s1, s2⟩ := hownq.stored q (.int .u8 ((l'[q] ^^^ turn[ix]).toNat : Int))
            go_roundw
            case rel =>
              refine ⟨q + 1, l'.set q (l'[q] ^^^ turn[ix]), by omega, by go_num, ?_, ?_⟩
              · have e : bs (l'.set q (l'[q] ^^^ turn[ix])) = (bs l').set q (.int .u8 ((l'[q] ^^^ turn[ix]).toNat : Int)) := by simp [bs, bv, List.map_set]
                rw [e]; exact own_fr s1 (Fr.drew (Fr.refl NoB _)) (fun _ _ e => e)
              · exact Fr.drew (hfq.trans (Fr.of_grown s2) (fun i _ e => by rw [e]; rfl))
            case measure => simp [intOf] <;> omega
          · have hex : ¬ (q : Int) < pn ∨ ((q : Int) < pn ∧ ¬ (0 : Int) < tn) := by omega
            clear hgo
            rcases hex with hex | ⟨hex1, hex2⟩
            all_goals
              have hfq0 := Lib.hid (Fr.of_below (M := fun j => some j = (Value.slice A5 pn c5).ownBlock) hbw5.out)
              have hgeA : Hid (∀ j, (Value.slice A5 pn c5).ownBlock = some j → w4.heap.size ≤ j ∧ j < wr.heap.size) := fun j hj => ⟨(hownq.lt j hj).1, (hownq.lt j hj).2⟩
              have Hfw : Hid (Below wo.heap.size wo wr) := Fr.to_below (hfq0.out.trans hfq.out (fun _ _ e => e)) (fun j hj e => by have := (hgeA.out j e.symm).1; have := Hs4.out; omega)
              have Hownr : Hid (wr.ownsRow w2.heap.size 50 46 (.slice Ao k co) k cells) := own_fr Hown.out (Fr.of_below (M := NoB) Hfw.out) (fun _ _ e => e)
              have Hk : Hid (k ≤ 1000) := by show k ≤ 1000; omega
              go_wp2_with (at_builtin; refine append_th rfl _ _ rfl w2.heap.size Ao k co cells rfl (Hownr.out.alloc _) (some ⟨wr.heap.size, 0, none⟩) 1 _ rfl rfl (Rd.of_block (heap_alloc_new _ _)) (List.all_eq_true.1 rfl) Hk.out (by have := Hbw.out.size; have := Hfw.out.size; simp; omega) ?_; intro A6 c6 w6 hown6 hg6 hat6)
              go_roundw
              case rel =>
                refine ⟨k + 1, by omega, by go_num, ?_⟩
                have hl' : l'.length = pn := by have := hownq.1; rw [bs_length] at this; omega
                have hHTr : Sl wr (Old w) TA tn tc turn := HTn5.out.fr hfq (fun j hj => ⟨Nat.lt_of_lt_of_le hj (Nat.le_trans Hg3w.out Hs5.out), fun e => by
                  have h1 := (hownq.lt j e.symm).1; have h2 := Hg3w.out; have hj : j < w.heap.size := hj; omega⟩)
                have hst := Hfw.out.size
                have hs1 := Hbw.out.size
                have hs2 := Hbw2.out.size
                have hs6 := hg6.size
                rw [show (wr.alloc _).heap.size = wr.heap.size + 1 by simp] at hs6
                have hoA : ∀ j, (Value.slice Ao k co).ownBlock = some j → w2.heap.size ≤ j ∧ j < wo.heap.size := fun j hj => Hown.out.lt j hj
                have hF6 : Fr (fun j => some j = (Value.slice Ao k co).ownBlock) wr w6 := ((Fr.refl _ _).alloc _).trans (Fr.of_grown hg6) (fun _ _ e => e)
                have hnew : ∀ j, (Value.slice A6 (k + 1) c6).ownBlock = some j → (Value.slice Ao k co).ownBlock = some j ∨ j = wr.heap.size + 1 := fun j hj => by
                  rcases hat6 with e | e
                  · left; rw [← e]; exact hj
                  · right; rw [e] at hj; injection hj with hj; rw [← hj]; simp
                refine ⟨A6, c6, _, ots ++ [⟨keyOf [UInt8.ofNat k], nonceOf [], turn, l'⟩], fun j => D j ∨ j < w.heap.size ∨ (Value.slice A5 pn c5).ownBlock = some j, rfl, hown6, ?_, ?_, ?_, ?_, ?_, ?_⟩
                · refine ThsAt.append ?_ _ _ ?_
                  · refine ⟨rfl, rfl, .slice TA tn tc, .slice A5 pn c5, ?_, ⟨_, _, _, rfl, ?_⟩, ⟨_, _, _, rfl, ?_⟩⟩
                    · simp [thC, keyOf, nonceOf, bs, bv]
                      omega
                    · exact (hHTr.fr hF6 (fun j hj => ⟨by have hj : j < w.heap.size := hj; omega, fun e => by have := (hoA j e.symm).1; have hj : j < w.heap.size := hj; omega⟩)).mono (fun j hj => .inr (.inl hj))
                    · exact ((Sl.of_own hownq).fr hF6 (fun j hj => ⟨hj.2.1, fun e => by have := (hoA j e.symm).2; have := hj.1; have := Hs4.out; omega⟩)).mono (fun j hj => .inr (.inr hj.2.2))
                  · refine ThsAt.mono (fun _ h => .inl h) _ _ ?_
                    refine ThsAt.fr hF6 (fun j hj => ⟨?_, ?_⟩) _ _ (ThsAt.fr (Fr.of_below (M := NoB) Hfw.out) (fun j hj => ⟨(HD.out j hj).1, id⟩) _ _ Hths.out)
                    · have := (HD.out j hj).1; omega
                    · exact fun e => (HD.out j hj).2.1 e.symm
                · rw [List.length_append, Hol.out]; rfl
                · rintro j (hj | hj | hj)
                  · obtain ⟨q1, q2, q3⟩ := HD.out j hj
                    refine ⟨by omega, fun e => ?_, q3⟩
                    rcases hnew j e with h | h
                    · exact q2 h
                    · omega
                  · refine ⟨by omega, fun e => ?_, .inl hj⟩
                    rcases hnew j e with h | h
                    · have := (hoA j h).1; omega
                    · omega
                  · have h1 := hgeA.out j hj
                    have h2 := Hs4.out
                    refine ⟨by omega, fun e => ?_, .inr (by omega)⟩
                    rcases hnew j e with h | h
                    · have := (hoA j h).2; omega
                    · omega
                · rw [List.take_succ_eq_append_getElem hlt', List.map_append, List.map_append, Hmap.out]
                  have := S45.out.len
                  simp; omega
                · intro t htm
                  rcases List.mem_append.1 htm with h | h
                  · exact Hhd.out t h
                  · simp only [List.mem_singleton] at h
                    subst h
                    show turn.length ≤ _
                    rw [hHTr.len]; exact ht
                · exact (((Hbw.out.trans (Hfw.out.mono hs1))).alloc (by omega) _).grown hg6 (by simp; omega) (fun j hj => (hoA j hj).1)
              case measure => simp [intOf] <;> omega
      · obtain rfl : k = n := by omega
        obtain ⟨Ao, co, cells, ots, D, rfl, hown, hths, hol, hD, hmap, hhd, hbw⟩ := hinv
        have Hbw := Lib.hid hbw
        have hb1 := Hbox12.out.fr (Fr.of_below (M := NoB) hbw) (fun _ _ e => e)
        have hb2 := Hbox2.out.fr (Fr.of_below (M := NoB) hbw) (fun _ _ e => e)
        have hT1 := HT2.out.fr (Fr.of_below (M := NoB) hbw) (fun k hk => ⟨Nat.lt_of_lt_of_le hk Hbw2.out.size, id⟩)
        have hTo := ThSl.of_own hown hths hol
        have Hb1 := Lib.hid hb1; have Hb2 := Lib.hid hb2; have HT1 := Lib.hid hT1; have HTo := Lib.hid hTo; have HD := Lib.hid hD; have Hmap := Lib.hid hmap; have Hhd := Lib.hid hhd; have Hown := Lib.hid hown
        have Hol := Lib.hid hol
        clear hbw hb1 hb2 hT1 hTo hD hmap hhd hown hths hol
        have hF1 : Hid (∀ j, F j → w.heap.size ≤ j ∧ j < w1.heap.size) := fun j hj => ⟨HF.out j hj, Hbox1.out.1 j hj⟩
        have hF2' : Hid (∀ j, F2 j → w1.heap.size ≤ j ∧ j < w2.heap.size) := fun j hj => ⟨HF2.out j hj, Hbox2.out.1 j hj⟩
        go_wp2_with fail
        refine (all_any b F (Old w) src wo Hb1.out A k c things HT1.out (fun j hj => ⟨Nat.lt_of_lt_of_le hj (Nat.le_trans Hbw2.out.size Hbw.out.size), fun h => by have := (hF1.out j h).1; have hj : j < w.heap.size := hj; omega⟩) ⟨Hg.out.1, fun t ht => ⟨by have := (Hg.out.2 t ht).1; omega, (Hg.out.2 t ht).2⟩⟩).mono ?_
        rintro e w3 ⟨v, rfl, F3, D3, A3, c3, vs3, rfl, hown3, hbox3, hfr3, hF3, hoF3, hD3, hvs3⟩
        have Hown3 := Lib.hid hown3; have Hfr3 := Lib.hid hfr3; have HD3 := Lib.hid hD3; have Hvs3 := Lib.hid hvs3
        have hb23 := Hb2.out.fr hfr3 (fun j hj h => by have := (hF2'.out j hj).1; have := (hF1.out j h).2; omega)
        have hTo3 := HTo.out.fr hfr3 (fun j hj => by
          rcases hj with hj | hj
          · have h1 := HD.out j hj
            exact ⟨h1.1, fun h => by have := hF1.out j h; have := Hsz1.out; omega⟩
          · have h1 := Hown.out.lt j hj
            exact ⟨h1.2, fun h => by have := hF1.out j h; have := Hsz1.out; omega⟩)
        have Hb23 := Lib.hid hb23; have HTo3 := Lib.hid hTo3
        have hots : Hid (ots.length ≤ 40 ∧ ∀ t ∈ ots, t.head.length ≤ 140737488355000 ∧ t.plain.length ≤ 1024) := by
          have hm := Hmap.out
          have hlen := Hlen.out
          rw [List.take_of_length_le (by omega)] at hm
          refine ⟨by have := Hol.out; omega, fun t ht => ⟨Hhd.out t ht, ?_⟩⟩
          have h1 : t.plain.length ∈ ots.map (·.plain.length) := List.mem_map_of_mem ht
          rw [hm] at h1
          obtain ⟨u, hu, he⟩ := List.mem_map.1 h1
          have := (Hg.out.2 u hu).2
          omega
        clear hown3 hbox3 hfr3 hF3 hoF3 hD3 hvs3 hb23 hTo3
        go_wp2_with fail
        refine (all_any b2 F2 _ src w3 Hb23.out Ao k co ots HTo3.out (fun j hj => by
          have hs3 := Hfr3.out.size
          rcases hj with hj | hj
          · have h1 := HD.out j hj
            exact ⟨by omega, fun h => by have := hF2'.out j h; have := Hsz1.out; have := Hbw1.out.size; omega⟩
          · have h1 := Hown.out.lt j hj
            exact ⟨by omega, fun h => by have := hF2'.out j h; omega⟩) hots.out).mono ?_
        rintro e w4 ⟨v, rfl, F4, D4, A4, c4, vs4, rfl, hown4, hbox4, hfr4, hF4, hoF4, hD4, hvs4⟩
        have hs3 := Hfr3.out.size
        have hown34 := own_fr Hown3.out hfr4 (fun j hj h => by have h1 := (Hown3.out.lt j hj).1; have h2 := hF2'.out j h; have := Hbw.out.size; omega)
        have hvs34 := Hvs3.out.fr hfr4 (fun j hj => ⟨(HD3.out j hj).2.1, fun h => by have h1 := (HD3.out j hj).1; have h2 := hF2'.out j h; have := Hbw.out.size; omega⟩)
        have hl1 : ((⟨src, [], []⟩ : St).all things).outs.length = k := by rw [St.all_outs]; have := Hlen.out; simp; omega
        have hl2 : ((⟨src, [], []⟩ : St).all ots).outs.length = k := by rw [St.all_outs]; have := Hol.out; simp; omega
        have hm := Hmap.out
        rw [List.take_of_length_le (by have := Hlen.out; omega)] at hm
        have heq : Hid ((((⟨src, [], []⟩ : St).all things).outs == ((⟨src, [], []⟩ : St).all ots).outs) = true) := by
          show _ = _
          rw [St.blind things ots _ _ hm.symm rfl rfl rfl]; simp
        have hbd1 := St.outs_le (s := ⟨src, [], []⟩) things (fun t ht => (Hg.out.2 t ht).2) (by simp)
        have hbd2 := St.outs_le (s := ⟨src, [], []⟩) ots (fun t ht => (hots.out.2 t ht).2) (by simp)
        have f34 : Fr (fun j => w.heap.size ≤ j) wo w4 := (Hfr3.out.mono (N := fun j => w.heap.size ≤ j) (fun j _ h => (hF1.out j h).1)).trans (hfr4.mono (N := fun j => w.heap.size ≤ j) (fun j _ h => by have := (hF2'.out j h).1; have := Hbw1.out.size; omega)) (fun _ _ e => e)
        have hb0 : Below w.heap.size w wo := Hbw2.out.trans (Hbw.out.mono Hbw2.out.size)
        have hfin : Hid (Below w.heap.size w w4) := ⟨f34.os.trans hb0.os, f34.tape.trans hb0.tape, f34.output.trans hb0.output, Nat.le_trans hb0.size f34.size, fun i hi => (f34.block i (by have := hb0.size; omega) (by omega)).trans (hb0.block i hi)⟩
        have hk40 : k ≤ 40 := hn40
        clear hfr4 hbox4 hF4 hoF4 hD4 f34 hb0
        go_wp2_with fail
        refine (SameNested_any (Rd.of_own hown34) (Rd.of_own hown4) hvs34 hvs4 hl1 hl2 (fun o ho => by have := hbd1 o ho; omega) (fun o ho => by have := hbd2 o ho; omega) (by omega)).mono ?_
        rintro e w5 ⟨rfl, m, rfl⟩
        rw [heq.out]
        clear hown34 hvs34 hl1 hl2 hm hbd1 hbd2 hown4 hvs4
        go_wp2_with fail
        refine (known_any _).mono ?_
        rintro e w6 ⟨rfl, hb6⟩
        go_wp2_with fail
        go_ret
        exact ⟨rfl, (below_drewN hfin.out m).trans (hb6.mono hfin.out.size)⟩
  · have Hgg := Lib.hid hg
    clear hg
    go_wp2_with (go_at_call 19; refine (great_any A n c things _ w2 HT2.out hn).mono ?_; rintro e w' ⟨rfl, rfl⟩; rw [Hgg.out])
    refine (known_any _).mono ?_
    rintro e w3 ⟨rfl, hb3⟩
    go_wp2_with fail
    go_ret
    exact ⟨rfl, Hbw2.out.trans (hb3.mono Hbw2.out.size)⟩
end Go.Proofs.Ytnejcciociinmaa
