/- FrameKnown's walk. -/
import Derived.Test.YtmdnlgfngpgfnaaDoorFrGets
import Derived.Test.YtmdnlgfngpgfnaaDoorFrPuts
import Derived.Test.YtmdnlgfngpgfnaaDoorFrBack
import Derived.Test.YtmdnlgfngpgfnaaDoorFrTurn
namespace Go.Proofs.YtmdnlgfngpgfnaaDoor
open Go.RowKit

def rowL (n : Nat) : List UInt8 := (List.range n).map fun i => UInt8.ofNat ((7 + i) % 251)
theorem rowL_len (n : Nat) : (rowL n).length = n := by simp [rowL]
theorem rowL_succ (n : Nat) : bs (rowL (n + 1)) = bs (rowL n) ++ [.int .u8 (((7 + n) % 251 : Nat) : Int)] := by
  simp only [rowL, List.range_succ, List.map_append, List.map_cons, List.map_nil, bs, bv]
  congr 3
  rw [UInt8.toNat_ofNat', Nat.mod_eq_of_lt (by simp; omega)]

set_option maxHeartbeats 400000 in
theorem Row_any (n : Nat) (w : World) (hn : n ≤ 1000000) :
    Calls Tryd.prog 28 #[.int .i64 (n : Int)] w fun e w' => ∃ A' c', e = .returned (.slice A' n c') ∧ w'.ownsRow w.heap.size 5 1 (.slice A' n c') n (bs (rowL n)) ∧ Below w.heap.size w w' := by
  obtain ⟨i0, hi, hz0, hz1, hz2⟩ := info_parts Tryd.infoB
  go_enter Tryd.func28, Tryd.ntmps28
  go_wp2_with fail
  go_loopw [3, 4] (fun v i wr => ∃ k A' c', k ≤ n ∧ v = .slice A' k c' ∧ i = .int .i64 (k : Nat) ∧ wr.ownsRow w.heap.size 5 1 (.slice A' k c') k (bs (rowL k)) ∧ Below w.heap.size w wr) (fun _ i _ => n - (intOf i).toNat)
  case atStart => exact ⟨0, none, 0, Nat.zero_le _, rfl, rfl, World.ownsRow_nil _ _ _ _, Below.refl _ _⟩
  case round =>
    obtain ⟨k, A', c', hk, rfl, rfl, hown, hbw⟩ := hrel
    by_cases hlt : k < n
    · have hlI : (k : Int) < n := by omega
      have hkI : (0 : Int) ≤ (k : Int) := by omega
      have hs := hbw.size
      have hmd : (7 + (k : Int)).tmod 251 = (((7 + k) % 251 : Nat) : Int) := (Int.ofNat_tmod (7 + k) 251).symm
      have hm2 : ((((7 + k) % 251 : Nat) : Int)) % 256 = (((7 + k) % 251 : Nat) : Int) := by omega
      have hts := Lib.hid (rowL_succ k)
      go_wp2_with (at_builtin; refine wpList_append_own _ rfl _ _ 22 rfl w.heap.size 5 i0 (.int .u8 0) 1 1 Tryd.underlying22 hi hz0 hz1 hz2 rfl (by decide) _ _ _ rfl (hown.alloc _) ⟨wr.heap.size, 0, none⟩ 1 1 [.int .u8 (((7 + k) % 251 : Nat) : Int)] rfl rfl (new_one _ _ _) (one_oneCell _ _) (by simp only [maxLen]; omega) (by omega) (by simp; omega) ?_; intro v' w1 hown1 hgrow _; obtain ⟨A1, c1, rfl⟩ := own_slice hown1)
      go_roundw
      case rel => exact ⟨k + 1, A1, c1, by omega, rfl, by go_num, by rw [hts.out]; exact hown1, (hbw.alloc hs _).grown hgrow (by simp; omega) (fun g hg => (hown.lt g hg).1)⟩
      case measure => simp [intOf]; omega
    · have hkl : k = n := by omega
      subst hkl
      go_wp2_with fail
      go_ret
      exact ⟨A', c', rfl, hown, hbw⟩
def nL : List Int := [-9223372036854775808, -1, 0, 1, 2, 255, 256, 257, 9223372036854775807]
def mL : List Int := [0, 1, 2, 255, 256, 2038, 2039, 2040]
theorem nL_wf (i : Nat) (h : i < 9) : ∃ v : Int, (nL.map (Value.int .i64))[i]? = some (.int .i64 v) ∧ (Lit.int .i64 v).wf = true := by
  match i, h with
  | 0, _ => exact ⟨_, rfl, by decide⟩
  | 1, _ => exact ⟨_, rfl, by decide⟩
  | 2, _ => exact ⟨_, rfl, by decide⟩
  | 3, _ => exact ⟨_, rfl, by decide⟩
  | 4, _ => exact ⟨_, rfl, by decide⟩
  | 5, _ => exact ⟨_, rfl, by decide⟩
  | 6, _ => exact ⟨_, rfl, by decide⟩
  | 7, _ => exact ⟨_, rfl, by decide⟩
  | 8, _ => exact ⟨_, rfl, by decide⟩
theorem mL_le (i : Nat) (h : i < 8) : ∃ v : Nat, (mL.map (Value.int .i64))[i]? = some (.int .i64 (v : Int)) ∧ v ≤ 2040 := by
  match i, h with
  | 0, _ => exact ⟨0, rfl, by decide⟩
  | 1, _ => exact ⟨1, rfl, by decide⟩
  | 2, _ => exact ⟨2, rfl, by decide⟩
  | 3, _ => exact ⟨255, rfl, by decide⟩
  | 4, _ => exact ⟨256, rfl, by decide⟩
  | 5, _ => exact ⟨2038, rfl, by decide⟩
  | 6, _ => exact ⟨2039, rfl, by decide⟩
  | 7, _ => exact ⟨2040, rfl, by decide⟩

attribute [local go_sem] yld yldUpon_value
set_option maxRecDepth 100000 in
set_option maxHeartbeats 4000000 in
theorem FrameKnown_any (w : World) (hS : Steps w) :
    Calls Tryd.prog 10 #[] w fun e w' => e = .returned (.bool true) ∧ Below w.heap.size w w' := by
  have HS := Lib.hid hS
  clear hS
  have hpos := HS.out.pos
  go_enter Tryd.func10, Tryd.ntmps10
  go_wp2_with fail
  have hb1 : Hid (Below w.heap.size w ((w.alloc (.cells (nL.map (Value.int .i64)).toArray 3)).alloc (.cells (mL.map (Value.int .i64)).toArray 3))) := ((Below.refl _ w).alloc (Nat.le_refl _) _).alloc (by simp) _
  have hg1 : Hid (((w.alloc (.cells (nL.map (Value.int .i64)).toArray 3)).alloc (.cells (mL.map (Value.int .i64)).toArray 3)).heap[w.heap.size]? = some (.cells (nL.map (Value.int .i64)).toArray 3 (0, 0))) := (Below.heap_alloc _ _ _ (by simp)).trans (heap_alloc_new w _)
  have hg2 : Hid (((w.alloc (.cells (nL.map (Value.int .i64)).toArray 3)).alloc (.cells (mL.map (Value.int .i64)).toArray 3)).heap[w.heap.size + 1]? = some (.cells (mL.map (Value.int .i64)).toArray 3 (0, 0))) := by
    have := heap_alloc_new (w.alloc (.cells (nL.map (Value.int .i64)).toArray 3)) (.cells (mL.map (Value.int .i64)).toArray 3)
    rw [World.size_alloc] at this
    exact this
  have hsz : Hid (((w.alloc (.cells (nL.map (Value.int .i64)).toArray 3)).alloc (.cells (mL.map (Value.int .i64)).toArray 3)).heap.size = w.heap.size + 2) := by show _ = _; simp
  change Code.wp _ _ _ _ ((w.alloc (.cells (nL.map (Value.int .i64)).toArray 3)).alloc (.cells (mL.map (Value.int .i64)).toArray 3))
  generalize (w.alloc (.cells (nL.map (Value.int .i64)).toArray 3)).alloc (.cells (mL.map (Value.int .i64)).toArray 3) = w1 at *
  have HS1 := Lib.hid (HS.out.below hb1.out hpos)
  have hc1 : Hid (∀ i, i < 9 → ∃ v : Int, w1.cell? ⟨w.heap.size, i, none⟩ = some (.int .i64 v) ∧ (Lit.int .i64 v).wf = true) := fun i hi => by
    obtain ⟨v, h1, h2⟩ := nL_wf i hi
    exact ⟨v, by rw [cell_of_row w1 _ i _ _ _ hg1.out]; simpa using h1, h2⟩
  have hc2 : Hid (∀ i, i < 8 → ∃ v : Nat, w1.cell? ⟨w.heap.size + 1, i, none⟩ = some (.int .i64 (v : Int)) ∧ v ≤ 2040) := fun i hi => by
    obtain ⟨v, h1, h2⟩ := mL_le i hi
    exact ⟨v, by rw [cell_of_row w1 _ i _ _ _ hg2.out]; simpa using h1, h2⟩
  have hpos1 : Hid (0 < w1.heap.size) := HS1.out.pos
  go_loopw [3] (fun i w' => ∃ k : Nat, k ≤ 9 ∧ i = .int .i64 (k : Nat) ∧ Hid (Below w1.heap.size w1 w')) (fun i _ => 9 - (intOf i).toNat)
  case atStart => exact ⟨0, by omega, rfl, Below.refl _ _⟩
  case round =>
    rename World => wo
    obtain ⟨i, hi, rfl, hbo⟩ := hrel
    by_cases hi9 : i < 9
    · obtain ⟨nv, hnv, hnw⟩ := hc1.out i hi9
      have Hnv := Lib.hid hnv; have Hnw := Lib.hid hnw
      have hiI : (i : Int) < 9 := by omega
      have hi0 : (0 : Int) ≤ (i : Int) := by omega
      clear hnv hnw
      go_wp2_with fail
      go_loopw [4] (fun i w' => ∃ k : Nat, k ≤ 8 ∧ i = .int .i64 (k : Nat) ∧ Hid (Below w1.heap.size w1 w')) (fun i _ => 8 - (intOf i).toNat)
      case atStart => exact ⟨0, by omega, rfl, hbo.out⟩
      case round =>
        obtain ⟨k, hk, rfl, hbr⟩ := hrel
        by_cases hk8 : k < 8
        · obtain ⟨mvv, hmv, hml⟩ := hc2.out k hk8
          have Hmv := Lib.hid hmv
          have hkI : (k : Int) < 8 := by omega
          have hk0 : (0 : Int) ≤ (k : Int) := by omega
          have hmI : (mvv : Int) ≤ 2040 := by omega
          have hw3 : IntKind.i64.wrap ((mvv : Int) + 3) = (mvv : Int) + 3 := by rw [IntKind.wrap_i64]; omega
          have hzr := hbr.out.size
          have hS0 : Hid (wr.drew.cell? ⟨w.heap.size, i, none⟩ = some (.int .i64 nv) ∧ wr.drew.cell? ⟨w.heap.size + 1, k, none⟩ = some (.int .i64 (mvv : Int))) :=
            ⟨(hbr.out.cell (World.block_lt_of_cell? _ _ Hnv.out)).trans Hnv.out, (hbr.out.cell (World.block_lt_of_cell? _ _ Hmv.out)).trans Hmv.out⟩
          have hbr' : Hid (Below w1.heap.size w1 wr.drew) := ⟨hbr.out.os, hbr.out.tape, hbr.out.output, hbr.out.size, hbr.out.block⟩
          have HSd := Lib.hid (HS1.out.below hbr'.out hpos1.out)
          have hlt1 := Lib.hid (World.block_lt_of_cell? _ _ hS0.out.1)
          have hlt2 := Lib.hid (World.block_lt_of_cell? _ _ hS0.out.2)
          have hwf3 : ∀ x : Int, 0 ≤ x → x ≤ 3000 → (Lit.int .i64 x).wf = true := fun x h0 h1 => by
            have e1 : IntKind.i64.min = -9223372036854775808 := by decide
            have e2 : IntKind.i64.max = 9223372036854775807 := by decide
            simp only [Lit.wf, e1, e2, Bool.and_eq_true, decide_eq_true_eq]
            omega
          have Hwf3 := Lib.hid hwf3
          clear hmv hwf3
          go_wp2_with fail
          refine wp_region_os (fun _ w' => w'.cell? ⟨w.heap.size, i, none⟩ = some (.int .i64 nv) ∧ w'.cell? ⟨w.heap.size + 1, k, none⟩ = some (.int .i64 (mvv : Int)))
            [3, 7, 15, 19, 25] (.move 0 (.move 1 (.move 2 (.take 3 (.move 4 (.move 5 (.move 6 (.take 7 (.run 8 [3, 7, 15, 19, 25] (.run 9 [3, 7, 15, 19, 25] (.move 10 (.move 11 (.move 12 (.move 13 (.move 14 (.take 15 (.move 16 (.move 17 (.move 18 (.take 19 (.move 22 (.move 23 (.move 24 (.take 25 (.move 26
              (.two 20 [3, 7, 15, 19, 25] (.run 21 [3, 7, 15, 19, 25] (.run 27 [3, 7, 15, 19, 25] (.move 28 (.move 29 .done)))) 21 [3, 7, 15, 19, 25] (.run 20 [3, 7, 15, 19, 25] (.run 27 [3, 7, 15, 19, 25] (.move 28 (.move 29 .done)))))))))))))))))))))))))))))) (by kernel_rfl) (by kernel_rfl) (fun _ _ _ _ _ h => h) ?_
          iterate 3 (
            refine os_move rfl rfl rfl (Nat.le_of_ble_eq_true rfl) ?_
            apply Exists.intro
            refine ⟨fun w' K hK => ?_, ?_⟩
            (focus
              go_simp
              exact hK))
          refine os_yld hS0.out rfl rfl rfl (Nat.le_of_ble_eq_true rfl) ?_
          apply Exists.intro
          refine ⟨fun w' hS' K hK => ?_, ?_⟩
          (focus
            obtain ⟨q1, q2⟩ := hS'
            go_simp
            exact hK)
          iterate 3 (
            refine os_move rfl rfl rfl (Nat.le_of_ble_eq_true rfl) ?_
            apply Exists.intro
            refine ⟨fun w' K hK => ?_, ?_⟩
            (focus
              go_simp
              exact hK))
          refine os_yld hS0.out rfl rfl rfl (Nat.le_of_ble_eq_true rfl) ?_
          apply Exists.intro
          refine ⟨fun w' hS' K hK => ?_, ?_⟩
          (focus
            obtain ⟨q1, q2⟩ := hS'
            go_simp
            exact hK)
          refine os_run rfl rfl (fun K hK => ?_)
          go_wp2_with fail
          refine (Row_any mvv wr.drew (by omega)).mono ?_
          rintro e w2 ⟨A2, c2, rfl, hown2, hb2⟩
          have Ho2 := Lib.hid hown2
          have hb12 : Hid (Below w1.heap.size w1 w2) := hbr'.out.trans (hb2.mono hbr'.out.size)
          refine hK _ _ ⟨fun _ _ h => ⟨(hb2.cell hlt1.out).trans h.1, (hb2.cell hlt2.out).trans h.2⟩, ?_⟩
          have hS2 : Hid (w2.cell? ⟨w.heap.size, i, none⟩ = some (.int .i64 nv) ∧ w2.cell? ⟨w.heap.size + 1, k, none⟩ = some (.int .i64 (mvv : Int))) := ⟨(hb2.cell hlt1.out).trans hS0.out.1, (hb2.cell hlt2.out).trans hS0.out.2⟩
          clear hK hown2 hb2
          refine os_run rfl rfl (fun K hK => ?_)
          go_wp2_with fail
          refine (FramePuts_any w2 (HS1.out.below hb12.out hpos1.out) nv Hnw.out A2 mvv c2 _ ((Sl.of_own Ho2.out).mono (fun k hk => hk.2.1)) (by omega)).mono ?_
          rintro e w3 ⟨rfl, hb3⟩
          have hb13 : Hid (Below w1.heap.size w1 w3) := hb12.out.trans (hb3.mono hb12.out.size)
          have hS3 : Hid (w3.cell? ⟨w.heap.size, i, none⟩ = some (.int .i64 nv) ∧ w3.cell? ⟨w.heap.size + 1, k, none⟩ = some (.int .i64 (mvv : Int))) := ⟨(hb3.cell (World.block_lt_of_cell? _ _ hS2.out.1)).trans hS2.out.1, (hb3.cell (World.block_lt_of_cell? _ _ hS2.out.2)).trans hS2.out.2⟩
          refine hK _ _ ⟨fun _ _ _ => hS3.out, ?_⟩
          clear hK hb3
          have hlt31 := Lib.hid (World.block_lt_of_cell? _ _ hS3.out.1)
          have hlt32 := Lib.hid (World.block_lt_of_cell? _ _ hS3.out.2)
          iterate 2 (
            refine os_move rfl rfl rfl (Nat.le_of_ble_eq_true rfl) ?_
            apply Exists.intro
            refine ⟨fun w' K hK => ?_, ?_⟩
            (focus
              go_simp
              exact hK))
          iterate 3 (
            refine os_moveg rfl rfl rfl (Nat.le_of_ble_eq_true rfl) ?_
            apply Exists.intro
            refine ⟨fun w' K hK => ?_, ?_⟩
            (focus
              go_simp
              exact hK))
          refine os_yldg hS3.out rfl rfl rfl (Nat.le_of_ble_eq_true rfl) ?_
          apply Exists.intro
          refine ⟨fun w' hS' K hK => ?_, ?_⟩
          (focus
            obtain ⟨q1, q2⟩ := hS'
            go_simp
            exact hK)
          iterate 3 (
            refine os_moveg rfl rfl rfl (Nat.le_of_ble_eq_true rfl) ?_
            apply Exists.intro
            refine ⟨fun w' K hK => ?_, ?_⟩
            (focus
              go_simp
              exact hK))
          refine os_yldg hS3.out rfl rfl rfl (Nat.le_of_ble_eq_true rfl) ?_
          apply Exists.intro
          refine ⟨fun w' hS' K hK => ?_, ?_⟩
          (focus
            obtain ⟨q1, q2⟩ := hS'
            go_simp
            exact hK)
          iterate 3 (
            refine os_moveg rfl rfl rfl (Nat.le_of_ble_eq_true rfl) ?_
            apply Exists.intro
            refine ⟨fun w' K hK => ?_, ?_⟩
            (focus
              go_simp
              exact hK))
          refine os_yldg hS3.out rfl rfl rfl (Nat.le_of_ble_eq_true rfl) ?_
          apply Exists.intro
          refine ⟨fun w' hS' K hK => ?_, ?_⟩
          (focus
            obtain ⟨q1, q2⟩ := hS'
            go_simp
            exact hK)
          iterate 1 (
            refine os_moveg rfl rfl rfl (Nat.le_of_ble_eq_true rfl) ?_
            apply Exists.intro
            refine ⟨fun w' K hK => ?_, ?_⟩
            (focus
              go_simp
              exact hK))
          refine os_two rfl rfl rfl rfl (fun K hK => ?_) (fun K hK => ?_)
          · go_wp2_with fail
            refine (Row_any mvv w3 (by omega)).mono ?_
            rintro e w4 ⟨A4, c4, rfl, hown4, hb4⟩
            have Ho4 := Lib.hid hown4; have Hb4 := Lib.hid hb4
            refine hK _ _ ⟨fun _ _ h => ⟨(hb4.cell hlt31.out).trans h.1, (hb4.cell hlt32.out).trans h.2⟩, ?_⟩
            clear hK hown4 hb4
            have hb5 : Hid (Below w3.heap.size w3 (w4.alloc (.cells #[.int .u8 1, .int .u8 0] 5))) := Hb4.out.alloc Hb4.out.size _
            have so : Hid (Sl (w4.alloc (.cells #[.int .u8 1, .int .u8 0] 5)) (Old (w4.alloc (.cells #[.int .u8 1, .int .u8 0] 5))) A4 mvv c4 (rowL mvv)) := (Sl.of_own (Ho4.out.alloc _)).mono (fun k hk => hk.2.1)
            have s10 : Hid (Sl (w4.alloc (.cells #[.int .u8 1, .int .u8 0] 5)) (Old (w4.alloc (.cells #[.int .u8 1, .int .u8 0] 5))) (some ⟨w4.heap.size, 0, none⟩) 2 2 [1, 0]) :=
              (Sl.of_block (l := [1, 0]) (heap_alloc_new w4 (.cells #[.int .u8 1, .int .u8 0] 5)) rfl 2 rfl).mono (fun k hk => by rw [hk]; show _ < _; simp)
            refine os_run rfl rfl (fun K hK => ?_)
            go_wp2_with fail
            refine ⟨fun _ _ h => ⟨(((Below.refl _ w4).alloc (Nat.le_refl _) _).cell (World.block_lt_of_cell? _ _ h.1)).trans h.1, (((Below.refl _ w4).alloc (Nat.le_refl _) _).cell (World.block_lt_of_cell? _ _ h.2)).trans h.2⟩, ?_⟩
            refine os_run rfl rfl (fun K hK => ?_)
            go_wp2_with fail
            refine (FrameBack_any _ (HS1.out.below (hb13.out.trans (hb5.out.mono hb13.out.size)) hpos1.out) nv Hnw.out A4 mvv c4 _ so.out (by omega) _ 2 2 _ s10.out (by omega) ((mvv : Int) + 3) (Hwf3.out _ (by omega) (by omega))).mono ?_
            rintro e w6 ⟨rfl, hb6⟩
            refine hK _ _ ⟨fun _ _ h => ⟨(hb6.cell (World.block_lt_of_cell? _ _ h.1)).trans h.1, (hb6.cell (World.block_lt_of_cell? _ _ h.2)).trans h.2⟩, ?_⟩
            clear hK
            iterate 1 (
              refine os_moveg rfl rfl rfl (Nat.le_of_ble_eq_true rfl) ?_
              apply Exists.intro
              refine ⟨fun w' K hK => ?_, ?_⟩
              (focus
                go_simp
                exact hK))
            iterate 1 (
              refine os_move rfl rfl rfl (Nat.le_of_ble_eq_true rfl) ?_
              apply Exists.intro
              refine ⟨fun w' K hK => ?_, ?_⟩
              (focus
                go_simp
                exact hK))
            refine os_done ?_
            have hfin : Hid (Below w1.heap.size w1 w6) := (hb13.out.trans (hb5.out.mono hb13.out.size)).trans (hb6.mono (hb13.out.trans (hb5.out.mono hb13.out.size)).size)
            go_wp2_with fail
            go_roundw
            case rel => exact ⟨k + 1, by omega, by go_num, hfin.out⟩
            case measure => simp [intOf]; omega
          · go_wp2_with fail
            refine ⟨fun h1 h2 => ⟨(((Below.refl _ w3).alloc (Nat.le_refl _) _).cell (World.block_lt_of_cell? _ _ h1)).trans h1, (((Below.refl _ w3).alloc (Nat.le_refl _) _).cell (World.block_lt_of_cell? _ _ h2)).trans h2⟩, ?_⟩
            have hb3' : Hid (Below w3.heap.size w3 (w3.alloc (.cells #[.int .u8 1, .int .u8 0] 5))) := (Below.refl _ _).alloc (Nat.le_refl _) _
            refine os_run rfl rfl (fun K hK => ?_)
            go_wp2_with fail
            refine (Row_any mvv (w3.alloc (.cells #[.int .u8 1, .int .u8 0] 5)) (by omega)).mono ?_
            rintro e w4 ⟨A4, c4, rfl, hown4, hb4⟩
            have Ho4 := Lib.hid hown4; have Hb4 := Lib.hid hb4
            refine hK _ _ ⟨fun _ _ h => ⟨(hb4.cell (World.block_lt_of_cell? _ _ h.1)).trans h.1, (hb4.cell (World.block_lt_of_cell? _ _ h.2)).trans h.2⟩, ?_⟩
            clear hK hown4 hb4
            have hb5 : Hid (Below w3.heap.size w3 w4) := hb3'.out.trans (Hb4.out.mono hb3'.out.size)
            have so : Hid (Sl w4 (Old w4) A4 mvv c4 (rowL mvv)) := (Sl.of_own Ho4.out).mono (fun k hk => hk.2.1)
            have s10 : Hid (Sl w4 (Old w4) (some ⟨w3.heap.size, 0, none⟩) 2 2 [1, 0]) :=
              ((Sl.of_block (l := [1, 0]) (heap_alloc_new w3 (.cells #[.int .u8 1, .int .u8 0] 5)) rfl 2 rfl).fr (Fr.of_below (M := NoB) Hb4.out) (fun k hk => ⟨by rw [hk]; simp, id⟩)).mono (fun k hk => by rw [hk]; have := Hb4.out.size; simp at this; show _ < _; omega)
            refine os_run rfl rfl (fun K hK => ?_)
            go_wp2_with fail
            refine (FrameBack_any _ (HS1.out.below (hb13.out.trans (hb5.out.mono hb13.out.size)) hpos1.out) nv Hnw.out A4 mvv c4 _ so.out (by omega) _ 2 2 _ s10.out (by omega) ((mvv : Int) + 3) (Hwf3.out _ (by omega) (by omega))).mono ?_
            rintro e w6 ⟨rfl, hb6⟩
            refine hK _ _ ⟨fun _ _ h => ⟨(hb6.cell (World.block_lt_of_cell? _ _ h.1)).trans h.1, (hb6.cell (World.block_lt_of_cell? _ _ h.2)).trans h.2⟩, ?_⟩
            clear hK
            iterate 1 (
              refine os_moveg rfl rfl rfl (Nat.le_of_ble_eq_true rfl) ?_
              apply Exists.intro
              refine ⟨fun w' K hK => ?_, ?_⟩
              (focus
                go_simp
                exact hK))
            iterate 1 (
              refine os_move rfl rfl rfl (Nat.le_of_ble_eq_true rfl) ?_
              apply Exists.intro
              refine ⟨fun w' K hK => ?_, ?_⟩
              (focus
                go_simp
                exact hK))
            refine os_done ?_
            have hfin : Hid (Below w1.heap.size w1 w6) := (hb13.out.trans (hb5.out.mono hb13.out.size)).trans (hb6.mono (hb13.out.trans (hb5.out.mono hb13.out.size)).size)
            go_wp2_with fail
            go_roundw
            case rel => exact ⟨k + 1, by omega, by go_num, hfin.out⟩
            case measure => simp [intOf]; omega
        · obtain rfl : k = 8 := by omega
          go_wp2_with fail
          go_roundw
          case rel => exact ⟨i + 1, by omega, by go_num, hbr.out⟩
          case measure => simp [intOf]; omega
    · obtain rfl : i = 9 := by omega
      have hz1 := hb1.out.size
      have hzo := hbo.out.size
      clear hi hi9
      have Hbo : Hid (Below w.heap.size w wo) := hb1.out.trans (hbo.out.mono hz1)
      have HSo := Lib.hid (HS.out.below Hbo.out hpos)
      go_wp2_with fail
      refine (Row_any 9 wo (by omega)).mono ?_
      rintro e w2 ⟨A2, c2, rfl, hown2, hb2⟩
      have Ho2 := Lib.hid hown2; have Hb2 := Lib.hid hb2
      have HS2 := Lib.hid (HSo.out.below hb2 HSo.out.pos)
      clear hown2 hb2
      go_wp2_with fail
      refine (Put_any HS2.out 7 (Sl.of_own Ho2.out) (fun k hk => hk.2.1) (by omega)).mono ?_
      rintro e w3 ⟨A3, n3, c3, rfl, hown3, hb3⟩
      have hE : putE 7 9 = 0 := rfl
      have hB : putB 7 (rowL 9) = frameB 7 (rowL 9) := by unfold putB; rw [rowL_len, hE, if_pos rfl]; rfl
      have hn3 : n3 = 18 := by have h := hown3.1; rw [hB, bs_length, frameB_len, rowL_len] at h; omega
      subst hn3
      rw [hE]
      have Ho3 := Lib.hid (own_mono hown3 (Nat.le_refl _))
      have hb03 : Hid (Below w.heap.size w w3) := (Hbo.out.trans (Hb2.out.mono Hbo.out.size)).trans (hb3.mono (Nat.le_trans Hbo.out.size Hb2.out.size))
      have HS3 := Lib.hid (HS.out.below hb03.out hpos)
      generalize putB 7 (rowL 9) = B at *
      have Sb := Lib.hid ((Sl.of_own Ho3.out).mono (G := fun j => j < w3.heap.size) (fun k hk => hk.2.1))
      have hlB : Hid (B.length = 18) := Sb.out.len
      have hpos3 := Lib.hid HS3.out.pos
      clear hown3 hb3 hE hB
      obtain ⟨gb, capb, hvb, _, hgb⟩ := Ho3.out.form (by omega)
      injection hvb with e1 _ e2
      subst e1 e2
      have hcap3 : 18 ≤ c3 := Sb.out.cap
      have hwfk : Hid (∀ x : Nat, x ≤ 200 → (Lit.int .i64 (x : Int)).wf = true) := fun x h1 => by
        have e1 : IntKind.i64.min = -9223372036854775808 := by decide
        have e2 : IntKind.i64.max = 9223372036854775807 := by decide
        simp only [Lit.wf, e1, e2, Bool.and_eq_true, decide_eq_true_eq]
        omega
      have hz03 := hb03.out.size
      clear hz1 hzo
      go_wp2_with fail
      go_loopw [7] (fun i w' => ∃ k : Nat, k ≤ 144 ∧ i = .int .i64 (k : Nat) ∧ Hid (Below w3.heap.size w3 w')) (fun i _ => 144 - (intOf i).toNat)
      case atStart => exact ⟨0, by omega, rfl, Below.refl _ _⟩
      case round =>
        obtain ⟨k, hk, rfl, hbr⟩ := hrel
        by_cases hlt : k < 144
        · have hkI : (k : Int) < 144 := by omega
          have hk0 : (0 : Int) ≤ (k : Int) := by omega
          obtain ⟨J, T, hJ, hT, hT8, hJ18⟩ : ∃ J T : Nat, (k : Int) / 8 = (J : Int) ∧ (k : Int) % 8 = (T : Int) ∧ T < 8 ∧ J < 18 := ⟨k / 8, k % 8, by omega, by omega, by omega, by omega⟩
          have hT8I : (T : Int) < 8 := by omega
          have hJI : (J : Int) < 18 := by omega
          have hJ0 : (0 : Int) ≤ (J : Int) := by omega
          have hJc : (J : Int) ≤ (c3 : Int) := by omega
          have Sbr := Lib.hid (Sb.out.fr (Fr.of_below (M := NoB) hbr.out) (fun k hk => ⟨hk, id⟩))
          have HSr := Lib.hid (HS3.out.below hbr.out hpos3.out)
          have hzr := hbr.out.size
          go_wp2_with (go_at_call 21
                       refine (CopyBytes_sl Sbr.out (fun k hk => Nat.lt_of_lt_of_le hk hzr) (by omega)).mono ?_
                       rintro e w4 ⟨A4, c4, rfl, hown4, hb4⟩
                       have Ho4 := Lib.hid hown4; have Hb4 := Lib.hid hb4
                       obtain ⟨gc, capc, hvc, hgcr, hgc⟩ := Ho4.out.form (by omega)
                       injection hvc with e1 _ e2
                       subst e1 e2
                       have hcell : w4.cell? ⟨gc, J, none⟩ = some (bv (B[J]'(by rw [hlB.out]; exact hJ18))) := by
                         rw [Ho4.out.cellAt J (by omega), bs_get B J (by rw [hlB.out]; exact hJ18)]
                       unfold bv at hcell
                       have hfz := Ho4.out.frozenAt J
                       clear hown4 hb4)
          obtain ⟨s1, s2⟩ := Ho4.out.stored J (.int .u8 (bits .xor .u8 ((B[J]'(by rw [hlB.out]; exact hJ18)).toNat : Int) (2 ^ T % 256)))
          rw [xor_pow _ hT8, show (.int .u8 ((B[J]'(by rw [hlB.out]; exact hJ18) ^^^ UInt8.ofNat (2 ^ T)).toNat : Int) : Value) = bv (B[J]'(by rw [hlB.out]; exact hJ18) ^^^ UInt8.ofNat (2 ^ T)) from rfl, ← bs_set] at s1
          have Hb5 : Hid (Below wr.heap.size wr (w4.setCell ⟨gc, J, none⟩ (bv (B[J]'(by rw [hlB.out]; exact hJ18) ^^^ UInt8.ofNat (2 ^ T))))) := Hb4.out.setCell (p := ⟨gc, J, none⟩) hgcr _
          have Ho5 := Lib.hid s1
          clear s1 s2 hcell hfz
          rw [xor_pow _ hT8, show (.int .u8 ((B[J]'(by rw [hlB.out]; exact hJ18) ^^^ UInt8.ofNat (2 ^ T)).toNat : Int) : Value) = bv (B[J]'(by rw [hlB.out]; exact hJ18) ^^^ UInt8.ofNat (2 ^ T)) from rfl]
          generalize w4.setCell ⟨gc, J, none⟩ (bv (B[J]'(by rw [hlB.out]; exact hJ18) ^^^ UInt8.ofNat (2 ^ T))) = w5 at *
          generalize B.set J (B[J]'(by rw [hlB.out]; exact hJ18) ^^^ UInt8.ofNat (2 ^ T)) = C at *
          have hz5 := Hb5.out.size
          have HS5 := Lib.hid (HSr.out.below Hb5.out HSr.out.pos)
          clear Hb4 Ho4
          refine (FrameGets_any w5 HS5.out _ 18 c4 C ((Sl.of_own Ho5.out).mono (fun k hk => hk.2.1)) (by omega)).mono ?_
          rintro e w6 ⟨rfl, hb6⟩
          have Hb6 := Lib.hid hb6
          have hz6 := hb6.size
          have Ho6 := Lib.hid (own_fr Ho5.out (Fr.of_below (M := NoB) hb6) (fun _ _ e => e))
          have HS6 := Lib.hid (HS5.out.below hb6 HS5.out.pos)
          have Hb36 : Hid (Below w3.heap.size w3 w6) := (hbr.out.trans (Hb5.out.mono hzr)).trans (hb6.mono (Nat.le_trans hzr hz5))
          have Sb6 := Lib.hid (Sb.out.fr (Fr.of_below (M := NoB) Hb36.out) (fun k hk => ⟨hk, id⟩))
          clear hb6
          go_wp2_with (at_builtin
                       refine append_bytes_g (.tmp 85) (.tmp 86) rfl wr.heap.size _ 18 c4 C rfl Ho6.out _ 18 c3 B rfl hlB.out Sb6.out.rd (by omega) (by omega) rfl ?_
                       intro A7 c7 w7 hown7 hg7 hat7)
          have Hb67 : Hid (Below w3.heap.size w3 w7) := Hb36.out.grown hg7 Hb36.out.size (fun j hj => by have := (Ho6.out.lt j hj).1; omega)
          have HS7 := Lib.hid (HS3.out.below Hb67.out hpos3.out)
          refine (FrameGets_any w7 HS7.out A7 36 c7 _ ((Sl.of_own hown7).mono (fun k hk => hk.2.1)) (by omega)).mono ?_
          rintro e w8 ⟨rfl, hb8⟩
          have Hb68 : Hid (Below w3.heap.size w3 w8) := Hb67.out.trans (hb8.mono Hb67.out.size)
          have HS8 := Lib.hid (HS3.out.below Hb68.out hpos3.out)
          have Sb8 : Hid (Sl w8 (Old w8) (some ⟨gb, 0, none⟩) J c3 (B.take J)) := (Sl.take_ (l' := B.drop J) (by rw [List.take_append_drop]; exact Sb.out.fr (Fr.of_below (M := NoB) Hb68.out) (fun k hk => ⟨hk, id⟩)) (by rw [List.length_take, hlB.out]; omega)).mono (fun k hk => Nat.lt_of_lt_of_le hk Hb68.out.size)
          clear hown7 hg7 hat7 hb8
          go_wp2_with fail
          refine (FrameGets_any w8 HS8.out _ J c3 _ Sb8.out (by omega)).mono ?_
          rintro e w9 ⟨rfl, hb9⟩
          have Hb69 : Hid (Below w3.heap.size w3 w9) := Hb68.out.trans (hb9.mono Hb68.out.size)
          clear hb9
          go_wp2_with fail
          refine (Row_any 9 w9 (by omega)).mono ?_
          rintro e w10 ⟨A10, c10, rfl, hown10, hb10⟩
          have Hb610 : Hid (Below w3.heap.size w3 w10) := Hb69.out.trans (hb10.mono Hb69.out.size)
          have Ho10 := Lib.hid hown10
          clear hown10 hb10
          go_wp2_with fail
          refine (FrameTurned_any w10 (HS3.out.below Hb610.out hpos3.out) 7 (by decide) A10 9 c10 _ ((Sl.of_own Ho10.out).mono (fun k hk => hk.2.1)) (by omega) k (hwfk.out k (by omega)) 1 (by decide)).mono ?_
          rintro e w11 ⟨rfl, hb11⟩
          have Hb611 : Hid (Below w3.heap.size w3 w11) := Hb610.out.trans (hb11.mono Hb610.out.size)
          clear hb11
          go_wp2_with fail
          refine (Row_any 9 w11 (by omega)).mono ?_
          rintro e w12 ⟨A12, c12, rfl, hown12, hb12⟩
          have Hb612 : Hid (Below w3.heap.size w3 w12) := Hb611.out.trans (hb12.mono Hb611.out.size)
          have Ho12 := Lib.hid hown12
          clear hown12 hb12
          go_wp2_with fail
          refine (FrameTurned_any w12 (HS3.out.below Hb612.out hpos3.out) 7 (by decide) A12 9 c12 _ ((Sl.of_own Ho12.out).mono (fun k hk => hk.2.1)) (by omega) k (hwfk.out k (by omega)) 2147483648 (by decide)).mono ?_
          rintro e w13 ⟨rfl, hb13⟩
          have Hb613 : Hid (Below w3.heap.size w3 w13) := Hb612.out.trans (hb13.mono Hb612.out.size)
          clear hb13
          go_wp2_with fail
          go_roundw
          case rel => exact ⟨k + 1, by omega, by go_num, Hb613.out⟩
          case measure => simp [intOf]; omega
        · obtain rfl : k = 144 := by omega
          have HSr := Lib.hid (HS3.out.below hbr.out hpos3.out)
          have hHw : Hid (Below w.heap.size w wr) := hb03.out.trans (hbr.out.mono hz03)
          have hc0 : crc [] = 0#32 := by decide +kernel
          go_wp2_with fail
          refine (Sum_at HSr.out (Sl.nil_ wr NoB) (by omega) 0#32 hc0).mono ?_
          rintro e w' ⟨rfl, rfl⟩
          have hwv0 : wv 0#32 = 0 := rfl
          rw [hwv0]
          go_wp2_with fail
          have hb5 : Hid (Below w.heap.size w (wr.alloc (.cells #[.int .u8 0, .int .u8 0, .int .u8 0, .int .u8 0, .int .u8 0] 5))) := hHw.out.alloc hHw.out.size _
          refine (FrameGets_any _ (HS.out.below hb5.out hpos) _ 5 5 [0, 0, 0, 0, 0] ((Sl.of_block (l := [0, 0, 0, 0, 0]) (heap_alloc_new wr (.cells #[.int .u8 0, .int .u8 0, .int .u8 0, .int .u8 0, .int .u8 0] 5)) rfl 5 rfl).mono (fun k hk => by rw [hk]; show _ < _; simp)) (by omega)).mono ?_
          rintro e w6 ⟨rfl, hb6⟩
          have Hb6 : Hid (Below w.heap.size w w6) := hb5.out.trans (hb6.mono hb5.out.size)
          clear hb6
          go_wp2_with fail
          have hb7 : Hid (Below w.heap.size w (w6.alloc (.cells #[.int .u8 1, .int .u8 0, .int .u8 0, .int .u8 7, .int .u8 248] 5))) := Hb6.out.alloc Hb6.out.size _
          refine (FrameGets_any _ (HS.out.below hb7.out hpos) _ 5 5 [1, 0, 0, 7, 248] ((Sl.of_block (l := [1, 0, 0, 7, 248]) (heap_alloc_new w6 (.cells #[.int .u8 1, .int .u8 0, .int .u8 0, .int .u8 7, .int .u8 248] 5)) rfl 5 rfl).mono (fun k hk => by rw [hk]; show _ < _; simp)) (by omega)).mono ?_
          rintro e w8 ⟨rfl, hb8⟩
          have Hb8 : Hid (Below w.heap.size w w8) := hb7.out.trans (hb8.mono hb7.out.size)
          clear hb8
          go_wp2_with fail
          have hb9 : Hid (Below w.heap.size w (w8.alloc (.cells #[.int .u8 1, .int .u8 255, .int .u8 255, .int .u8 255, .int .u8 255, .int .u8 0] 5))) := Hb8.out.alloc Hb8.out.size _
          refine (FrameGets_any _ (HS.out.below hb9.out hpos) _ 6 6 [1, 255, 255, 255, 255, 0] ((Sl.of_block (l := [1, 255, 255, 255, 255, 0]) (heap_alloc_new w8 (.cells #[.int .u8 1, .int .u8 255, .int .u8 255, .int .u8 255, .int .u8 255, .int .u8 0] 5)) rfl 6 rfl).mono (fun k hk => by rw [hk]; show _ < _; simp)) (by omega)).mono ?_
          rintro e w10 ⟨rfl, hb10⟩
          have Hb10 : Hid (Below w.heap.size w w10) := hb9.out.trans (hb10.mono hb9.out.size)
          clear hb10
          go_wp2_with fail
          refine (works_any w10 (HS.out.below Hb10.out hpos)).mono ?_
          rintro e w11 ⟨rfl, hb11⟩
          go_wp2_with fail
          go_ret
          exact ⟨rfl, Hb10.out.trans (hb11.mono Hb10.out.size)⟩
end Go.Proofs.YtmdnlgfngpgfnaaDoor
