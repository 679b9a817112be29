/- Poly: add, times. -/
import Derived.Test.YtkikdhjckjmolaaPo5
namespace Go.Proofs.Ytkikdhjckjmolaa
open Go.RowKit
attribute [local go_sem] yld yldUpon_value

def addS (l m : List Nat) (k : Nat) : List Nat := (List.range 5).map fun i => if i < k then l.getD i 0 + m.getD i 0 else l.getD i 0
theorem addS_len (l m : List Nat) (k : Nat) : (addS l m k).length = 5 := by simp [addS]
theorem addS_0 {l : List Nat} (h : l.length = 5) (m : List Nat) : addS l m 0 = l := by
  obtain ⟨a, b, c, d, e, rfl⟩ := five h
  simp [addS, List.range_succ]
theorem addS_5 (l m : List Nat) : addS l m 5 = addL l m := by
  unfold addS addL
  apply List.map_congr_left
  intro i hi
  simp at hi
  rw [if_pos hi]
theorem addS_get (l m : List Nat) (k : Nat) (h : k < 5) : (addS l m k).getD k 0 = l.getD k 0 := by
  simp only [addS, List.getD_eq_getElem?_getD, List.getElem?_map, List.getElem?_range h, Option.map_some, Option.getD_some]
  rw [if_neg (by omega)]
theorem addS_set (l m : List Nat) (k : Nat) (h : k < 5) : (addS l m k).set k (l.getD k 0 + m.getD k 0) = addS l m (k + 1) := by
  apply List.ext_getElem?
  intro i
  rw [List.getElem?_set, addS_len]
  by_cases e : k = i
  · subst e
    rw [if_pos rfl, if_pos h]
    simp [addS, h]
  · rw [if_neg e]
    by_cases hi : i < 5
    · simp only [addS, List.getElem?_map, List.getElem?_range hi, Option.map_some]
      by_cases h1 : i < k
      · rw [if_pos h1, if_pos (by omega)]
      · rw [if_neg h1, if_neg (by omega)]
    · rw [List.getElem?_eq_none (by rw [addS_len]; omega), List.getElem?_eq_none (by rw [addS_len]; omega)]

set_option maxRecDepth 100000 in
set_option maxHeartbeats 8000000 in
theorem add_any {w : World} {g : Nat} {l m : List Nat} (h : Num w g l) (hm : m.length = 5) (hbl : LeL l 1152921504606846976) (hbm : LeL m 1152921504606846976) :
    Calls Try.prog 20 #[.pointer (some ⟨g, 0, none⟩), .agg (nl m).toArray] w fun e w' => e = .returned (.tuple #[]) ∧ Num w' g (addL l m) ∧ Fr (fun j => j = g) w w' := by
  have H := Lib.hid h; have HBl := Lib.hid hbl; have HBm := Lib.hid hbm; have HM := Lib.hid hm
  clear h hbl hbm hm
  have HI0 : Hid (Num (w.alloc (.cells (nl m).toArray 41)) g (addS l m 0) ∧ (w.alloc (.cells (nl m).toArray 41)).heap[w.heap.size]? = some (.cells (nl m).toArray 41 (0, 0)) ∧ Fr (fun j => j = g) w (w.alloc (.cells (nl m).toArray 41))) :=
    ⟨by rw [addS_0 H.out.len]; exact H.out.bel (Below.al _ _), heap_alloc_new w _, (Fr.refl _ _).alloc _⟩
  have hlt0 := H.out.lt
  go_enter Try.func20, Try.ntmps20
  go_wp2_with fail
  generalize w.alloc (.cells (nl m).toArray 41) = w0 at HI0 ⊢
  generalize hg3 : w.heap.size = g3 at HI0 hlt0 ⊢
  have hne : g3 ≠ g := by omega
  clear hg3 hlt0
  go_loopw [5] (fun v wr => ∃ k : Nat, k ≤ 5 ∧ v = .int .i64 (k : Nat) ∧ Hid (Num wr g (addS l m k) ∧ wr.heap[g3]? = some (.cells (nl m).toArray 41 (0, 0)) ∧ Fr (fun j => j = g) w wr)) (fun v _ => 5 - (intOf v).toNat)
  case atStart => exact ⟨0, Nat.zero_le _, rfl, HI0.out⟩
  case round =>
    clear HI0
    obtain ⟨k, hk, rfl, HI⟩ := hrel
    by_cases hlt : k < 5
    · have hkI : (k : Int) < 5 := by omega
      have hk0 : (0 : Int) ≤ (k : Int) := by omega
      obtain ⟨x, hx⟩ : ∃ x, x = l.getD k 0 := ⟨_, rfl⟩
      obtain ⟨y, hy⟩ : ∃ y, y = m.getD k 0 := ⟨_, rfl⟩
      have hxb : x ≤ 1152921504606846976 := by rw [hx]; exact getD_le HBl.out k
      have hyb : y ≤ 1152921504606846976 := by rw [hy]; exact getD_le HBm.out k
      obtain ⟨z, hz⟩ : ∃ z, z = x + y := ⟨_, rfl⟩
      have hcx : wr.cell? ⟨g, k, none⟩ = some (.int .u64 (x : Int)) := by rw [hx, ← addS_get l m k hlt]; exact HI.out.1.cell hlt
      have hcy : wr.cell? ⟨g3, k, none⟩ = some (.int .u64 (y : Int)) := by
        rw [cell_of_row wr g3 k _ _ _ HI.out.2.1, List.getElem?_toArray, nl_get m k (by rw [HM.out]; exact hlt), hy]
      have hfz := HI.out.1.frz k
      have hsum : IntKind.u64.wrap ((x : Int) + (y : Int)) = (z : Int) := by rw [wrap_u64]; omega
      have Hx := Lib.hid hx; have Hy := Lib.hid hy; have Hz := Lib.hid hz
      clear hx hy hz hxb hyb
      go_wp2_with fail
      go_region
      have hf : Fr (fun j => j = g) wr (wr.setCell ⟨g, k, none⟩ (.int .u64 (z : Int))).drew := ((Fr.refl (fun j => j = g) wr).setCell (p := ⟨g, k, none⟩) (.inl rfl) _).drewN 1
      have G1 : Hid (Num (wr.setCell ⟨g, k, none⟩ (.int .u64 (z : Int))).drew g (addS l m (k + 1)) ∧ (wr.setCell ⟨g, k, none⟩ (.int .u64 (z : Int))).drew.heap[g3]? = some (.cells (nl m).toArray 41 (0, 0)) ∧ Fr (fun j => j = g) w (wr.setCell ⟨g, k, none⟩ (.int .u64 (z : Int))).drew) := by
        refine ⟨?_, (hf.block g3 (Array.getElem?_eq_some_iff.1 HI.out.2.1).1 hne).trans HI.out.2.1, HI.out.2.2.tr hf⟩
        have h := HI.out.1.set k z
        have e := addS_set l m k hlt
        rw [← Hx.out, ← Hy.out, ← Hz.out] at e
        rw [e] at h
        exact ⟨h.h, h.len⟩
      clear hcx hcy hfz hsum HI hf
      go_wp2_with fail
      go_roundw
      case rel => exact ⟨k + 1, by omega, by go_num, G1.out⟩
      case measure => simp [intOf]; omega
    · have hkI : decide ((k : Int) < 5) = false := decide_eq_false (by omega)
      have hk5 : k = 5 := by omega
      subst hk5
      go_wp2_with fail
      go_end0
      exact ⟨rfl, by rw [← addS_5]; exact HI.out.1, HI.out.2.2⟩
theorem Try.infoU64 : (Try.prog.info? 39).map (fun i => (i.zero, i.size, i.bytes)) = some (some (.int .u64 0), 1, 8) := by kernel_rfl
theorem run_index_nl (w : World) (l : List Nat) (hn : l.length = 5) (i : Nat) (h : i < 5) :
    (Instr.index 41 (.agg (nl l).toArray) (.int .i64 i)).run Try.prog w = .ok (.int .u64 ((l.getD i 0 : Nat) : Int)) w := by
  obtain ⟨i0, hi, hz0, hz1, hz2⟩ := info_parts Try.infoU64
  have e : (nl l).toArray[i * 1]? = some (.int .u64 ((l.getD i 0 : Nat) : Int)) := by
    rw [Nat.mul_one, List.getElem?_toArray, nl_get l i (by omega)]
  have hag : (isAgg 39).run Try.prog w = .ok false w := by
    unfold isAgg
    simp [run_underlying Try.underlying39]
  have hp : (part 39 (nl l).toArray (i * 1)).run Try.prog w = .ok (.int .u64 ((l.getD i 0 : Nat) : Int)) w := by
    unfold part
    simp only [Sem.run_bind, hag, Result.andThen_ok, e]
    simp
  have hsz : (sizeOf 39).run Try.prog w = .ok 1 w := by
    unfold sizeOf typeInfo
    simp [hi, hz1]
  unfold Instr.index
  simp only [asIntOf, Sem.run_bind, Sem.run_pure, Result.andThen_ok, run_underlying Try.underlying41]
  rw [if_pos ⟨by omega, by omega⟩]
  simp only [Sem.run_bind, hsz, Result.andThen_ok, Int.toNat_natCast]
  exact hp

/-- the product, while it is made -/
structure MulI (w wr : World) (g g3 g4 : Nat) (l m : List Nat) (t : Nat) : Prop where
  n : Num wr g l
  mm : wr.heap[g3]? = some (.cells (nl m).toArray 41 (0, 0))
  o : Num wr g4 (mulS l m t)
  ord : g < g3 ∧ g3 < g4 ∧ w.heap.size ≤ g3
  fr : Fr (fun j => j = g) w wr
theorem MulI.drewN {w wr : World} {g g3 g4 : Nat} {l m : List Nat} {t : Nat} (h : MulI w wr g g3 g4 l m t) (k : Nat) : MulI w (wr.drewN k) g g3 g4 l m t := ⟨⟨h.n.h, h.n.len⟩, h.mm, ⟨h.o.h, h.o.len⟩, h.ord, h.fr.drewN k⟩
theorem MulI.step {w wr : World} {g g3 g4 : Nat} {l m : List Nat} {t : Nat} (h : MulI w wr g g3 g4 l m t) (s y : Nat) (e : (mulS l m t).set s y = mulS l m (t + 1)) : MulI w (wr.setCell ⟨g4, s, none⟩ (.int .u64 (y : Int))) g g3 g4 l m (t + 1) := by
  have hf : Fr (fun j => j = g4) wr (wr.setCell ⟨g4, s, none⟩ (.int .u64 (y : Int))) := (Fr.refl (fun j => j = g4) wr).setCell (p := ⟨g4, s, none⟩) (.inl rfl) _
  have ho := h.ord
  refine ⟨h.n.fr hf (by omega), (hf.block g3 (Array.getElem?_eq_some_iff.1 h.mm).1 (by omega)).trans h.mm, ?_, h.ord, ?_⟩
  · have := h.o.set s y
    rw [e] at this; exact this
  · exact ⟨hf.os.trans h.fr.os, hf.tape.trans h.fr.tape, hf.output.trans h.fr.output, Nat.le_trans h.fr.size hf.size, fun i hi hn => (hf.block i (Nat.lt_of_lt_of_le hi h.fr.size) (by omega)).trans (h.fr.block i hi hn)⟩
theorem mulS_idx (i k : Nat) (hk : k < 5) : (5 * i + k) / 5 = i ∧ (5 * i + k) % 5 = k := by omega
theorem mulS_lo (l m : List Nat) (i k : Nat) (hk : k < 5) (h : i + k < 5) : (mulS l m (5 * i + k)).set (i + k) ((mulS l m (5 * i + k)).getD (i + k) 0 + l.getD i 0 * m.getD k 0) = mulS l m (5 * i + k + 1) := by
  obtain ⟨h1, h2⟩ := mulS_idx i k hk
  rw [mulS]
  unfold incr
  rw [h1, h2, Nat.mod_eq_of_lt h, if_pos h]
theorem mulS_hi (l m : List Nat) (i k : Nat) (hi : i < 5) (hk : k < 5) (h : ¬ i + k < 5) : (mulS l m (5 * i + k)).set (i + k - 5) ((mulS l m (5 * i + k)).getD (i + k - 5) 0 + 5 * l.getD i 0 * m.getD k 0) = mulS l m (5 * i + k + 1) := by
  obtain ⟨h1, h2⟩ := mulS_idx i k hk
  rw [mulS]
  unfold incr
  rw [h1, h2, show (i + k) % 5 = i + k - 5 by omega, if_neg h]

set_option maxRecDepth 100000 in
set_option maxHeartbeats 8000000 in
theorem times_any {w : World} {g : Nat} {l m : List Nat} (h : Num w g l) (hm : m.length = 5) (hbl : LeL l 134217732) (hbm : LeL m 67108863) :
    Calls Try.prog 22 #[.pointer (some ⟨g, 0, none⟩), .agg (nl m).toArray] w fun e w' => e = .returned (.tuple #[]) ∧ Num w' g (settleL (mulL l m)) ∧ Fr (fun j => j = g) w w' := by
  have H := Lib.hid h; have HBl := Lib.hid hbl; have HBm := Lib.hid hbm; have HM := Lib.hid hm
  clear h hbl hbm hm
  obtain ⟨iN, hiN, zN, _, _⟩ := info_parts Try.infoNum
  have HiN := Lib.hid hiN; have HzN := Lib.hid zN
  clear hiN zN
  have h3 := Lib.hid (heap_alloc_new w (.cells (nl m).toArray 41))
  have uN := Lib.hid Try.underlying41
  have iM : Hid ((Try.prog.info? 41).map (·.size) = some (nl m).length) := by rw [nl_length, HM.out]; exact Try.sizeNum
  go_enter Try.func22, Try.ntmps22
  go_wp2_with (
    (with_reducible refine lst_alloc_d 4 rfl 41 rfl iN _ HiN.out HzN.out ?_ ?_)
    (focus rfl)
    intro g4 w4 Hg4 Hh4 hb4)
  have HI0 : Hid (MulI w w4 g w.heap.size g4 l m 0) := by
    have e := Hg4.out.1
    refine ⟨(H.out.bel (Below.al _ _)).bel hb4, heap_bel h3.out hb4, ⟨Hh4.out, rfl⟩, ?_, Fr.of_below (Below.tr (Below.al _ _) hb4)⟩
    have := H.out.lt
    rw [World.size_alloc] at e
    omega
  clear Hg4 Hh4 hb4 h3 HiN HzN
  generalize w.heap.size = g3 at HI0 ⊢
  go_loopw [10] (fun v wr => ∃ i : Nat, i ≤ 5 ∧ v = .int .i64 (i : Nat) ∧ Hid (MulI w wr g g3 g4 l m (5 * i))) (fun v _ => 5 - (intOf v).toNat)
  case atStart => exact ⟨0, Nat.zero_le _, rfl, HI0.out⟩
  case round =>
    clear HI0
    obtain ⟨i, hi, rfl, HI⟩ := hrel
    by_cases hlt : i < 5
    · have hiI : (i : Int) < 5 := by omega
      have hi0 : (0 : Int) ≤ (i : Int) := by omega
      obtain ⟨a, ha⟩ : ∃ a, a = l.getD i 0 := ⟨_, rfl⟩
      have Ha := Lib.hid ha
      have hab : a ≤ 134217732 := by rw [ha]; exact getD_le HBl.out i
      have Hab := Lib.hid hab
      have hca : wr.cell? ⟨g, i, none⟩ = some (.int .u64 (a : Int)) := by rw [ha]; exact HI.out.n.cell hlt
      clear ha hab
      go_wp2_with fail
      go_region
      have HJ0 : Hid (MulI w wr.drew g g3 g4 l m (5 * i + 0)) := HI.out.drewN 1
      clear hca HI
      generalize wr.drew = w1 at HJ0 ⊢
      have hrm : Hid (w1.rangeAt g3 0 (nl m)) := range_block HJ0.out.mm
      go_wp2_with (
        (with_reducible refine lst_load_mid 41 (.tmp 3) rfl g3 0 rfl (nl m) _ hrm.out uN.out rfl iM.out ?_ ?_)
        (focus rfl))
      clear hrm
      go_loopw [17] (fun v wr => ∃ k : Nat, k ≤ 5 ∧ v = .int .i64 (k : Nat) ∧ Hid (MulI w wr g g3 g4 l m (5 * i + k))) (fun v _ => 5 - (intOf v).toNat)
      case atStart => exact ⟨0, Nat.zero_le _, rfl, HJ0.out⟩
      case round =>
        clear HJ0
        rename World => wi
        obtain ⟨k, hk, rfl, HJ⟩ := hrel
        by_cases hlk : k < 5
        · have hkI : (k : Int) < 5 := by omega
          have hk0 : (0 : Int) ≤ (k : Int) := by omega
          obtain ⟨b, hb⟩ : ∃ b, b = m.getD k 0 := ⟨_, rfl⟩
          have hbb : b ≤ 67108863 := by rw [hb]; exact getD_le HBm.out k
          have hrun := fun w => run_index_nl w m HM.out k hlk
          rw [← hb] at hrun
          have Hrun := Lib.hid hrun
          obtain ⟨s, hs⟩ : ∃ s : Nat, (i : Int) + (k : Int) = (s : Int) := ⟨i + k, by omega⟩
          have hsn : s = i + k := by omega
          have hab := Hab.out
          obtain ⟨q, hq⟩ : ∃ q, q = a * b := ⟨_, rfl⟩
          have hqb : q ≤ 9007199388958716 := by rw [hq]; exact Nat.le_trans (Nat.mul_le_mul hab hbb) (by decide)
          have hmb := mulS_bound HBl.out HBm.out H.out.len HM.out (5 * i + k) (by omega)
          have Hb := Lib.hid hb; have Hq := Lib.hid hq; have Hsn := Lib.hid hsn
          by_cases hik : i + k < 5
          · have hsI : (s : Int) < 5 := by omega
            have hs0 : (0 : Int) ≤ (s : Int) := by omega
            obtain ⟨x, hx⟩ : ∃ x, x = (mulS l m (5 * i + k)).getD s 0 := ⟨_, rfl⟩
            have hxb : x ≤ 25 * BB := by rw [hx]; exact Nat.le_trans (hmb s) (Nat.mul_le_mul_right _ (by omega))
            obtain ⟨y, hy⟩ : ∃ y, y = x + q := ⟨_, rfl⟩
            have hc : wi.cell? ⟨g4, s, none⟩ = some (.int .u64 (x : Int)) := by rw [hx]; exact HJ.out.o.cell (by omega)
            have hz := HJ.out.o.frz s
            have hmul : IntKind.u64.wrap ((a : Int) * (b : Int)) = (q : Int) := by
              rw [wrap_u64, show (a : Int) * (b : Int) = ((a * b : Nat) : Int) by simp, ← hq]; omega
            have hsum : IntKind.u64.wrap ((x : Int) + (q : Int)) = (y : Int) := by unfold BB at hxb; rw [wrap_u64]; omega
            have Hx := Lib.hid hx; have Hy := Lib.hid hy
            clear hx hy hxb hb hbb hq hqb hsn hab hmb hrun
            go_wp2_with (
              (with_reducible refine lst_index 41 (.tmp 16) (.tmp 17) rfl (.agg (nl m).toArray) (.int .i64 (k : Int)) (.int .u64 (b : Int)) rfl rfl (Hrun.out _) ?_ ?_)
              (focus rfl))
            have hst := HJ.out.step s y (by rw [Hsn.out, Hy.out, Hx.out, Hq.out, Ha.out, Hb.out, Hsn.out]; exact mulS_lo l m i k hlk hik)
            go_roundw
            case rel => exact ⟨k + 1, by omega, by go_num, hst⟩
            case measure => simp [intOf]; omega
          · have hsI : decide ((s : Int) < 5) = false := decide_eq_false (by omega)
            have hsI2 : ¬ s < 5 := by omega
            obtain ⟨r, hr⟩ : ∃ r : Nat, r = s - 5 := ⟨_, rfl⟩
            have hrs : (s : Int) - 5 = (r : Int) := by omega
            have hrI : (r : Int) < 5 := by omega
            have hr0 : (0 : Int) ≤ (r : Int) := by omega
            obtain ⟨x, hx⟩ : ∃ x, x = (mulS l m (5 * i + k)).getD r 0 := ⟨_, rfl⟩
            have hxb : x ≤ 25 * BB := by rw [hx]; exact Nat.le_trans (hmb r) (Nat.mul_le_mul_right _ (by omega))
            obtain ⟨f, hf⟩ : ∃ f, f = 5 * a := ⟨_, rfl⟩
            obtain ⟨p, hp⟩ : ∃ p, p = f * b := ⟨_, rfl⟩
            have hpq : p = 5 * q := by rw [hp, hf, hq, Nat.mul_assoc]
            obtain ⟨y, hy⟩ : ∃ y, y = x + p := ⟨_, rfl⟩
            have hc : wi.cell? ⟨g4, r, none⟩ = some (.int .u64 (x : Int)) := by rw [hx]; exact HJ.out.o.cell (by omega)
            have hz := HJ.out.o.frz r
            have hmul1 : IntKind.u64.wrap ((5 : Int) * (a : Int)) = (f : Int) := by rw [wrap_u64]; omega
            have hmul : IntKind.u64.wrap ((f : Int) * (b : Int)) = (p : Int) := by
              rw [wrap_u64, show (f : Int) * (b : Int) = ((f * b : Nat) : Int) by simp, ← hp]; omega
            have hsum : IntKind.u64.wrap ((x : Int) + (p : Int)) = (y : Int) := by unfold BB at hxb; rw [wrap_u64]; omega
            have Hx := Lib.hid hx; have Hy := Lib.hid hy; have Hp := Lib.hid hp; have Hf := Lib.hid hf; have Hr := Lib.hid hr
            clear hx hy hxb hb hbb hq hqb hsn hab hmb hrun hp hf hpq hr
            go_wp2_with (
              (with_reducible refine lst_index 41 (.tmp 16) (.tmp 17) rfl (.agg (nl m).toArray) (.int .i64 (k : Int)) (.int .u64 (b : Int)) rfl rfl (Hrun.out _) ?_ ?_)
              (focus rfl))
            have hst := HJ.out.step r y (by rw [Hr.out, Hsn.out, Hy.out, Hx.out, Hp.out, Hf.out, Ha.out, Hb.out, Hr.out, Hsn.out]; exact mulS_hi l m i k hlt hlk hik)
            go_roundw
            case rel => exact ⟨k + 1, by omega, by go_num, hst⟩
            case measure => simp [intOf]; omega
        · have hkI : decide ((k : Int) < 5) = false := decide_eq_false (by omega)
          have hk5 : k = 5 := by omega
          rw [hk5] at HJ
          clear hk5
          have hkI2 : ¬ k < 5 := hlk
          go_wp2_with fail
          go_roundw
          case rel => exact ⟨i + 1, by omega, by go_num, HJ.out⟩
          case measure => simp [intOf]; omega
    · have hiI : decide ((i : Int) < 5) = false := decide_eq_false (by omega)
      have hi5 : i = 5 := by omega
      subst hi5
      have HMu : Hid (Num wr g4 (mulL l m)) := HI.out.o
      have hro : Hid (wr.rangeAt g4 0 (nl (mulL l m))) := HMu.out.range
      have iO : Hid ((Try.prog.info? 41).map (·.size) = some (nl (mulL l m)).length) := by rw [nl_length, mulL_len]; exact Try.sizeNum
      go_wp2_with (first
        | ((with_reducible refine lst_load_mid 41 (.tmp 4) rfl g4 0 rfl (nl (mulL l m)) _ hro.out uN.out rfl iO.out ?_ ?_)
           (focus rfl))
        | ((with_reducible refine lst_store_abs 41 (.tmp 51) (.tmp 50) rfl g 41 (nl l).toArray (nl (mulL l m)).toArray rfl rfl HI.out.n.h (by simpa using iO.out) (by simp [nl_length, mulL_len, H.out.len]) (by simp; exact nl_oneCell _) ?_ ?_)
           (focus rfl)
           intro w6 Hh6 hg6))
      refine (settle_any ⟨Hh6.out, mulL_len l m⟩ (mulL_le HBl.out HBm.out H.out.len HM.out)).mono ?_
      rintro e w7 ⟨rfl, hn7, hf7⟩
      go_wp2_with fail
      go_end0
      exact ⟨rfl, hn7, (HI.out.fr.tr ((Fr.of_grown hg6).mono (fun i _ e => by injection e))).tr hf7⟩
end Go.Proofs.Ytkikdhjckjmolaa
