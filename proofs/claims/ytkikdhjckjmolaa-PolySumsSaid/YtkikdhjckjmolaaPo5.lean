/- Poly: settle, add. -/
import Derived.Test.YtkikdhjckjmolaaPo4
namespace Go.Proofs.Ytkikdhjckjmolaa
open Go.RowKit
attribute [local go_sem] yld yldUpon_value

def passN (l : List Nat) : Nat → List Nat
  | 0 => l
  | p + 1 => passL (passN l p)
theorem passN_len {l : List Nat} (h : l.length = 5) : ∀ p, (passN l p).length = 5
  | 0 => h
  | _ + 1 => passL_len _
theorem passN_le {l : List Nat} (h : l.length = 5) (hb : LeL l 1152921504606846976) : ∀ p, LeL (passN l p) 1152921504606846976
  | 0 => hb
  | p + 1 => by
    have h1 := pass_bound (passN_len h p) (passN_le h hb p)
    intro x hx
    obtain ⟨j, hj, rfl⟩ := List.getElem_of_mem hx
    have hj5 : j < 5 := by have := passN_len h (p + 1); omega
    have e : (passL (passN l p)).getD j 0 = (passN l (p + 1))[j] := by
      show (passN l (p + 1)).getD j 0 = _
      rw [List.getD_eq_getElem?_getD, List.getElem?_eq_getElem hj]; rfl
    refine Nat.le_trans (Nat.le_of_eq e.symm) ?_
    rcases Nat.eq_zero_or_pos j with rfl | hj0
    · have := h1.1; omega
    · have := h1.2 j hj0 hj5; omega
theorem getD_le {l : List Nat} {B : Nat} (h : LeL l B) (i : Nat) : l.getD i 0 ≤ B := by
  rw [List.getD_eq_getElem?_getD]
  cases e : l[i]? with
  | none => exact Nat.zero_le _
  | some x => exact h x (List.mem_of_getElem? e)
theorem carry_le {l : List Nat} (hb : LeL l 1152921504606846976) : ∀ k, carryL l k ≤ 17179869700
  | 0 => Nat.zero_le _
  | k + 1 => by
    have h1 := getD_le hb k
    have h2 := carry_le hb k
    show (l.getD k 0 + carryL l k) / 67108864 ≤ _
    omega
theorem mid_cell (l : List Nat) (k : Nat) (h : k < 5) : (midL l k).getD k 0 = l.getD k 0 := by rw [midL_get l k k h, if_neg (by omega)]

set_option maxRecDepth 100000 in
set_option maxHeartbeats 8000000 in
theorem settle_any {w : World} {g : Nat} {l : List Nat} (h : Num w g l) (hb : LeL l 1152921504606846976) :
    Calls Try.prog 34 #[.pointer (some ⟨g, 0, none⟩)] w fun e w' => e = .returned (.tuple #[]) ∧ Num w' g (settleL l) ∧ Fr (fun j => j = g) w w' := by
  have H := Lib.hid h; have HB := Lib.hid hb
  clear h hb
  go_enter Try.func34, Try.ntmps34
  go_wp2_with fail
  go_loopw [4] (fun v wr => ∃ p : Nat, p ≤ 2 ∧ v = .int .i64 (p : Nat) ∧ Hid (Num wr g (passN l p) ∧ Fr (fun j => j = g) w wr)) (fun v _ => 2 - (intOf v).toNat)
  case atStart => exact ⟨0, Nat.zero_le _, rfl, Lib.hid ⟨H.out, Fr.refl _ _⟩⟩
  case round =>
    obtain ⟨p, hp, rfl, HI⟩ := hrel
    by_cases hlt : p < 2
    · have hpI : (p : Int) < 2 := by omega
      have hp0 : (0 : Int) ≤ (p : Int) := by omega
      obtain ⟨m, hm⟩ : ∃ m, m = passN l p := ⟨_, rfl⟩
      have hml : m.length = 5 := by rw [hm]; exact passN_len H.out.len p
      have hmb : LeL m 1152921504606846976 := by rw [hm]; exact passN_le H.out.len HB.out p
      have HMl := Lib.hid hml; have HMb := Lib.hid hmb; have HM := Lib.hid hm
      have HI2 : Hid (Num wr g (midL m 0) ∧ Fr (fun j => j = g) w wr) := ⟨by rw [midL_0 hml, hm]; exact HI.out.1, HI.out.2⟩
      clear hml hmb hm HI
      go_wp2_with fail
      go_loopw [2, 6] (fun c i wr => ∃ k : Nat, k ≤ 5 ∧ i = .int .i64 (k : Nat) ∧ c = .int .u64 (carryL m k : Nat) ∧ Hid (Num wr g (midL m k) ∧ Fr (fun j => j = g) w wr)) (fun _ i _ => 5 - (intOf i).toNat)
      case atStart => exact ⟨0, Nat.zero_le _, rfl, rfl, HI2.out⟩
      case round =>
        clear HI2
        rename World => wi
        obtain ⟨k, hk, rfl, rfl, HJ⟩ := hrel
        by_cases hlk : k < 5
        · have hkI : (k : Int) < 5 := by omega
          have hk0 : (0 : Int) ≤ (k : Int) := by omega
          obtain ⟨x, hx⟩ : ∃ x, x = m.getD k 0 := ⟨_, rfl⟩
          obtain ⟨c, hc⟩ : ∃ c, c = carryL m k := ⟨_, rfl⟩
          have hxb : x ≤ 1152921504606846976 := by rw [hx]; exact getD_le HMb.out k
          have hcb : c ≤ 17179869700 := by rw [hc]; exact carry_le HMb.out k
          obtain ⟨y, hy⟩ : ∃ y, y = x + c := ⟨_, rfl⟩
          rw [← hc]
          have hcell : wi.cell? ⟨g, k, none⟩ = some (.int .u64 (x : Int)) := by rw [hx, ← mid_cell m k hlk]; exact HJ.out.1.cell hlk
          have hfz := HJ.out.1.frz k
          have hsum : IntKind.u64.wrap ((x : Int) + (c : Int)) = (y : Int) := by rw [wrap_u64]; omega
          have hyb : y ≤ 1152921521786716676 := by omega
          have Hx := Lib.hid hx; have Hc := Lib.hid hc; have Hy := Lib.hid hy; have Hyb := Lib.hid hyb
          clear hx hc hy hxb hcb hyb
          go_wp2_with fail
          go_region
          have G1 : Hid (Num (wi.setCell ⟨g, k, none⟩ (.int .u64 (y : Int))).drew g ((midL m k).set k y)) := ⟨(HJ.out.1.set k y).h, (HJ.out.1.set k y).len⟩
          have F1 : Hid (Fr (fun j => j = g) w (wi.setCell ⟨g, k, none⟩ (.int .u64 (y : Int))).drew) := (HJ.out.2.setCell (p := ⟨g, k, none⟩) (.inl rfl) _).drewN 1
          clear hcell hfz hsum HJ
          generalize (wi.setCell ⟨g, k, none⟩ (.int .u64 (y : Int))).drew = w1 at G1 F1 ⊢
          have hget : ((midL m k).set k y).getD k 0 = y := by
            rw [List.getD_eq_getElem?_getD, List.getElem?_set_self (by rw [midL_len]; exact hlk)]; rfl
          have hcell : w1.cell? ⟨g, k, none⟩ = some (.int .u64 (y : Int)) := by rw [← hget]; exact G1.out.cell hlk
          have hfz := G1.out.frz k
          obtain ⟨z, hz⟩ : ∃ z, z = y % 67108864 := ⟨_, rfl⟩
          obtain ⟨d, hd⟩ : ∃ d, d = y / 67108864 := ⟨_, rfl⟩
          have hyl : y < 18446744073709551616 := by have := Hyb.out; omega
          have hand : bits .and .u64 (y : Int) 67108863 = (z : Int) := by rw [and26 y hyl, hz]
          have hdiv : (y : Int) / 67108864 = (d : Int) := by rw [hd]; omega
          have hyI : (y : Int) < 18446744073709551616 := by omega
          have hy0 : (0 : Int) ≤ (y : Int) := by omega
          have Hz := Lib.hid hz; have Hd := Lib.hid hd
          clear hget hz hd hyl
          go_wp2_with fail
          go_region
          have G2 : Hid (Num (w1.setCell ⟨g, k, none⟩ (.int .u64 (z : Int))).drew g (midL m (k + 1))) := by
            have h := G1.out.set k z
            rw [List.set_set] at h
            have e := midL_set m k hlk
            rw [← Hx.out, ← Hc.out, ← Hy.out, ← Hz.out] at e
            rw [e] at h
            exact ⟨h.h, h.len⟩
          have F2 : Hid (Fr (fun j => j = g) w (w1.setCell ⟨g, k, none⟩ (.int .u64 (z : Int))).drew) := (F1.out.setCell (p := ⟨g, k, none⟩) (.inl rfl) _).drewN 1
          clear hcell hfz hand hdiv G1 F1
          go_wp2_with fail
          go_roundw
          case rel =>
            refine ⟨k + 1, by omega, by go_num, ?_, Lib.hid ⟨G2.out, F2.out⟩⟩
            rw [Hd.out, Hy.out, Hx.out, Hc.out]; rfl
          case measure => simp [intOf]; omega
        · have hkI : decide ((k : Int) < 5) = false := decide_eq_false (by omega)
          have hk5 : k = 5 := by omega
          subst hk5
          obtain ⟨x, hx⟩ : ∃ x, x = (midL m 5).getD 0 0 := ⟨_, rfl⟩
          obtain ⟨c, hc⟩ : ∃ c, c = carryL m 5 := ⟨_, rfl⟩
          have hxb : x ≤ 67108863 := by rw [hx, midL_get m 5 0 (by decide), if_pos (by decide)]; omega
          have hcb : c ≤ 17179869700 := by rw [hc]; exact carry_le HMb.out 5
          obtain ⟨y, hy⟩ : ∃ y, y = x + 5 * c := ⟨_, rfl⟩
          rw [← hc]
          have hcell : wi.cell? ⟨g, 0, none⟩ = some (.int .u64 (x : Int)) := by rw [hx]; exact HJ.out.1.cell (by decide)
          have hfz := HJ.out.1.frz 0
          obtain ⟨f, hf⟩ : ∃ f, f = 5 * c := ⟨_, rfl⟩
          have hmul : IntKind.u64.wrap ((5 : Int) * (c : Int)) = (f : Int) := by rw [wrap_u64]; omega
          have hsum : IntKind.u64.wrap ((x : Int) + (f : Int)) = (y : Int) := by rw [wrap_u64]; omega
          have Hx := Lib.hid hx; have Hc := Lib.hid hc; have Hy := Lib.hid hy
          clear hx hc hy hxb hcb hf
          go_wp2_with fail
          go_region
          have G1 : Hid (Num (wi.setCell ⟨g, 0, none⟩ (.int .u64 (y : Int))).drew g (passN l (p + 1))) := by
            have h := HJ.out.1.set 0 y
            have e : passN l (p + 1) = (midL m 5).set 0 y := by
              show passL (passN l p) = _
              rw [← HM.out, Hy.out, Hx.out, Hc.out]; rfl
            rw [e]; exact ⟨h.h, h.len⟩
          have F1 : Hid (Fr (fun j => j = g) w (wi.setCell ⟨g, 0, none⟩ (.int .u64 (y : Int))).drew) := (HJ.out.2.setCell (p := ⟨g, 0, none⟩) (.inl rfl) _).drewN 1
          clear hcell hfz hsum hmul HJ
          go_wp2_with fail
          go_roundw
          case rel => exact ⟨p + 1, by omega, by go_num, Lib.hid ⟨G1.out, F1.out⟩⟩
          case measure => simp [intOf]; omega
    · have hpI : decide ((p : Int) < 2) = false := decide_eq_false (by omega)
      have hp2 : p = 2 := by omega
      subst hp2
      go_wp2_with fail
      go_end0
      exact ⟨rfl, HI.out.1, HI.out.2⟩
end Go.Proofs.Ytkikdhjckjmolaa
