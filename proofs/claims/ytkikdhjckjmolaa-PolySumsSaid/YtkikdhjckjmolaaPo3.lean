/- Poly: numbers in memory; word, limbs. -/
import Derived.Test.YtkikdhjckjmolaaPo2
import Derived.Test.YtkikdhjckjmolaaByb
namespace Go.Proofs.Ytkikdhjckjmolaa
open Go.RowKit
attribute [local go_sem] yld yldUpon_value

/-- the number of bytes, the lowest first -/
def leN (l : List UInt8) : Nat := l.foldr (fun u n => u.toNat + 256 * n) 0
theorem leN_lt : ∀ l : List UInt8, leN l < 256 ^ l.length
  | [] => by decide
  | u :: l => by
    have h := leN_lt l
    have hu := u.toNat_lt
    show u.toNat + 256 * leN l < 256 ^ (l.length + 1)
    rw [Nat.pow_succ]; omega
theorem leN_append (l m : List UInt8) : leN (l ++ m) = leN l + 256 ^ l.length * leN m := by
  induction l with
  | nil => simp [leN]
  | cons u l ih =>
    show u.toNat + 256 * leN (l ++ m) = u.toNat + 256 * leN l + 256 ^ (l.length + 1) * leN m
    rw [ih, Nat.pow_succ, Nat.mul_add, Nat.mul_comm (256 ^ l.length) 256, Nat.mul_assoc]; omega
theorem leN_take_succ (l : List UInt8) (k : Nat) (h : k < l.length) : leN (l.take (k + 1)) = leN (l.take k) + 256 ^ k * l[k].toNat := by
  rw [List.take_succ_eq_append_getElem h, leN_append, List.length_take, Nat.min_eq_left (by omega)]
  simp [leN]
theorem or64 (x y k : Nat) (hx : x < 2 ^ k) (h : 2 ^ k * y + x < 18446744073709551616) : bits .or .u64 (x : Int) ((2 ^ k * y : Nat) : Int) = ((x + 2 ^ k * y : Nat) : Int) := by
  show IntKind.u64.wrap ((BitVec.ofInt 64 (x : Int) ||| BitVec.ofInt 64 ((2 ^ k * y : Nat) : Int)).toNat : Int) = _
  have e1 : (BitVec.ofInt 64 (x : Int)).toNat = x := by rw [BitVec.toNat_ofInt]; omega
  have e2 : (BitVec.ofInt 64 ((2 ^ k * y : Nat) : Int)).toNat = 2 ^ k * y := by rw [BitVec.toNat_ofInt]; omega
  rw [BitVec.toNat_or, e1, e2, Nat.or_comm, ← Nat.two_pow_add_eq_or_of_lt hx y]
  have : IntKind.u64.wrap (((2 ^ k * y + x : Nat)) : Int) = (((2 ^ k * y + x : Nat)) : Int) % 18446744073709551616 := by simp [IntKind.wrap, IntKind.signed, IntKind.bits]
  rw [this]; omega

theorem wrap_u64 (n : Int) : IntKind.u64.wrap n = n % 18446744073709551616 := by simp [IntKind.wrap, IntKind.signed, IntKind.bits]
theorem word_step (l : List UInt8) (k : Nat) (h8 : k < 8) (hl : k < l.length) : bits .or .u64 ((leN (l.take k) : Nat) : Int) (IntKind.u64.wrap (IntKind.u64.wrap (l[k].toNat : Int) * 2 ^ (8 * k))) = ((leN (l.take (k + 1)) : Nat) : Int) := by
  have hu := l[k].toNat_lt
  have hx := leN_lt (l.take k)
  rw [List.length_take, Nat.min_eq_left (by omega)] at hx
  have hp : (256 : Nat) ^ k = 2 ^ (8 * k) := by rw [Nat.pow_mul]
  rw [hp] at hx
  have hpk : 2 ^ (8 * k) * 256 ≤ 18446744073709551616 := by
    have : 2 ^ (8 * k) * 256 = 2 ^ (8 * k + 8) := by rw [Nat.pow_add]
    rw [this]
    exact Nat.pow_le_pow_right (by decide) (by omega : 8 * k + 8 ≤ 64)
  have hm : 2 ^ (8 * k) * l[k].toNat ≤ 2 ^ (8 * k) * 255 := Nat.mul_le_mul_left _ (by omega)
  have e1 : IntKind.u64.wrap (IntKind.u64.wrap (l[k].toNat : Int) * 2 ^ (8 * k)) = ((2 ^ (8 * k) * l[k].toNat : Nat) : Int) := by
    rw [wrap_u64, wrap_u64]
    have e2 : (l[k].toNat : Int) % 18446744073709551616 = (l[k].toNat : Int) := by omega
    rw [e2, show (l[k].toNat : Int) * 2 ^ (8 * k) = ((2 ^ (8 * k) * l[k].toNat : Nat) : Int) by rw [Int.mul_comm]; simp]
    omega
  rw [e1, or64 _ _ _ hx (by omega), leN_take_succ l k hl, hp]
set_option maxRecDepth 100000 in
set_option maxHeartbeats 2000000 in
theorem pword_any {w : World} {F : Nat → Prop} {A : Option Addr} {n c : Nat} {l : List UInt8} (h : Sl w F A n c l) (h8 : 8 ≤ n) (hn : n ≤ 1000000000) :
    Calls Try.prog 26 #[.slice A n c] w fun e w' => e = .returned (.int .u64 (leN (l.take 8) : Nat)) ∧ w' = w := by
  have H := Lib.hid h
  have HL := Lib.hid h.len
  clear h
  go_enter Try.func26, Try.ntmps26
  go_wp2_with fail
  go_loop [3, 5] (fun v i => ∃ k : Nat, k ≤ 8 ∧ i = .int .i64 (k : Nat) ∧ v = .int .u64 (leN (l.take k) : Nat)) (fun _ i => 8 - (intOf i).toNat)
  case atStart => exact ⟨0, Nat.zero_le _, rfl, rfl⟩
  case round =>
    obtain ⟨k, hk, rfl, rfl⟩ := hrel
    by_cases hlt : k < 8
    · have hkI : (k : Int) < 8 := by omega
      have hk0 : (0 : Int) ≤ (k : Int) := by omega
      have hkn : (k : Int) < (n : Int) := by omega
      have hkl : k < l.length := by have := HL.out; omega
      obtain ⟨ad, rfl, hc⟩ := H.out.rd.at_ hkl
      have hst := Lib.hid (word_step l k hlt hkl)
      go_wp2_with fail
      go_round
      case rel => exact ⟨k + 1, by omega, by go_num, by rw [hst.out]⟩
      case measure => simp [intOf]; omega
    · have hk8 : k = 8 := by omega
      subst hk8
      go_wp2_with fail
      go_ret
      exact ⟨rfl, rfl⟩

/-- words as cells -/
def nl (l : List Nat) : List Value := l.map fun x : Nat => .int .u64 (x : Int)
theorem nl_length (l : List Nat) : (nl l).length = l.length := by simp [nl]
theorem nl_get (l : List Nat) (i : Nat) (h : i < l.length) : (nl l)[i]? = some (.int .u64 ((l.getD i 0 : Nat) : Int)) := by simp [nl, h, List.getD, List.getElem?_eq_getElem h]
theorem nl_set (l : List Nat) (i x : Nat) : (nl l).set i (.int .u64 (x : Int)) = nl (l.set i x) := by simp [nl, List.map_set]
theorem nl_oneCell (l : List Nat) : ∀ u ∈ nl l, u.oneCell' = true := by
  intro u hu
  simp only [nl, List.mem_map] at hu
  obtain ⟨b, _, rfl⟩ := hu
  rfl
/-- a number of its own in a block -/
structure Num (w : World) (g : Nat) (l : List Nat) : Prop where
  h : w.heap[g]? = some (.cells (nl l).toArray 41 (0, 0))
  len : l.length = 5
theorem Num.cell {w : World} {g : Nat} {l : List Nat} (h : Num w g l) {i : Nat} (hi : i < 5) : w.cell? ⟨g, i, none⟩ = some (.int .u64 ((l.getD i 0 : Nat) : Int)) := by
  rw [cell_of_row w g i _ _ _ h.h, List.getElem?_toArray, nl_get l i (by rw [h.len]; exact hi)]
theorem Num.frz {w : World} {g : Nat} {l : List Nat} (h : Num w g l) (i : Nat) : w.frozen? ⟨g, i, none⟩ = false := frozen_of_row w g i _ _ h.h
theorem Num.set {w : World} {g : Nat} {l : List Nat} (h : Num w g l) (i x : Nat) : Num (w.setCell ⟨g, i, none⟩ (.int .u64 (x : Int))) g (l.set i x) :=
  ⟨by rw [heap_setCell_same w g i _ _ _ h.h, ← nl_set]; simp, by rw [List.length_set]; exact h.len⟩
theorem Num.fr {w w' : World} {g : Nat} {l : List Nat} (h : Num w g l) {M : Nat → Prop} (hf : Fr M w w') (hg : ¬ M g) : Num w' g l := ⟨(hf.block g (Array.getElem?_eq_some_iff.1 h.h).1 hg).trans h.h, h.len⟩
theorem Num.bel {w w' : World} {g : Nat} {l : List Nat} (h : Num w g l) (hb : Below w.heap.size w w') : Num w' g l := h.fr (Fr.of_below (M := NoB) hb) id
theorem Num.lt {w : World} {g : Nat} {l : List Nat} (h : Num w g l) : g < w.heap.size := (Array.getElem?_eq_some_iff.1 h.h).1
theorem Num.range {w : World} {g : Nat} {l : List Nat} (h : Num w g l) : w.rangeAt g 0 (nl l) := range_block h.h
theorem Try.infoNum : (Try.prog.info? 41).map (fun i => (i.zero, i.size, i.bytes)) = some (some (.agg (nl (List.replicate 5 0)).toArray), 5, 40) := by kernel_rfl
theorem Try.sizeNum : (Try.prog.info? 41).map (·.size) = some 5 := by kernel_rfl
theorem Try.infoRoom : (Try.prog.info? 56).map (fun i => (i.zero, i.size, i.bytes)) = some (some (.agg (bs (List.replicate 24 0)).toArray), 24, 24) := by kernel_rfl

theorem leN_drop (l : List UInt8) (o : Nat) : leN (l.drop o) = leN l / 256 ^ o := by
  rcases Nat.lt_or_ge o l.length with h | h
  · have e : leN l = leN (l.take o) + 256 ^ o * leN (l.drop o) := by
      have := leN_append (l.take o) (l.drop o)
      rw [List.take_append_drop, List.length_take, Nat.min_eq_left (by omega)] at this
      exact this
    have ht := leN_lt (l.take o)
    rw [List.length_take, Nat.min_eq_left (by omega)] at ht
    rw [e, Nat.add_mul_div_left _ _ (Nat.pow_pos (by decide)), Nat.div_eq_of_lt ht, Nat.zero_add]
  · rw [List.drop_of_length_le h]
    have := leN_lt l
    rw [Nat.div_eq_of_lt (Nat.lt_of_lt_of_le this (Nat.pow_le_pow_right (by decide) h))]; rfl
theorem leN_take (l : List UInt8) (k : Nat) : leN (l.take k) = leN l % 256 ^ k := by
  rcases Nat.lt_or_ge k l.length with h | h
  · have e : leN l = leN (l.take k) + 256 ^ k * leN (l.drop k) := by
      have := leN_append (l.take k) (l.drop k)
      rw [List.take_append_drop, List.length_take, Nat.min_eq_left (by omega)] at this
      exact this
    have ht := leN_lt (l.take k)
    rw [List.length_take, Nat.min_eq_left (by omega)] at ht
    rw [e, Nat.add_mul_mod_self_left, Nat.mod_eq_of_lt ht]
  · rw [List.take_of_length_le h]
    have := leN_lt l
    rw [Nat.mod_eq_of_lt (Nat.lt_of_lt_of_le this (Nat.pow_le_pow_right (by decide) h))]
theorem leN_zeros (l : List UInt8) (k : Nat) : leN (l ++ List.replicate k 0) = leN l := by
  rw [leN_append]
  have : leN (List.replicate k 0) = 0 := by
    induction k with
    | zero => rfl
    | succ k ih => rw [List.replicate_succ]; show (0 : UInt8).toNat + 256 * leN (List.replicate k 0) = 0; rw [ih]; rfl
  rw [this, Nat.mul_zero, Nat.add_zero]
/-- the limb that is read at a place -/
theorem limb_read (L : List UInt8) (k : Nat) (h : k < 5) : leN ((L.drop (26 * k / 8)).take 8) / 2 ^ (26 * k % 8) % 67108864 = leN L / 2 ^ (26 * k) % 67108864 := by
  rw [leN_take, leN_drop]
  generalize leN L = v
  have : k = 0 ∨ k = 1 ∨ k = 2 ∨ k = 3 ∨ k = 4 := by omega
  rcases this with rfl | rfl | rfl | rfl | rfl
  all_goals simp only [Nat.mul_zero, Nat.reduceMul, Nat.reduceDiv, Nat.reduceMod, Nat.reducePow, Nat.div_one]
  all_goals omega
end Go.Proofs.Ytkikdhjckjmolaa
