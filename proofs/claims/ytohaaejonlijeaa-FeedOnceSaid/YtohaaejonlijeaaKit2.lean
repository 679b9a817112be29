import Derived.Test.YtohaaejonlijeaaKit
import Derived.WalkSpells
namespace Go.Proofs.Ytohaaejonlijeaa
open Go.RowKit

theorem wrap_u8 (n : Int) : IntKind.u8.wrap n = n % 256 := by
  simp [IntKind.wrap, IntKind.bits, IntKind.signed]

theorem tmod_pos (v n : Int) (hn : 1 ≤ n) (h : 0 ≤ v.tmod n) : v.tmod n = v % n := by
  rcases Int.lt_or_le v 0 with hv | hv
  · have h1 : v.tmod n = -((-v) % n) := by
      have := Int.tmod_eq_emod_of_nonneg (a := -v) (b := n) (by omega)
      rw [Int.neg_tmod] at this; omega
    have h2 := Int.emod_nonneg (-v) (show n ≠ 0 by omega)
    have h3 : (-v) % n = 0 := by omega
    have h4 : v % n = 0 := Int.emod_eq_zero_of_dvd (by have := Int.dvd_of_emod_eq_zero h3; exact (Int.dvd_neg).1 this)
    rw [h1, h3, h4]; rfl
  · exact Int.tmod_eq_emod_of_nonneg hv
theorem tmod_neg (v n : Int) (hn : 1 ≤ n) (hn2 : n ≤ 9223372036854775807) (h : v.tmod n < 0) : wrap64 (v.tmod n + n) = v % n := by
  have hv : v < 0 := by
    rcases Int.lt_or_le v 0 with hv | hv
    · exact hv
    · rw [Int.tmod_eq_emod_of_nonneg hv] at h; have := Int.emod_nonneg v (show n ≠ 0 by omega); omega
  have h1 : v.tmod n = -((-v) % n) := by
    have := Int.tmod_eq_emod_of_nonneg (a := -v) (b := n) (by omega)
    rw [Int.neg_tmod] at this; omega
  have h2 := Int.emod_nonneg (-v) (show n ≠ 0 by omega)
  have h3 := Int.emod_lt_of_pos (-v) (show 0 < n by omega)
  have h5 := Int.emod_nonneg v (show n ≠ 0 by omega)
  have h6 := Int.emod_lt_of_pos v (show 0 < n by omega)
  have h7 : v % n = n - (-v) % n := by
    have e1 := Int.emod_add_mul_ediv v n
    have e2 := Int.emod_add_mul_ediv (-v) n
    have e3 : (v % n + (-v) % n) % n = 0 := by rw [← Int.add_emod, Int.add_right_neg]; rfl
    have e4 : n ∣ v % n + (-v) % n := Int.dvd_of_emod_eq_zero e3
    obtain ⟨q, hq⟩ := e4
    have hpos : 0 < (-v) % n := by omega
    have hq1 : 0 < q := by
      rcases Int.lt_or_le 0 q with hh | hh
      · exact hh
      · have : n * q ≤ 0 := Int.mul_nonpos_of_nonneg_of_nonpos (by omega) hh
        omega
    have hq2 : q < 2 := by
      rcases Int.lt_or_le q 2 with hh | hh
      · exact hh
      · have : n * 2 ≤ n * q := Int.mul_le_mul_of_nonneg_left hh (by omega)
        omega
    have : q = 1 := by omega
    subst this
    omega
  rw [h7, h1]
  unfold wrap64
  omega

theorem Pick_any (v n : Int) (w : World) (h3 : n ≤ 9223372036854775807) :
    Calls Try.prog 8 #[.int .i64 v, .int .i64 n] w fun e w' => e = .returned (.int .i64 (if n < 1 then 0 else v % n)) ∧ w = w' := by
  by_cases hn : n < 1
  · go_enter Try.func8, Try.ntmps8
    go_wp2
    go_ret
    exact ⟨rfl, rfl⟩
  · go_enter Try.func8, Try.ntmps8
    go_wp2
    all_goals go_ret
    · exact ⟨ret_int (by exact tmod_neg v n (by omega) h3 (by assumption)), rfl⟩
    · exact ⟨ret_int (by exact tmod_pos v n (by omega) (by assumption)), rfl⟩

/-- the five marks -/
def marks : List UInt8 := [201, 208, 215, 222, 229]
theorem bs_take_marks {l : List UInt8} {k : Nat} (h : k < 5) : bs (l ++ marks.take (k+1)) = bs (l ++ marks.take k) ++ [.int .u8 ((201 + 7 * (k : Int)) % 256)] := by
  match k, h with
  | 0, _ => simp [bs, bv, marks]
  | 1, _ => simp [bs, bv, marks]
  | 2, _ => simp [bs, bv, marks]
  | 3, _ => simp [bs, bv, marks]
  | 4, _ => simp [bs, bv, marks]

theorem Rd.prefix_ {w : World} {A : Option Addr} {xs ys : List Value} (h : Rd w A (xs ++ ys)) : Rd w A xs := by
  intro j x hx
  have : j < xs.length := (List.getElem?_eq_some_iff.1 hx).1
  exact h j x (by rw [List.getElem?_append_left this]; exact hx)
theorem Rd.drop_ {w : World} {b o : Nat} {xs ys : List Value} (h : Rd w (some ⟨b, o, none⟩) (xs ++ ys)) : Rd w (some ⟨b, o + xs.length, none⟩) ys := by
  intro j x hx
  obtain ⟨ad, e, hc⟩ := h (xs.length + j) x (by rw [List.getElem?_append_right (by omega)]; simpa using hx)
  injection e with e; subst e
  refine ⟨_, rfl, ?_⟩
  rw [addr_add_zero] at hc ⊢
  rw [Nat.add_assoc]; exact hc
theorem Rd.drewN {w : World} {A : Option Addr} {xs : List Value} (h : Rd w A xs) (n : Nat) : Rd (w.drewN n) A xs := h
theorem below_drewN {B : Nat} {a w : World} (h : Below B a w) (n : Nat) : Below B a (w.drewN n) := ⟨h.os, h.tape, h.output, h.size, h.block⟩

end Go.Proofs.Ytohaaejonlijeaa
