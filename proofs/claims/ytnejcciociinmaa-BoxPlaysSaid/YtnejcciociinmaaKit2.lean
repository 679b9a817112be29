import Derived.Test.YtnejcciociinmaaKit
import Derived.WalkSpells
namespace Go.Proofs.Ytnejcciociinmaa
open Go.RowKit

theorem wrap_u8 (n : Int) : IntKind.u8.wrap n = n % 256 := by
  simp [IntKind.wrap, IntKind.bits, IntKind.signed]

theorem mark_any (i : Int) (w : World) (h0 : 0 ≤ i) (h1 : i ≤ 1000000000000000) :
    Calls Try.prog 24 #[.int .i64 i] w fun e w' => e = .returned (.int .u8 ((201 + 7 * i) % 256)) ∧ w = w' := by
  go_enter Try.func24, Try.ntmps24
  go_wp2
  go_ret
  exact ⟨rfl, rfl⟩

theorem tmod_pos (v n : Int) (hn : 1 ≤ n) (h : 0 ≤ v.tmod n) : v.tmod n = v % n := by
  rcases Int.lt_or_le v 0 with hv | hv
  · have h1 : v.tmod n = -((-v) % n) := by
      have := Int.tmod_eq_emod_of_nonneg (a := -v) (b := n) (by omega)
      rw [Int.neg_tmod] at this; omega
    have h2 := Int.emod_nonneg (-v) (show n ≠ 0 by omega)
    have h3 : (-v) % n = 0 := by omega
    have h4 : v % n = 0 := Int.emod_eq_zero_of_dvd (by have := Int.dvd_of_emod_eq_zero h3; exact (Int.dvd_neg).1 this)
    rw [h1, h3, h4]; rfl
  · exact Int.tmod_eq_emod_of_nonneg hv
theorem tmod_neg (v n : Int) (hn : 1 ≤ n) (hn2 : n ≤ 9223372036854775807) (h : v.tmod n < 0) : wrap64 (v.tmod n + n) = v % n := by
  have hv : v < 0 := by
    rcases Int.lt_or_le v 0 with hv | hv
    · exact hv
    · rw [Int.tmod_eq_emod_of_nonneg hv] at h; have := Int.emod_nonneg v (show n ≠ 0 by omega); omega
  have h1 : v.tmod n = -((-v) % n) := by
    have := Int.tmod_eq_emod_of_nonneg (a := -v) (b := n) (by omega)
    rw [Int.neg_tmod] at this; omega
  have h2 := Int.emod_nonneg (-v) (show n ≠ 0 by omega)
  have h3 := Int.emod_lt_of_pos (-v) (show 0 < n by omega)
  have h5 := Int.emod_nonneg v (show n ≠ 0 by omega)
  have h6 := Int.emod_lt_of_pos v (show 0 < n by omega)
  have h7 : v % n = n - (-v) % n := by
    have e1 := Int.emod_add_mul_ediv v n
    have e2 := Int.emod_add_mul_ediv (-v) n
    have e3 : (v % n + (-v) % n) % n = 0 := by rw [← Int.add_emod, Int.add_right_neg]; rfl
    have e4 : n ∣ v % n + (-v) % n := Int.dvd_of_emod_eq_zero e3
    obtain ⟨q, hq⟩ := e4
    have hpos : 0 < (-v) % n := by omega
    have hq1 : 0 < q := by
      rcases Int.lt_or_le 0 q with hh | hh
      · exact hh
      · have : n * q ≤ 0 := Int.mul_nonpos_of_nonneg_of_nonpos (by omega) hh
        omega
    have hq2 : q < 2 := by
      rcases Int.lt_or_le q 2 with hh | hh
      · exact hh
      · have : n * 2 ≤ n * q := Int.mul_le_mul_of_nonneg_left hh (by omega)
        omega
    have : q = 1 := by omega
    subst this
    omega
  rw [h7, h1]
  unfold wrap64
  omega

theorem Pick_any (v n : Int) (w : World) (h3 : n ≤ 9223372036854775807) :
    Calls Try.prog 27 #[.int .i64 v, .int .i64 n] w fun e w' => e = .returned (.int .i64 (if n < 1 then 0 else v % n)) ∧ w = w' := by
  by_cases hn : n < 1
  · go_enter Try.func27, Try.ntmps27
    go_wp2
    go_ret
    exact ⟨rfl, rfl⟩
  · go_enter Try.func27, Try.ntmps27
    go_wp2
    all_goals go_ret
    · exact ⟨ret_int (by exact tmod_neg v n (by omega) h3 (by assumption)), rfl⟩
    · exact ⟨ret_int (by exact tmod_pos v n (by omega) (by assumption)), rfl⟩

/-- the five marks -/
def marks : List UInt8 := [201, 208, 215, 222, 229]
theorem bs_take_marks {l : List UInt8} {k : Nat} (h : k < 5) : bs (l ++ marks.take (k+1)) = bs (l ++ marks.take k) ++ [.int .u8 ((201 + 7 * (k : Int)) % 256)] := by
  match k, h with
  | 0, _ => simp [bs, bv, marks]
  | 1, _ => simp [bs, bv, marks]
  | 2, _ => simp [bs, bv, marks]
  | 3, _ => simp [bs, bv, marks]
  | 4, _ => simp [bs, bv, marks]

set_option maxHeartbeats 400000 in
theorem LentBytes_any (A : Option Addr) (n c : Nat) (l : List UInt8) (w : World) (hn : l.length = n) (h : Rd w A (bs l)) (hA : ∀ ad, A = some ad → bs l ≠ [] → ad.block < w.heap.size) (hl : l.length ≤ 140737488355000) :
    Calls Try.prog 7 #[.slice A n c] w fun e w' => ∃ g c', e = .returned (.slice (some ⟨g, 0, none⟩) (n + 5) c') ∧ w'.ownsRow w.heap.size 5 1 (.slice (some ⟨g, 0, none⟩) (n + 5) c') (n + 5) (bs (l ++ marks)) ∧ Below w.heap.size w w' := by
  subst hn
  have H := Lib.hid h; have HA := Lib.hid hA; clear h hA
  obtain ⟨i0, hi, hz0, hz1, hz2⟩ := info_parts Try.infoB
  go_enter Try.func7, Try.ntmps7
  go_wp2_with fail
  refine (CopyBytes_any A _ c l w rfl H.out HA.out (by omega)).mono ?_
  rintro e w1 ⟨A1, c1, rfl, hown1, hb1⟩
  go_wp2_with fail
  go_loopw [3, 4] (fun v i wr => ∃ k A' c', k ≤ 5 ∧ v = .slice A' (l.length + k) c' ∧ i = .int .i64 (k : Nat) ∧ wr.ownsRow w.heap.size 5 1 (.slice A' (l.length + k) c') (l.length + k) (bs (l ++ marks.take k)) ∧ Below w.heap.size w wr) (fun _ i _ => 5 - (intOf i).toNat)
  case atStart => exact ⟨0, A1, c1, by omega, rfl, rfl, by simpa using hown1, hb1⟩
  case round =>
    obtain ⟨k, A', c', hk, rfl, rfl, hown, hbw⟩ := hrel
    have hs := hbw.size
    by_cases hlt : k < 5
    · have hts := Lib.hid (bs_take_marks (l := l) hlt)
      go_wp2_with (first
        | (go_at_call 24; refine (mark_any _ _ (by omega) (by omega)).mono ?_; rintro e w' ⟨rfl, rfl⟩)
        | (at_builtin; refine wpList_append_own _ rfl _ _ 22 rfl w.heap.size 5 i0 (.int .u8 0) 1 1 Try.underlying22 hi hz0 hz1 hz2 rfl (by decide) _ _ _ rfl (hown.alloc _) ⟨wr.heap.size, 0, none⟩ 1 1 [.int .u8 ((201 + 7 * (k : Int)) % 256)] rfl rfl (new_one _ _ _) (one_oneCell _ _) (by simp only [maxLen]; omega) (by omega) (by simp; omega) ?_; intro v' w1 hown1 hgrow _; obtain ⟨A1, c1, rfl⟩ := own_slice hown1))
      go_roundw
      case rel => exact ⟨k + 1, A1, c1, by omega, by rw [Nat.add_assoc], by go_num, by rw [hts.out]; exact hown1, (hbw.alloc hs _).grown hgrow (by simp; omega) (fun g hg => (hown.lt g hg).1)⟩
      case measure => simp [intOf]; omega
    · have hkl : k = 5 := by omega
      subst hkl
      obtain ⟨g, cap, hv, _, _⟩ := hown.form (by omega)
      injection hv with hA1 _ hc1
      subst hA1 hc1
      go_wp2
      go_ret
      exact ⟨g, c', rfl, hown, hbw⟩

set_option maxHeartbeats 400000 in
/-- writes over a list of its own -/
theorem SpoilBytes_any (base : Nat) (A : Option Addr) (n c m : Nat) (xs : List Value) (w : World) (h : w.ownsRow base 5 1 (.slice A m c) m xs) (hm : n ≤ m) (hl : m ≤ 140737488355328) :
    Calls Try.prog 11 #[.slice A n c] w fun e w' => e = .returned (.tuple #[]) ∧ w.grownBy w' (Value.ownBlock (.slice A m c)) := by
  have H := Lib.hid h; clear h
  go_enter Try.func11, Try.ntmps11
  go_wp2
  go_loopw [2] (fun i wr => ∃ k : Nat, k ≤ n ∧ i = .int .i64 (k : Nat) ∧ (∃ ys, wr.ownsRow base 5 1 (.slice A m c) m ys) ∧ w.grownBy wr (Value.ownBlock (.slice A m c))) (fun i _ => n - (intOf i).toNat)
  case atStart => exact ⟨0, by omega, rfl, ⟨_, H.out⟩, World.grownBy.refl _ _⟩
  case round =>
    obtain ⟨k, hk, rfl, ⟨ys, hown⟩, hg⟩ := hrel
    by_cases hlt : k < n
    · obtain ⟨g, cap, hv, _, _⟩ := hown.form (by omega)
      injection hv with hA1 _ hc1
      subst hA1 hc1
      have hkI : (0 : Int) ≤ (k : Int) := by omega
      have hknI : (k : Int) < (n : Int) := by omega
      have hyl : k < ys.length := by have := hown.1; omega
      have hcell : wr.cell? ⟨g, k, none⟩ = some ys[k] := by rw [hown.cellAt k (by omega)]; exact List.getElem?_eq_getElem hyl
      have hfz := hown.frozenAt k
      go_wp2_with (go_at_call 24; refine (mark_any _ _ (by omega) (by omega)).mono ?_; rintro e w' ⟨rfl, rfl⟩)
      obtain ⟨s1, s2⟩ := hown.stored k (.int .u8 ((201 + 7 * ((k : Int) + 7)) % 256))
      go_roundw
      case rel => exact ⟨k + 1, by omega, by go_num, ⟨_, s1⟩, grown_trans_same hg s2⟩
      case measure => simp [intOf]; omega
    · go_wp2
      go_end0
      exact ⟨rfl, hg⟩

theorem Rd.prefix_ {w : World} {A : Option Addr} {xs ys : List Value} (h : Rd w A (xs ++ ys)) : Rd w A xs := by
  intro j x hx
  have : j < xs.length := (List.getElem?_eq_some_iff.1 hx).1
  exact h j x (by rw [List.getElem?_append_left this]; exact hx)
theorem Rd.drop_ {w : World} {b o : Nat} {xs ys : List Value} (h : Rd w (some ⟨b, o, none⟩) (xs ++ ys)) : Rd w (some ⟨b, o + xs.length, none⟩) ys := by
  intro j x hx
  obtain ⟨ad, e, hc⟩ := h (xs.length + j) x (by rw [List.getElem?_append_right (by omega)]; simpa using hx)
  injection e with e; subst e
  refine ⟨_, rfl, ?_⟩
  rw [addr_add_zero] at hc ⊢
  rw [Nat.add_assoc]; exact hc
theorem Rd.drewN {w : World} {A : Option Addr} {xs : List Value} (h : Rd w A xs) (n : Nat) : Rd (w.drewN n) A xs := h
theorem below_drewN {B : Nat} {a w : World} (h : Below B a w) (n : Nat) : Below B a (w.drewN n) := ⟨h.os, h.tape, h.output, h.size, h.block⟩

set_option maxHeartbeats 800000 in
/-- what was lent is as it was -/
theorem KeptBytes_any (g n m cc : Nat) (A : Option Addr) (c : Nat) (l : List UInt8) (w : World) (hn : l.length = n) (hm : m = n + 5) (ha : Rd w (some ⟨g, 0, none⟩) (bs (l ++ marks))) (hg : g < w.heap.size) (h : Rd w A (bs l)) (hA : ∀ ad, A = some ad → bs l ≠ [] → ad.block < w.heap.size) (hl : l.length ≤ 140737488355000) (hcc : l.length + 5 ≤ cc) :
    Calls Try.prog 10 #[.slice (some ⟨g, 0, none⟩) m cc, .slice A n c] w fun e w' => e = .returned (.bool true) ∧ Below w.heap.size w w' := by
  subst hn hm
  have Ha := Lib.hid ha; have H := Lib.hid h; have HA := Lib.hid hA; clear ha h hA
  obtain ⟨i0, hi, hz0, hz1, hz2⟩ := info_parts Try.infoB
  have hne : (((l.length : Int) + 5) != ((l.length : Int) + 5)) = false := by simp
  go_enter Try.func10, Try.ntmps10
  go_wp2_with fail
  refine (SameBytes_any _ _ _ _ _ _ l l w rfl rfl (Rd.prefix_ (by rw [← bs_append]; exact Ha.out)) H.out (by omega) (by omega)).mono ?_
  rintro e w1 ⟨he, k1, rfl⟩
  rw [show (l == l) = true by simp] at he
  subst he
  go_wp2_with fail
  have hs0 : (w.drewN k1).heap.size = w.heap.size := rfl
  go_loopw [5, 6] (fun v i wr => ∃ k A' c', k ≤ 5 ∧ v = .slice A' k c' ∧ i = .int .i64 (k : Nat) ∧ wr.ownsRow w.heap.size 5 1 (.slice A' k c') k (bs (marks.take k)) ∧ Below w.heap.size w wr) (fun _ i _ => 5 - (intOf i).toNat)
  case atStart => exact ⟨0, none, 0, by omega, rfl, rfl, World.ownsRow_nil _ _ _ _, below_drewN (Below.refl _ _) _⟩
  case round =>
    obtain ⟨k, A', c', hk, rfl, rfl, hown, hbw⟩ := hrel
    have hs := hbw.size
    by_cases hlt : k < 5
    · have hts := Lib.hid (bs_take_marks (l := []) hlt)
      go_wp2_with (first
        | (go_at_call 24; refine (mark_any _ _ (by omega) (by omega)).mono ?_; rintro e w' ⟨rfl, rfl⟩)
        | (at_builtin; refine wpList_append_own _ rfl _ _ 22 rfl w.heap.size 5 i0 (.int .u8 0) 1 1 Try.underlying22 hi hz0 hz1 hz2 rfl (by decide) _ _ _ rfl (hown.alloc _) ⟨wr.heap.size, 0, none⟩ 1 1 [.int .u8 ((201 + 7 * (k : Int)) % 256)] rfl rfl (new_one _ _ _) (one_oneCell _ _) (by simp only [maxLen]; omega) (by omega) (by simp; omega) ?_; intro v' w1 hown1 hgrow _; obtain ⟨A1, c1, rfl⟩ := own_slice hown1))
      go_roundw
      case rel => exact ⟨k + 1, A1, c1, by omega, rfl, by go_num, by have := hts.out; simp only [List.nil_append] at this; rw [this]; exact hown1, (hbw.alloc hs _).grown hgrow (by simp; omega) (fun g hg => (hown.lt g hg).1)⟩
      case measure => simp [intOf]; omega
    · have hkl : k = 5 := by omega
      subst hkl
      have hd := Lib.hid (Rd.drop_ (w := w) (b := g) (o := 0) (xs := bs l) (ys := bs marks) (by rw [← bs_append]; exact Ha.out))
      go_wp2_with fail
      refine (SameBytes_any _ _ 5 5 _ _ marks marks wr rfl rfl (Rd.below (B := w.heap.size) (w := w) (by have := hd.out; rw [bs_length, Nat.zero_add] at this; exact this) (by rintro ad ⟨⟩ _; exact hg) hbw) (Rd.of_own hown) (by decide) (by decide)).mono ?_
      rintro e w2 ⟨he, k2, rfl⟩
      rw [show (marks == marks) = true by simp] at he
      subst he
      go_wp2
      go_ret
      exact ⟨rfl, below_drewN hbw _⟩

theorem Clone_any (A : Option Addr) (n c : Nat) (l : List UInt8) (w : World) (hn : l.length = n) (h : Rd w A (bs l)) (hA : ∀ ad, A = some ad → bs l ≠ [] → ad.block < w.heap.size) (hl : l.length ≤ 140737488355328) (hnil : A = none → n = 0 ∧ c = 0) :
    Calls Try.prog 25 #[.slice A n c] w fun e w' => ∃ A' c', e = .returned (.slice A' n c') ∧ w'.ownsRow w.heap.size 5 1 (.slice A' n c') n (bs l) ∧ Below w.heap.size w w' := by
  subst hn
  have H := Lib.hid h; have HA := Lib.hid hA; clear h hA
  obtain ⟨i0, hi, hz0, hz1, hz2⟩ := info_parts Try.infoB
  rcases A with _ | ad
  · obtain ⟨h0, rfl⟩ := hnil rfl
    have hl0 : l = [] := List.eq_nil_of_length_eq_zero h0
    subst hl0
    have ke := fun (w : World) => Lib.run_eql_slice_nil (P := Try.prog) w 22 5 none 0 0 0 0 Try.underlying22
    go_enter Try.func25, Try.ntmps25
    go_wp2
    go_ret
    exact ⟨none, 0, rfl, World.ownsRow_nil _ _ _ _, Below.refl _ _⟩
  · have ke := fun (w : World) => Lib.run_eql_slice_nil (P := Try.prog) w 22 5 (some ad) l.length c 0 0 Try.underlying22
    go_enter Try.func25, Try.ntmps25
    have hown0 := World.ownsRow_made (base := w.heap.size) (e := 5) (size := 1) w #[] 0 (Nat.le_refl _) (by decide) (by simp)
    go_wp2_with (at_builtin; refine append_bytes rfl _ _ rfl w.heap.size _ 0 0 [] rfl hown0 (some ad) l.length c l rfl rfl (H.out.alloc HA.out _) (by omega) (by simp) ?_; intro A1 c1 w1 hown1 hgrow _)
    simp only [Nat.zero_add, List.nil_append] at hown1
    go_ret
    refine ⟨A1, c1, by simp, hown1, ((Below.refl _ _).alloc (Nat.le_refl _) _).grown hgrow (by simp) (fun k hk => ?_)⟩
    simp [Value.ownBlock] at hk; omega

end Go.Proofs.Ytnejcciociinmaa
