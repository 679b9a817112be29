/- The kit's functions over lists of whole numbers. -/
import Derived.Test.YtohaaejonlijeaaOpnI
import Derived.Test.YtohaaejonlijeaaReg
namespace Go.Proofs.Ytohaaejonlijeaa
open Go.RowKit

theorem take_succ_eqI {l l' : List Int} {k : Nat} (h : k < l.length) (h' : k < l'.length) (ht : l.take k = l'.take k) (he : l[k] = l'[k]) : l.take (k+1) = l'.take (k+1) := by
  rw [List.take_succ_eq_append_getElem h, List.take_succ_eq_append_getElem h', ht, he]
set_option maxHeartbeats 400000 in
theorem SameInts_any {F G : Nat → Prop} {A A' : Option Addr} {n n' c c' : Nat} {l l' : List Int} {w : World} (h : IntSl w F A n c l) (h' : IntSl w G A' n' c' l') (hl : n ≤ 9223372036854775807) (hl' : n' ≤ 9223372036854775807) :
    Calls Try.prog 23 #[.slice A n c, .slice A' n' c'] w fun e w' => e = .returned (.bool (l == l')) ∧ ∃ k, w' = w.drewN k := by
  obtain rfl := h.len; obtain rfl := h'.len
  have H := Lib.hid h; have H' := Lib.hid h'; clear h h'
  by_cases hne : l.length = l'.length
  · have Hne := Lib.hid hne
    go_enter Try.func23, Try.ntmps23
    have hne1 : ((l.length : Int) != (l'.length : Int)) = false := by simp [hne]
    clear hne
    go_wp2
    have Hne1 := Lib.hid hne1; clear hne1
    go_loopw [5] (fun i w' => ∃ k m : Nat, k ≤ l.length ∧ i = .int .i64 k ∧ l.take k = l'.take k ∧ w' = w.drewN m) (fun i _ => l.length - (intOf i).toNat)
    case atStart => exact ⟨0, 0, Nat.zero_le _, rfl, rfl, rfl⟩
    case round =>
      obtain ⟨k, m, hk, rfl, ht, rfl⟩ := hrel
      have Ht := Lib.hid ht; clear ht
      by_cases hlt : k < l.length
      · have hlt' : k < l'.length := by have := Hne.out; omega
        obtain ⟨ad, rfl, _, hc⟩ := H.out.at_ k hlt
        obtain ⟨ad', rfl, _, hc'⟩ := H'.out.at_ k hlt'
        have hlI : (k : Int) < l.length := by omega
        have hlI' : (k : Int) < l'.length := by omega
        have hkI : (0 : Int) ≤ (k : Int) := by omega
        by_cases he : l[k] = l'[k]
        · have Hts := Lib.hid (take_succ_eqI hlt hlt' Ht.out he)
          have heq : (l[k] == l'[k]) = true := by simpa using he
          clear he
          go_wp2
          go_quiet (fail)
          have Heq := Lib.hid heq; clear heq
          go_wp2
          go_roundw
          case rel => exact ⟨k + 1, m + nq, by omega, by go_num, Hts.out, rfl⟩
          case measure => simp [intOf]; omega
        · have heq : (l[k] == l'[k]) = false := by simpa using he
          have Hnot : Hid ((l == l') = false) := by
            show (l == l') = false
            simp only [beq_eq_false_iff_ne, ne_eq]; rintro rfl; exact he rfl
          clear he
          go_wp2
          go_quiet (fail)
          go_wp2
          go_ret
          exact ⟨ret_bool Hnot.out.symm, m + nq, drewN_add _ _ _⟩
      · have hkl : k = l.length := by omega
        have Hyes : Hid ((l == l') = true) := by
          show (l == l') = true
          have h1 := Ht.out
          have := Hne.out
          rw [List.take_of_length_le (by omega), List.take_of_length_le (by omega)] at h1
          simp [h1]
        clear hkl
        go_wp2
        go_ret
        exact ⟨ret_bool Hyes.out.symm, m, rfl⟩
  · have Hnot : Hid ((l == l') = false) := by
      show (l == l') = false
      simp only [beq_eq_false_iff_ne, ne_eq]; rintro rfl; exact hne rfl
    have hne1 : ((l.length : Int) != (l'.length : Int)) = true := by simp; omega
    go_enter Try.func23, Try.ntmps23
    go_wp2
    go_ret
    exact ⟨ret_bool Hnot.out.symm, 0, rfl⟩
theorem SameInts_at {F G : Nat → Prop} {A A' : Option Addr} {n n' c c' : Nat} {l l' : List Int} {w : World} (h : IntSl w F A n c l) (h' : IntSl w G A' n' c' l') (hl : n ≤ 9223372036854775807) (hl' : n' ≤ 9223372036854775807) (r : Bool) (hr : (l == l') = r) :
    Calls Try.prog 23 #[.slice A n c, .slice A' n' c'] w fun e w' => e = .returned (.bool r) ∧ ∃ k, w' = w.drewN k := by
  rw [← hr]; exact SameInts_any h h' hl hl'
theorem markI_any (i : Int) (w : World) (h0 : 0 ≤ i) (h1 : i ≤ 1000000000000000) :
    Calls Try.prog 30 #[.int .i64 i] w fun e w' => e = .returned (.int .i64 (7001 + 13 * i)) ∧ w = w' := by
  go_enter Try.func30, Try.ntmps30
  go_wp2
  go_ret
  exact ⟨rfl, rfl⟩
set_option maxHeartbeats 400000 in
/-- writes over a list of its own -/
theorem SpoilInts_any (base : Nat) (A : Option Addr) (n c m : Nat) (xs : List Value) (w : World) (h : w.ownsRow base 3 1 (.slice A m c) m xs) (hm : n ≤ m) (hl : m ≤ 140737488355328) :
    Calls Try.prog 25 #[.slice A n c] w fun e w' => e = .returned (.tuple #[]) ∧ w.grownBy w' (Value.ownBlock (.slice A m c)) := by
  have H := Lib.hid h; clear h
  go_enter Try.func25, Try.ntmps25
  go_wp2
  go_loopw [2] (fun i wr => ∃ k : Nat, k ≤ n ∧ i = .int .i64 (k : Nat) ∧ (∃ ys, wr.ownsRow base 3 1 (.slice A m c) m ys) ∧ w.grownBy wr (Value.ownBlock (.slice A m c))) (fun i _ => n - (intOf i).toNat)
  case atStart => exact ⟨0, by omega, rfl, ⟨_, H.out⟩, World.grownBy.refl _ _⟩
  case round =>
    obtain ⟨k, hk, rfl, ⟨ys, hown⟩, hg⟩ := hrel
    by_cases hlt : k < n
    · obtain ⟨g, cap, hv, _, _⟩ := hown.form (by omega)
      injection hv with hA1 _ hc1
      subst hA1 hc1
      have hkI : (0 : Int) ≤ (k : Int) := by omega
      have hknI : (k : Int) < (n : Int) := by omega
      have hyl : k < ys.length := by have := hown.1; omega
      have hcell : wr.cell? ⟨g, k, none⟩ = some ys[k] := by rw [hown.cellAt k (by omega)]; exact List.getElem?_eq_getElem hyl
      have hfz := hown.frozenAt k
      go_wp2_with (go_at_call 30; refine (markI_any _ _ (by omega) (by omega)).mono ?_; rintro e w' ⟨rfl, rfl⟩)
      obtain ⟨s1, s2⟩ := hown.stored k (.int .i64 (7001 + 13 * ((k : Int) + 7)))
      go_roundw
      case rel => exact ⟨k + 1, by omega, by go_num, ⟨_, s1⟩, grown_trans_same hg s2⟩
      case measure => simp [intOf]; omega
    · go_wp2
      go_end0
      exact ⟨rfl, hg⟩
theorem addr0 (g j : Nat) : (⟨g, 0, none⟩ : Addr).add j = ⟨g, j, none⟩ := by
  by_cases h : j = 0
  · subst h; simp [Addr.add]
  · simp [Addr.add, h]
/-- what is owned, as a slice of its own block -/
theorem IntSl.of_own {w : World} {base n c : Nat} {A : Option Addr} {l : List Int} (h : w.ownsRow base 3 1 (.slice A n c) n (l.map (Value.int .i64))) (hw : ∀ x ∈ l, (Lit.int .i64 x).wf = true) :
    IntSl w (fun k => base ≤ k ∧ k < w.heap.size ∧ (Value.slice A n c).ownBlock = some k) A n c l := by
  have hlen : l.length = n := by have := h.1; rw [List.length_map] at this; omega
  rcases h.2 with ⟨h1, _, _⟩ | ⟨g, cap, cur, hv, hb, hh, hn, _⟩
  · injection h1 with h1 h4 h5
    subst h1; subst h5; clear h4
    have : l = [] := List.eq_nil_of_length_eq_zero hlen
    subst this
    exact ⟨rfl, Nat.le_refl _, hw, fun j hj => by cases hj⟩
  · injection hv with h1 _ h5
    subst h1 h5
    refine ⟨hlen, hn, hw, fun j hj => ⟨_, rfl, ⟨hb, (Array.getElem?_eq_some_iff.1 hh).1, rfl⟩, ?_⟩⟩
    have hc := h.cellAt j (by omega)
    rw [List.getElem?_eq_getElem (by rw [List.length_map]; exact hj), List.getElem_map] at hc
    rw [addr0]; simpa using hc
theorem IntSl.belF {w w' : World} {F : Nat → Prop} {A : Option Addr} {n c : Nat} {l : List Int} (h : IntSl w F A n c l) (hb : Below w.heap.size w w') (hF : ∀ k, F k → k < w.heap.size) : IntSl w' F A n c l :=
  h.fr (Fr.of_below (M := NoB) hb) fun k hk => ⟨hF k hk, id⟩
theorem int_block2 (w : World) {l : List Int} (hl : ∀ x ∈ l, (Lit.int .i64 x).wf = true) : IntSl (w.alloc (.cells (l.map (Value.int .i64)).toArray 3)) (fun k => k = w.heap.size) (some ⟨w.heap.size, 0, none⟩) l.length l.length l :=
  ⟨rfl, Nat.le_refl _, hl, fun j hj => ⟨_, rfl, rfl, by
    have hh := heap_alloc_new w (.cells (l.map (Value.int .i64)).toArray 3)
    rw [addr0, cell_of_row _ w.heap.size _ _ _ _ hh]
    simp [hj]⟩⟩
end Go.Proofs.Ytohaaejonlijeaa
