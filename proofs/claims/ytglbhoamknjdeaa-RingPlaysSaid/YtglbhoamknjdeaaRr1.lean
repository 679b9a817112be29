/- The reference's ring: rows in memory; at. -/
import Derived.Test.YtglbhoamknjdeaaRg12
namespace Go.Proofs.Ytglbhoamknjdeaa
open Go.RowKit

def rc (p : Wk × Hd) : List Value := [.string p.1.1, .string p.1.2, .int .i64 p.2.slot, .int .i64 p.2.uses, .bool p.2.shred]
def rcs (L : List (Wk × Hd)) : List Value := L.flatMap rc
theorem rcs_len : ∀ L : List (Wk × Hd), (rcs L).length = L.length * 5
  | [] => rfl
  | p :: L => by
    have := rcs_len L
    simp only [rcs, List.flatMap_cons, List.length_append, List.length_cons] at this ⊢
    rw [this]; simp [rc]; omega
theorem rcs_get : ∀ (L : List (Wk × Hd)) (i : Nat) (h : i < L.length) (k : Nat), k < 5 → (rcs L)[i * 5 + k]? = (rc L[i])[k]?
  | p :: L, 0, _, k, hk => by
    simp only [rcs, List.flatMap_cons, Nat.zero_mul, Nat.zero_add, List.getElem_cons_zero]
    rw [List.getElem?_append_left (by simp [rc]; omega)]
  | p :: L, i + 1, h, k, hk => by
    have ih := rcs_get L i (by simpa using h) k hk
    simp only [rcs, List.flatMap_cons, List.getElem_cons_succ] at ih ⊢
    rw [List.getElem?_append_right (by simp [rc]; omega), ← ih]
    congr 1
    simp [rc]; omega
theorem rcs_set : ∀ (L : List (Wk × Hd)) (i : Nat) (h : i < L.length) (k : Nat) (_ : k < 5) (v : Value) (p : Wk × Hd), (rc L[i]).set k v = rc p → (rcs L).set (i * 5 + k) v = rcs (L.set i p)
  | q :: L, 0, _, k, hk, v, p, e => by
    simp only [rcs, List.flatMap_cons, Nat.zero_mul, Nat.zero_add, List.set_cons_zero]
    rw [List.set_append_left _ _ (by simp [rc]; omega)]
    simp only [List.getElem_cons_zero] at e
    rw [e]
  | q :: L, i + 1, h, k, hk, v, p, e => by
    have ih := rcs_set L i (by simpa using h) k hk v p (by simpa using e)
    simp only [rcs, List.flatMap_cons, List.set_cons_succ] at ih ⊢
    rw [List.set_append_right _ _ (by simp [rc]; omega), ← ih]
    congr 2
    simp [rc]; omega
/-- the reference's ring: its block, its rows -/
structure RefAt (w : World) (lo g : Nat) (A : Option Addr) (n c : Nat) (L : List (Wk × Hd)) : Prop where
  box : w.heap[g]? = some (.cells #[.slice A n c] 45 (0, 0))
  own : w.ownsRow lo 65 5 (.slice A n c) n (rcs L)
  ne : ∀ k, (Value.slice A n c).ownBlock = some k → k ≠ g
  lo : lo ≤ g
theorem RefAt.len {w : World} {lo g : Nat} {A : Option Addr} {n c : Nat} {L : List (Wk × Hd)} (h : RefAt w lo g A n c L) : L.length = n := by
  have := h.own.1; rw [rcs_len] at this; omega
theorem RefAt.cell {w : World} {lo g : Nat} {A : Option Addr} {n c : Nat} {L : List (Wk × Hd)} (h : RefAt w lo g A n c L) : w.cell? ⟨g, 0, none⟩ = some (.slice A n c) := by
  rw [cell_of_row w g 0 _ _ _ h.box]; rfl
theorem RefAt.row {w : World} {lo g : Nat} {A : Option Addr} {n c : Nat} {L : List (Wk × Hd)} (h : RefAt w lo g A n c L) {i : Nat} (hi : i < L.length) :
    ∃ gb, A = some ⟨gb, 0, none⟩ ∧ (Value.slice A n c).ownBlock = some gb ∧ ∀ k v, k < 5 → (rc L[i])[k]? = some v → w.cell? ⟨gb, i * 5 + k, none⟩ = some v := by
  rcases h.own.2 with ⟨hv, hn⟩ | ⟨gb, cap, cur, hv, _⟩
  · have := h.len; omega
  · injection hv with hA _ hc
    subst hA; subst hc
    refine ⟨gb, rfl, rfl, fun k v hk hv => ?_⟩
    have h1 := h.own.cells (g := gb) rfl (i * 5 + k) v (by rw [rcs_get L i hi k hk]; exact hv)
    rw [addr_add_zero, Nat.zero_add] at h1
    exact h1
theorem RefAt.fr {w w' : World} {lo g : Nat} {A : Option Addr} {n c : Nat} {L : List (Wk × Hd)} {M : Nat → Prop} (h : RefAt w lo g A n c L) (hf : Fr M w w') (h1 : ¬ M g) (h2 : ∀ k, (Value.slice A n c).ownBlock = some k → ¬ M k) : RefAt w' lo g A n c L := by
  refine ⟨(hf.block _ (Array.getElem?_eq_some_iff.1 h.box).1 h1).trans h.box, ⟨h.own.1, ?_⟩, h.ne, h.lo⟩
  rcases h.own.2 with hn | ⟨gb, cap, cur, hv, hb, hh, r⟩
  · exact .inl hn
  · refine .inr ⟨gb, cap, cur, hv, hb, ?_, r⟩
    rw [hf.block gb (Array.getElem?_eq_some_iff.1 hh).1 (h2 gb (by rw [hv]; rfl))]; exact hh
theorem RefAt.bel {w w' : World} {lo g : Nat} {A : Option Addr} {n c : Nat} {L : List (Wk × Hd)} (h : RefAt w lo g A n c L) (hb : Below w.heap.size w w') : RefAt w' lo g A n c L := h.fr (Fr.of_below (M := NoB) hb) id (fun _ _ => id)
/-- which row -/
structure IdxOk (L : List (Wk × Hd)) (k : Wk) (r : Int) : Prop where
  h : (r = -1 ∧ look L k = none) ∨ (∃ (i : Nat) (hi : i < L.length), r = (i : Int) ∧ L[i].1 = k ∧ look L k = some L[i].2)
theorem look_of_first {L : List (Wk × Hd)} {k : Wk} {i : Nat} (hi : i < L.length) (hk : L[i].1 = k) (hf : ∀ j (hj : j < i), L[j].1 ≠ k) : look L k = some L[i].2 := by
  induction L generalizing i with
  | nil => cases hi
  | cons p L ih =>
    unfold look
    rw [List.find?_cons]
    cases i with
    | zero => have : p.1 = k := hk
              simp [this]
    | succ i =>
      have h0 := hf 0 (Nat.succ_pos _)
      have h0' : ¬ p.1 = k := h0
      rw [decide_eq_false h0']
      have := ih (i := i) (by simpa using hi) (by simpa using hk) (fun j hj => by have := hf (j + 1) (by omega); simpa using this)
      unfold look at this
      simpa using this
theorem look_none_all {L : List (Wk × Hd)} {k : Wk} (hf : ∀ j (hj : j < L.length), L[j].1 ≠ k) : look L k = none := by
  rw [look_none]
  intro p hp
  obtain ⟨j, hj, rfl⟩ := List.getElem_of_mem hp
  exact hf j hj
theorem str_eqB {a b : ByteArray} (h : a = b) : (a.toList == b.toList) = true := by rw [h]; simp
theorem str_neB {a b : ByteArray} (h : ¬ a = b) : (a.toList == b.toList) = false := by
  have : ¬ a.toList = b.toList := fun e => h (by rw [ByteArray.toList_eq, ByteArray.toList_eq] at e; exact WideShapes.bytes_inj e)
  simpa using this
set_option maxRecDepth 100000 in
set_option maxHeartbeats 4000000 in
theorem at_any {w : World} {lo g : Nat} {A : Option Addr} {n c : Nat} {L : List (Wk × Hd)} (h : RefAt w lo g A n c L) (hn : n ≤ 100000) (t s : ByteArray) :
    Calls Try.prog 30 #[.pointer (some ⟨g, 0, none⟩), .string t, .string s] w fun e w' => (∃ r, e = .returned (.int .i64 r) ∧ IdxOk L (t, s) r) ∧ w = w' := by
  have H := Lib.hid h
  have hcell := h.cell
  have HL := Lib.hid h.len
  clear h
  go_enter Try.func30, Try.ntmps30
  go_wp2_with fail
  go_loopw [7] (fun v wr => ∃ k : Nat, k ≤ n ∧ v = .int .i64 (k : Nat) ∧ Hid (∀ j (_ : j < k) (hj : j < L.length), L[j].1 ≠ (t, s)) ∧ w = wr) (fun v _ => n - (intOf v).toNat)
  case atStart => exact ⟨0, Nat.zero_le _, rfl, fun j hj => absurd hj (Nat.not_lt_zero _), rfl⟩
  case round =>
    obtain ⟨k, hk, rfl, hf, rfl⟩ := hrel
    by_cases hlt : k < n
    · have hlI : (k : Int) < n := by omega
      have hkI : (0 : Int) ≤ (k : Int) := by omega
      have hkL : k < L.length := by have := HL.out; omega
      obtain ⟨gb, rfl, _, hc⟩ := H.out.row hkL
      obtain ⟨⟨⟨a, b⟩, hd⟩, hp⟩ : ∃ p, L[k] = p := ⟨_, rfl⟩
      rw [hp] at hc
      have c0 : w.cell? ⟨gb, k * 5, none⟩ = some (.string a) := hc 0 (.string a) (by decide) rfl
      have c1 := hc 1 (.string b) (by decide) rfl
      have HP := Lib.hid hp
      clear hc hp
      by_cases ha : a = t
      · have hab := str_eqB ha
        by_cases hb : b = s
        · have hbb := str_eqB hb
          have R : Hid (IdxOk L (t, s) (k : Int)) := ⟨.inr ⟨k, hkL, rfl, by rw [HP.out, ha, hb], look_of_first hkL (by rw [HP.out, ha, hb]) (fun j hj => hf.out j hj (by omega))⟩⟩
          clear ha hb hf
          go_wp2_with fail
          go_ret
          exact ⟨⟨_, rfl, R.out⟩, rfl⟩
        · have hbb := str_neB hb
          have R : Hid (∀ j (_ : j < k + 1) (hj : j < L.length), L[j].1 ≠ (t, s)) := by
            intro j h1 h2 e
            by_cases hjk : j = k
            · subst hjk; rw [HP.out] at e; injection e with _ e; exact hb e
            · exact hf.out j (by omega) h2 e
          clear ha hb hf
          go_wp2_with fail
          go_roundw
          case rel => exact ⟨k + 1, by omega, by go_num, R, by first | rfl | trivial⟩
          case measure => simp [intOf]; omega
      · have hab := str_neB ha
        have R : Hid (∀ j (_ : j < k + 1) (hj : j < L.length), L[j].1 ≠ (t, s)) := by
          intro j h1 h2 e
          by_cases hjk : j = k
          · subst hjk; rw [HP.out] at e; injection e with e _; exact ha e
          · exact hf.out j (by omega) h2 e
        clear ha hf
        go_wp2_with fail
        go_roundw
        case rel => exact ⟨k + 1, by omega, by go_num, R, by first | rfl | trivial⟩
        case measure => simp [intOf]; omega
    · have R : Hid (IdxOk L (t, s) (-1)) := ⟨.inl ⟨rfl, look_none_all (fun j hj => hf.out j (by have := HL.out; omega) hj)⟩⟩
      clear hf
      go_wp2_with fail
      go_ret
      exact ⟨⟨_, rfl, R.out⟩, rfl⟩
end Go.Proofs.Ytglbhoamknjdeaa
