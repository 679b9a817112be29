/- Things that are to be sealed, in memory; great. -/
import Derived.Test.YtnejcciociinmaaBox1
import Derived.Deep.MidRow
namespace Go.Proofs.Ytnejcciociinmaa
open Go.RowKit

structure Th where
  k : List UInt8
  n : List UInt8
  head : List UInt8
  plain : List UInt8

def thC (r : Th) (h p : Value) : List Value := bs r.k ++ (bs r.n ++ [h, p])
def ThOk (w : World) (F : Nat → Prop) (r : Th) (cs : List Value) : Prop :=
  r.k.length = 32 ∧ r.n.length = 12 ∧ ∃ h p, cs = thC r h p ∧ SlV w F h r.head ∧ SlV w F p r.plain
theorem ThOk.fr {w w' : World} {F M : Nat → Prop} {r : Th} {cs : List Value} (h : ThOk w F r cs) (hf : Fr M w w') (hF : ∀ k, F k → k < w.heap.size ∧ ¬ M k) : ThOk w' F r cs := by
  obtain ⟨a, b, x, y, e1, e2, e3⟩ := h
  exact ⟨a, b, x, y, e1, e2.fr hf hF, e3.fr hf hF⟩
theorem ThOk.mono {w : World} {F G : Nat → Prop} {r : Th} {cs : List Value} (h : ThOk w F r cs) (hF : ∀ k, F k → G k) : ThOk w G r cs := by
  obtain ⟨a, b, x, y, e1, e2, e3⟩ := h
  exact ⟨a, b, x, y, e1, e2.mono hF, e3.mono hF⟩

/-- a slice of things -/
structure ThSl (w : World) (F : Nat → Prop) (A : Option Addr) (n c : Nat) (l : List Th) : Prop where
  len : l.length = n
  cap : n ≤ c
  at_ : ∀ i (h : i < l.length), ∃ g o cs, A = some ⟨g, o, none⟩ ∧ F g ∧ ThOk w F l[i] cs ∧ ∀ j x, cs[j]? = some x → w.cell? ⟨g, o + i * 46 + j, none⟩ = some x
theorem ThSl.fr {w w' : World} {F M : Nat → Prop} {A : Option Addr} {n c : Nat} {l : List Th} (h : ThSl w F A n c l) (hf : Fr M w w') (hF : ∀ k, F k → k < w.heap.size ∧ ¬ M k) : ThSl w' F A n c l :=
  ⟨h.len, h.cap, fun i hi => by
    obtain ⟨g, o, cs, e, hg, ht, hc⟩ := h.at_ i hi
    refine ⟨g, o, cs, e, hg, ht.fr hf hF, fun j x hx => ?_⟩
    rw [World.cell?_of_block (w := w) (hf.block g (hF g hg).1 (hF g hg).2)]
    exact hc j x hx⟩
theorem ThSl.mono {w : World} {F G : Nat → Prop} {A : Option Addr} {n c : Nat} {l : List Th} (h : ThSl w F A n c l) (hF : ∀ k, F k → G k) : ThSl w G A n c l :=
  ⟨h.len, h.cap, fun i hi => by
    obtain ⟨g, o, cs, e, hg, ht, hc⟩ := h.at_ i hi
    exact ⟨g, o, cs, e, hF g hg, ht.mono hF, hc⟩⟩
/-- what lies at one of them -/
theorem ThSl.open_ {w : World} {F : Nat → Prop} {A : Option Addr} {n c : Nat} {l : List Th} (h : ThSl w F A n c l) (i : Nat) (hi : i < l.length) :
    ∃ g o HA hn hc PA pn pc, A = some ⟨g, o, none⟩ ∧ F g ∧ l[i].k.length = 32 ∧ l[i].n.length = 12 ∧ w.rangeAt g (o + i * 46) (bs l[i].k) ∧ w.rangeAt g (o + i * 46 + 32) (bs l[i].n) ∧
      w.cell? ⟨g, o + i * 46 + 44, none⟩ = some (.slice HA hn hc) ∧ w.cell? ⟨g, o + i * 46 + 45, none⟩ = some (.slice PA pn pc) ∧ Sl w F HA hn hc l[i].head ∧ Sl w F PA pn pc l[i].plain ∧
      w.rangeAt g (o + i * 46) (bs l[i].k ++ (bs l[i].n ++ [.slice HA hn hc, .slice PA pn pc])) := by
  obtain ⟨g, o, cs, e, hg, ⟨lk, ln, hv, pv, rfl, ⟨HA, hn, hc, rfl, hs⟩, ⟨PA, pn, pc, rfl, ps⟩⟩, hcell⟩ := h.at_ i hi
  have lk' : (bs l[i].k).length = 32 := by rw [bs_length]; exact lk
  have ln' : (bs l[i].n).length = 12 := by rw [bs_length]; exact ln
  refine ⟨g, o, HA, hn, hc, PA, pn, pc, e, hg, lk, ln, fun j x hx => hcell j x ?_, fun j x hx => ?_, hcell 44 _ ?_, hcell 45 _ ?_, hs, ps, fun j x hx => hcell j x hx⟩
  · have := (List.getElem?_eq_some_iff.1 hx).1
    rw [thC, List.getElem?_append_left (by omega)]; exact hx
  · have := (List.getElem?_eq_some_iff.1 hx).1
    rw [show o + i * 46 + 32 + j = o + i * 46 + (32 + j) by omega]
    refine hcell (32 + j) x ?_
    rw [thC, List.getElem?_append_right (by omega), lk', List.getElem?_append_left (by omega), show 32 + j - 32 = j by omega]; exact hx
  · rw [thC, List.getElem?_append_right (by omega), List.getElem?_append_right (by omega), lk', ln']; rfl
  · rw [thC, List.getElem?_append_right (by omega), List.getElem?_append_right (by omega), lk', ln']; rfl

/-- is there more, or longer, than is gone through? -/
def greatOf (l : List Th) : Bool := decide (40 < l.length) || l.any (fun t => decide (1024 < t.head.length) || decide (1024 < t.plain.length))

set_option maxHeartbeats 1000000 in
theorem great_any (A : Option Addr) (n c : Nat) (l : List Th) (F : Nat → Prop) (w : World) (h : ThSl w F A n c l) (hl : n ≤ 140737488355328) :
    Calls Try.prog 19 #[.slice A n c] w fun e w' => e = .returned (.bool (greatOf l)) ∧ w = w' := by
  have hlen := h.len
  have H := Lib.hid h; clear h
  by_cases h40 : 40 < n
  · have hfin := Lib.hid (show greatOf l = true by unfold greatOf; simp; omega)
    have h40' : (40 : Int) < (n : Int) := by omega
    go_enter Try.func19, Try.ntmps19
    go_wp2
    go_ret
    exact ⟨ret_bool hfin.out.symm, rfl⟩
  · have h40' : ¬ (40 : Int) < (n : Int) := by omega
    have H40 := Lib.hid (show l.length ≤ 40 by omega)
    have Hlen := Lib.hid hlen
    clear h40
    go_enter Try.func19, Try.ntmps19
    go_wp2
    go_loopw [3] (fun i w' => ∃ k : Nat, k ≤ n ∧ i = .int .i64 k ∧ (∀ j (hj : j < l.length), j < k → l[j].head.length ≤ 1024 ∧ l[j].plain.length ≤ 1024) ∧ w' = w) (fun i _ => n - (intOf i).toNat)
    case atStart => exact ⟨0, Nat.zero_le _, rfl, fun j _ h => by omega, rfl⟩
    case round =>
      obtain ⟨k, hk, rfl, ha, rfl⟩ := hrel
      have Ha := Lib.hid ha; clear ha
      by_cases hlt : k < n
      · have hlt' : k < l.length := by have := Hlen.out; omega
        obtain ⟨g, o, HA, hn, hc, PA, pn, pc, rfl, hF, -, -, -, -, c44, c45, s44, s45, -⟩ := H.out.open_ k hlt'
        have l44 := s44.len; have l45 := s45.len
        clear s44 s45
        have hlI : (k : Int) < n := by omega
        have hkI : (0 : Int) ≤ (k : Int) := by omega
        have L44 := Lib.hid l44; have L45 := Lib.hid l45
        have hfin (hh : 1024 < hn ∨ 1024 < pn) : Hid (greatOf l = true) := by
          show greatOf l = true
          unfold greatOf
          simp only [Bool.or_eq_true, List.any_eq_true, decide_eq_true_eq]
          right
          exact ⟨l[k], List.getElem_mem hlt', by rw [l44, l45]; exact hh⟩
        have HF := Lib.hid hfin
        clear l44 l45 hfin
        by_cases hh : 1024 < hn
        · have hfin := HF.out (.inl hh)
          have hh' : (1024 : Int) < (hn : Int) := by omega
          go_wp2
          go_ret
          exact ⟨ret_bool hfin.out.symm, rfl⟩
        · have hh' : ¬ (1024 : Int) < (hn : Int) := by omega
          by_cases hp : 1024 < pn
          · have hfin := HF.out (.inr hp)
            have hp' : (1024 : Int) < (pn : Int) := by omega
            go_wp2
            go_ret
            exact ⟨ret_bool hfin.out.symm, rfl⟩
          · have hp' : ¬ (1024 : Int) < (pn : Int) := by omega
            have Hhh := Lib.hid hh; have Hpp := Lib.hid hp
            clear hh hp
            go_wp2
            go_roundw
            case rel =>
              refine ⟨k + 1, by omega, by go_num, fun j hj hjk => ?_, by first | rfl | trivial⟩
              rcases Nat.lt_or_ge j k with hl | hl
              · exact Ha.out j hj hl
              · obtain rfl : j = k := by omega
                have := L44.out; have := L45.out; have := Hhh.out; have := Hpp.out
                omega
            case measure => simp [intOf]; omega
      · have hfin := Lib.hid (show greatOf l = false by
          unfold greatOf
          have h40 := H40.out
          simp only [Bool.or_eq_false_iff, decide_eq_false_iff_not, List.any_eq_false, Bool.or_eq_true, decide_eq_true_eq, not_or]
          refine ⟨by omega, fun t ht => ?_⟩
          obtain ⟨j, hj, rfl⟩ := List.getElem_of_mem ht
          have := Ha.out j hj (by have := Hlen.out; omega)
          omega)
        go_wp2
        go_ret
        exact ⟨ret_bool hfin.out.symm, rfl⟩
end Go.Proofs.Ytnejcciociinmaa
