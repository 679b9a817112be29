/- A region that draws its order, walked in one order, parted where two loud operations may come either way. -/
import Derived.Test.YtohaaejonlijeaaOrd
namespace Go.Proofs.Ytohaaejonlijeaa
open Go.RowKit
section
variable {P : Program} {ops : Array Oper} {Q : Exit → Act → World → Prop} {S : World → Prop} {t : Nat}

inductive OT where
  | done
  | take (i : Nat) (r : OT)
  | run (i : Nat) (r : OT)
  | two (i j : Nat) (r s : OT)

def OT.size : OT → Nat
  | .done => 0
  | .take _ r => r.size + 1
  | .run _ r => r.size + 1
  | .two _ _ r _ => r.size + 1

def otB (md : Region.Mode) (ops : Array Oper) (t : Nat) : OT → Array Bool → Bool
  | .done, listed => (Region.ready md ops listed).isEmpty
  | .take i r, listed => (Region.ready md ops listed).contains i && Region.free md ops listed i && decide (i < t) && waitB md ops t i && otB md ops t r (listed.setIfInBounds i true)
  | .run i r, listed => decide (Region.ready md ops listed = [i]) && otB md ops t r (listed.setIfInBounds i true)
  | .two i j r s, listed => decide (Region.ready md ops listed = [i, j]) && decide (r.size = s.size) && otB md ops t r (listed.setIfInBounds i true) && otB md ops t s (listed.setIfInBounds j true)

def wpOT (P : Program) (ops : Array Oper) (Q : Exit → Act → World → Prop) (S : World → Prop) (t : Nat) : OT → Act → World → Prop
  | .done, a, w => Q .normal a w
  | .take i r, a, w => S w ∧ ∃ o v, ops[i]? = some o ∧ YieldsIf P ops S o v a ∧ wpOT P ops Q S t r (a.put o.dst v) w
  | .run i r, a, w => wpOp P ops Q i (fun a' w' => (i < t → S w') ∧ wpOT P ops Q S t r a' w') a w
  | .two i j r s, a, w => wpOp P ops Q i (fun a' w' => (i < t → S w') ∧ wpOT P ops Q S t r a' w') a w ∧ wpOp P ops Q j (fun a' w' => (j < t → S w') ∧ wpOT P ops Q S t s a' w') a w

theorem ot_of {md : Region.Mode} (hs : Region.noSelect ops = true) (hQ : ∀ c a d v w, Q (.panic c) (Act.put a (some d) v) w → Q (.panic c) a w) : ∀ (r : OT) (listed : Array Bool) (a : Act) (w : World),
    otB md ops t r listed = true → wpOT P ops Q S t r a w → OrdT P md ops Q S t r.size listed a w
  | .done, listed, a, w, hB, h => ⟨by simpa [otB] using hB, h⟩
  | .take i r, listed, a, w, hB, h => by
    simp only [otB, Bool.and_eq_true, decide_eq_true_eq] at hB
    obtain ⟨⟨⟨⟨hr, hf⟩, hit⟩, hw⟩, hB'⟩ := hB
    obtain ⟨hS, o, v, ho, hy, h'⟩ := h
    exact ord_first ho hit (Region.noSelect_spec hs) (waitB_spec hw) (fun c a w => by cases hd : o.dst with
      | none => exact id
      | some d => exact hQ c a d v w) r.size listed a w (Region.free_spec ho hf) (by simpa using hr) hy hS
      (ot_of hs hQ r _ _ w hB' h')
  | .run i r, listed, a, w, hB, h => by
    simp only [otB, Bool.and_eq_true, decide_eq_true_eq] at hB
    refine ⟨fun h0 => (by rw [hB.1] at h0; cases h0), fun j hj => ?_⟩
    rw [hB.1] at hj
    have : j = i := by simpa using hj
    subst this
    exact wpOp_mono (fun a' w' h' => ⟨h'.1, ot_of hs hQ r _ a' w' hB.2 h'.2⟩) h
  | .two i j r s, listed, a, w, hB, h => by
    simp only [otB, Bool.and_eq_true, decide_eq_true_eq] at hB
    obtain ⟨⟨⟨hr, hsz⟩, hB1⟩, hB2⟩ := hB
    refine ⟨fun h0 => (by rw [hr] at h0; cases h0), fun k hk => ?_⟩
    rw [hr] at hk
    simp only [List.mem_cons, List.not_mem_nil, or_false] at hk
    rcases hk with rfl | rfl
    · exact wpOp_mono (fun a' w' h' => ⟨h'.1, ot_of hs hQ r _ a' w' hB1 h'.2⟩) h.1
    · refine wpOp_mono (fun a' w' h' => ⟨h'.1, ?_⟩) h.2
      have h2 := ot_of hs hQ s _ a' w' hB2 h'.2
      show OrdT P md ops Q S t r.size _ a' w'
      rw [hsz]; exact h2

/-- THE BEGINNING. -/
theorem wp_region_ot {id : Nat} {l : List Oper} {a : Act} {w : World} (S : World → Prop) (t : Nat) (r : OT) (hm : P.follows .mixedOrders = true)
    (hB : (Region.noSelect l.toArray && decide (r.size = l.length) && otB .any l.toArray t r (Array.replicate l.length false)) = true)
    (hQ : ∀ c a d v w, Q (.panic c) (Act.put a (some d) v) w → Q (.panic c) a w)
    (h : wpOT P l.toArray Q S t r a w.drew) : (Code.region id l.toArray true).wp P Q a w := by
  simp only [Bool.and_eq_true, decide_eq_true_eq] at hB
  refine wp_region_any hm ?_
  have h1 := ot_of (md := .any) hB.1.1 hQ r _ a _ hB.2 h
  rw [hB.1.2] at h1
  have h2 := any_of_ord _ _ _ _ h1
  simpa using h2
theorem ot_take {i : Nat} {r : OT} {o : Oper} {v : Value} {a : Act} {w : World} (hS : S w) (ho : ops.toList[i]? = some o) (hg : o.guard = none)
    (hy : ∀ w', S w' → (execOp a.eval o).run P w' = .ok (.value v) w') (h : wpOT P ops Q S t r (a.put o.dst v) w) : wpOT P ops Q S t (.take i r) a w :=
  ⟨hS, o, v, by simpa using ho, .inl ⟨by simp [Region.wanted, hg], hy⟩, h⟩
theorem ot_done {a : Act} {w : World} (h : Q .normal a w) : wpOT P ops Q S t .done a w := h
theorem wpOp_run {i : Nat} {o : Oper} {a : Act} {w : World} {K : Act → World → Prop} (ho : ops.toList[i]? = some o) (hw : Region.wanted o (yielded ops a.tmps) = true) (h : o.wp P a w K Q) : wpOp P ops Q i K a w := by
  have ho' : ops[i]? = some o := by simpa using ho
  unfold wpOp
  simp only [ho']
  rw [if_pos hw]
  exact .inl h
theorem ot_run {i : Nat} {r : OT} {o : Oper} {a : Act} {w : World} (ho : ops.toList[i]? = some o) (hw : Region.wanted o (yielded ops a.tmps) = true)
    (h : ∀ K : Act → World → Prop, (∀ a' w', ((i < t → S w') ∧ wpOT P ops Q S t r a' w') → K a' w') → o.wp P a w K Q) : wpOT P ops Q S t (.run i r) a w :=
  wpOp_run ho hw (h _ fun _ _ h => h)
theorem ot_two {i j : Nat} {r s : OT} {o o' : Oper} {a : Act} {w : World} (ho : ops.toList[i]? = some o) (ho' : ops.toList[j]? = some o') (hw : Region.wanted o (yielded ops a.tmps) = true) (hw' : Region.wanted o' (yielded ops a.tmps) = true)
    (h : ∀ K : Act → World → Prop, (∀ a' w', ((i < t → S w') ∧ wpOT P ops Q S t r a' w') → K a' w') → o.wp P a w K Q)
    (h' : ∀ K : Act → World → Prop, (∀ a' w', ((j < t → S w') ∧ wpOT P ops Q S t s a' w') → K a' w') → o'.wp P a w K Q) : wpOT P ops Q S t (.two i j r s) a w :=
  ⟨wpOp_run ho hw (h _ fun _ _ h => h), wpOp_run ho' hw' (h' _ fun _ _ h => h)⟩
end
end Go.Proofs.Ytohaaejonlijeaa
