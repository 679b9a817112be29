/- A region that draws its order, walked in one order: what yields the same in every world that meets S is taken first, the loud operations come up one at a time; from operation t on S is asked no more. -/
import Derived.Test.YtohaaejonlijeaaMem
import Derived.OrdersHeld
import Derived.StillTail
import Derived.Deep.MidRow
namespace Go.Proofs.Ytohaaejonlijeaa
open Go.RowKit
section
variable {P : Program} {ops : Array Oper} {Q : Exit → Act → World → Prop} {md : Region.Mode} {S : World → Prop} {t : Nat}

def OrdT (P : Program) (md : Region.Mode) (ops : Array Oper) (Q : Exit → Act → World → Prop) (S : World → Prop) (t : Nat) : Nat → Array Bool → Act → World → Prop
  | 0, listed, a, w => Region.ready md ops listed = [] ∧ Q .normal a w
  | f + 1, listed, a, w =>
    (Region.ready md ops listed = [] → Q .normal a w) ∧
    ∀ i ∈ Region.ready md ops listed, wpOp P ops Q i (fun a' w' => (i < t → S w') ∧ OrdT P md ops Q S t f (listed.setIfInBounds i true) a' w') a w

theorem any_of_ord : ∀ (f : Nat) (listed : Array Bool) (a : Act) (w : World), OrdT P md ops Q S t f listed a w → wpAny P md ops Q f listed a w
  | 0, _, _, _, h => h
  | f + 1, _, _, _, h => ⟨h.1, fun i hi => wpOp_mono (fun a' w' h' => any_of_ord f _ a' w' h'.2) (h.2 i hi)⟩

theorem ord_first {i : Nat} {oi : Oper} {v : Value} (hi : ops[i]? = some oi) (hit : i < t) (hsel : ∀ (j : Nat) (o : Oper) cs b, ops[j]? = some o → o.op ≠ .select cs b)
    (hwait : ∀ j oj, ops[j]? = some oj → t ≤ j → ∃ e ∈ oj.after, Region.binds md e = true ∧ e.on = i)
    (hQ : ∀ c a w, Q (.panic c) (a.put oi.dst v) w → Q (.panic c) a w) :
    ∀ (f : Nat) (listed : Array Bool) (a : Act) (w : World),
      (∀ j oj, ops[j]? = some oj → j ≠ i → listed.getD j true = false → (∀ e ∈ oj.after, Region.binds md e = true → e.on ≠ i) → oi.apart ops oj = true) →
      i ∈ Region.ready md ops listed → YieldsIf P ops S oi v a → S w →
      OrdT P md ops Q S t f (listed.setIfInBounds i true) (a.put oi.dst v) w → OrdT P md ops Q S t (f + 1) listed a w := by
  intro f
  induction f with
  | zero =>
    intro listed a w _ hr hy hS H
    refine ⟨fun h => (by rw [h] at hr; cases hr), fun j hj => ?_⟩
    by_cases hji : j = i
    · subst hji; exact hy.wpOp hi hS ⟨fun _ => hS, H⟩
    · have := ready_mono hj hji
      rw [H.1] at this
      cases this
  | succ f ih =>
    intro listed a w hfree hr hy hS H
    refine ⟨fun h => (by rw [h] at hr; cases hr), fun j hj => ?_⟩
    by_cases hji : j = i
    · subst hji; exact hy.wpOp hi hS ⟨fun _ => hS, H⟩
    · have h1 := H.2 j (ready_mono hj hji)
      obtain ⟨hjun, oj, hoj, hall⟩ := mem_ready.1 hj
      have hnot : ∀ e ∈ oj.after, Region.binds md e = true → e.on ≠ i := fun e he hb heq => by
        have h1 := hall e he hb
        have h0 := (mem_ready.1 hr).1
        rw [heq] at h1
        rcases Nat.lt_or_ge i listed.size with h' | h'
        · simp [h'] at h0 h1; rw [h0] at h1; cases h1
        · simp [Array.getElem?_eq_none h'] at h1
      have hjt : j < t := by
        rcases Nat.lt_or_ge j t with h | h
        · exact h
        · obtain ⟨e, he, hb, ho⟩ := hwait j oj hoj h
          exact absurd ho (hnot e he hb)
      have h2 := wpOp_putIf hoj (hfree j oj hoj hji hjun hnot) (fun cs b => hsel i oi cs b hi) (fun cs b => hsel j oj cs b hoj) hQ hy h1
      have hfree' : ∀ k ok, ops[k]? = some ok → k ≠ i → (listed.setIfInBounds j true).getD k true = false →
          (∀ e ∈ ok.after, Region.binds md e = true → e.on ≠ i) → oi.apart ops ok = true := fun k ok hk hki hun hno => by
        refine hfree k ok hk hki ?_ hno
        by_cases hjk : j = k
        · subst hjk; exact hjun
        · rw [getD_set_ne true hjk] at hun; exact hun
      refine wpOp_mono (fun a' w' h3 => ⟨h3.2.1, ih (listed.setIfInBounds j true) a' w' hfree' (ready_mono hr (Ne.symm hji)) h3.1 (h3.2.1 hjt) ?_⟩) h2
      rw [Array.setIfInBounds_comm _ _ hji]
      exact h3.2.2

/-- every operation from t on waits for i -/
def waitB (md : Region.Mode) (ops : Array Oper) (t i : Nat) : Bool := (List.range ops.size).all fun j => decide (j < t) || Region.waitsFor md ops j i
theorem waitB_spec {i : Nat} (h : waitB md ops t i = true) : ∀ j oj, ops[j]? = some oj → t ≤ j → ∃ e ∈ oj.after, Region.binds md e = true ∧ e.on = i := by
  intro j oj hj ht
  have hlt : j < ops.size := (Array.getElem?_eq_some_iff.1 hj).1
  have h1 := List.all_eq_true.1 h j (List.mem_range.2 hlt)
  simp only [Bool.or_eq_true, decide_eq_true_eq] at h1
  rcases h1 with h1 | h1
  · omega
  · obtain ⟨o', ho', e, he, hb, hon⟩ := Region.waitsFor_spec h1
    have : o' = oj := Option.some.inj (ho'.symm.trans hj)
    subst this
    exact ⟨e, he, hb, hon⟩

/-- is this order one that serves? (true: taken first) -/
def ordB (md : Region.Mode) (ops : Array Oper) (t : Nat) : List (Nat × Bool) → Array Bool → Bool
  | [], listed => (Region.ready md ops listed).isEmpty
  | (i, true) :: r, listed => (Region.ready md ops listed).contains i && Region.free md ops listed i && decide (i < t) && waitB md ops t i && ordB md ops t r (listed.setIfInBounds i true)
  | (i, false) :: r, listed => decide (Region.ready md ops listed = [i]) && ordB md ops t r (listed.setIfInBounds i true)

/-- the walk in that order -/
def wpOrd (P : Program) (ops : Array Oper) (Q : Exit → Act → World → Prop) (S : World → Prop) (t : Nat) : List (Nat × Bool) → Act → World → Prop
  | [], a, w => Q .normal a w
  | (i, true) :: r, a, w => S w ∧ ∃ o v, ops[i]? = some o ∧ YieldsIf P ops S o v a ∧ wpOrd P ops Q S t r (a.put o.dst v) w
  | (i, false) :: r, a, w => wpOp P ops Q i (fun a' w' => (i < t → S w') ∧ wpOrd P ops Q S t r a' w') a w

theorem ord_of (hs : Region.noSelect ops = true) (hQ : ∀ c a d v w, Q (.panic c) (Act.put a (some d) v) w → Q (.panic c) a w) : ∀ (r : List (Nat × Bool)) (listed : Array Bool) (a : Act) (w : World),
    ordB md ops t r listed = true → wpOrd P ops Q S t r a w → OrdT P md ops Q S t r.length listed a w
  | [], listed, a, w, hB, h => ⟨by simpa [ordB] using hB, h⟩
  | (i, true) :: r, listed, a, w, hB, h => by
    simp only [ordB, Bool.and_eq_true, decide_eq_true_eq] at hB
    obtain ⟨⟨⟨⟨hr, hf⟩, hit⟩, hw⟩, hB'⟩ := hB
    obtain ⟨hS, o, v, ho, hy, h'⟩ := h
    exact ord_first ho hit (Region.noSelect_spec hs) (waitB_spec hw) (fun c a w => by cases hd : o.dst with
      | none => exact id
      | some d => exact hQ c a d v w) r.length listed a w (Region.free_spec ho hf) (by simpa using hr) hy hS
      (ord_of hs hQ r _ _ w hB' h')
  | (i, false) :: r, listed, a, w, hB, h => by
    simp only [ordB, Bool.and_eq_true, decide_eq_true_eq] at hB
    refine ⟨fun h0 => (by rw [hB.1] at h0; cases h0), fun j hj => ?_⟩
    rw [hB.1] at hj
    have : j = i := by simpa using hj
    subst this
    exact wpOp_mono (fun a' w' h' => ⟨h'.1, ord_of hs hQ r _ a' w' hB.2 h'.2⟩) h

/-- THE BEGINNING. -/
theorem wp_region_ord {id : Nat} {l : List Oper} {a : Act} {w : World} (S : World → Prop) (t : Nat) (r : List (Nat × Bool)) (hm : P.follows .mixedOrders = true)
    (hB : (Region.noSelect l.toArray && decide (r.length = l.length) && ordB .any l.toArray t r (Array.replicate l.length false)) = true)
    (hQ : ∀ c a d v w, Q (.panic c) (Act.put a (some d) v) w → Q (.panic c) a w)
    (h : wpOrd P l.toArray Q S t r a w.drew) : (Code.region id l.toArray true).wp P Q a w := by
  simp only [Bool.and_eq_true, decide_eq_true_eq] at hB
  refine wp_region_any hm ?_
  have h1 := ord_of (md := .any) hB.1.1 hQ r _ a _ hB.2 h
  rw [hB.1.2] at h1
  have h2 := any_of_ord _ _ _ _ h1
  simpa using h2
theorem ord_take {i : Nat} {r : List (Nat × Bool)} {o : Oper} {v : Value} {a : Act} {w : World} (hS : S w) (ho : ops.toList[i]? = some o) (hg : o.guard = none)
    (hy : ∀ w', S w' → (execOp a.eval o).run P w' = .ok (.value v) w') (h : wpOrd P ops Q S t r (a.put o.dst v) w) : wpOrd P ops Q S t ((i, true) :: r) a w :=
  ⟨hS, o, v, by simpa using ho, .inl ⟨by simp [Region.wanted, hg], hy⟩, h⟩
theorem ord_end {a : Act} {w : World} (h : Q .normal a w) : wpOrd P ops Q S t [] a w := h
theorem ord_move {i : Nat} {r : List (Nat × Bool)} {dst : Option Tmp} {x : Operand} {ty : TypeId} {pos : String} {after : Array Edge} {a : Act} {w : World} (hS : S w) (ho : ops.toList[i]? = some ⟨dst, .move x, ty, pos, after, none⟩)
    (h : wpOrd P ops Q S t r (a.put dst (a.eval x)) w) : wpOrd P ops Q S t ((i, true) :: r) a w :=
  ord_take hS ho rfl (fun _ _ => rfl) h
theorem ord_run {i : Nat} {r : List (Nat × Bool)} {o : Oper} {a : Act} {w : World} (ho : ops.toList[i]? = some o) (hg : o.guard = none)
    (h : ∀ K : Act → World → Prop, (∀ a' w', ((i < t → S w') ∧ wpOrd P ops Q S t r a' w') → K a' w') → o.wp P a w K Q) : wpOrd P ops Q S t ((i, false) :: r) a w := by
  show wpOp P ops Q i _ a w
  have ho' : ops[i]? = some o := by simpa using ho
  unfold wpOp
  simp only [ho']
  rw [if_pos (by simp [Region.wanted, hg])]
  exact .inl (h _ fun _ _ h => h)
def yldUpon (o : Oper) (a : Act) (w : World) (K : Act → Prop) : Result Next → Prop
  | .ok (.value v) w' => w' = w ∧ K (a.put o.dst v)
  | _ => False
def yld (P : Program) (o : Oper) (a : Act) (w : World) (K : Act → Prop) : Prop := yldUpon o a w K ((execOp a.eval o).run P w)
theorem yldUpon_value (o : Oper) (a : Act) (w : World) (K : Act → Prop) (v : Value) : yldUpon o a w K (.ok (.value v) w) = K (a.put o.dst v) := by simp [yldUpon]
/-- one that only reads, the new frame written out -/
theorem ord_yld {i d : Nat} {r : List (Nat × Bool)} {o : Oper} {a : Act} {w : World} (hS : S w) (ho : ops.toList[i]? = some o) (hg : o.guard = none) (hd : o.dst = some d) (hlt : d < a.tmps.size)
    (h : ∃ a1, (∀ w', S w' → ∀ K : Act → Prop, K a1 → yld P o a w' K) ∧ wpOrd P ops Q S t r a1 w) : wpOrd P ops Q S t ((i, true) :: r) a w := by
  obtain ⟨a1, hy, h⟩ := h
  have key : ∀ w', S w' → ∃ v, (execOp a.eval o).run P w' = .ok (.value v) w' ∧ a.put (some d) v = a1 := by
    intro w' hS'
    have h1 := hy w' hS' (· = a1) rfl
    unfold yld at h1
    generalize hr : (execOp a.eval o).run P w' = rr at h1
    cases rr with
    | ok n w'' =>
      cases n <;> simp only [yldUpon] at h1
      case value v => obtain ⟨rfl, h2⟩ := h1; exact ⟨v, rfl, by rw [← hd]; exact h2⟩
    | halt x w'' => simp only [yldUpon] at h1
  obtain ⟨v, hv, ha⟩ := key w hS
  refine ord_take (v := v) hS ho hg (fun w' hS' => ?_) (by rw [hd, ha]; exact h)
  obtain ⟨v', hv', ha'⟩ := key w' hS'
  have e : v' = v := by
    have e1 : (a.put (some d) v').tmps[d]? = (a.put (some d) v).tmps[d]? := by rw [ha, ha']
    simpa [Act.put, Array.getElem?_setIfInBounds, hlt] using e1
  rw [hv', e]
theorem ord_load_mid {i d : Nat} {r : List (Nat × Bool)} {ty : TypeId} {x : Operand} {typ : TypeId} {pos : String} {after : Array Edge} {a : Act} {w : World} (hS : S w)
    (ho : ops.toList[i]? = some ⟨some d, .load ty x, typ, pos, after, none⟩) (b o : Nat) (cs : List Value) (de : TypeDesc) (hx : a.eval x = .pointer (some ⟨b, o, none⟩)) (hc : ∀ w', S w' → w'.rangeAt b o cs)
    (hu : P.underlying ty = some de) (hd : de.isRow = true) (hi : (P.info? ty).map (·.size) = some cs.length)
    (h : wpOrd P ops Q S t r (a.put (some d) (.agg cs.toArray)) w) : wpOrd P ops Q S t ((i, true) :: r) a w := by
  refine ord_take hS ho rfl (fun w' hS' => ?_) h
  unfold execOp
  simp only [hx, Instr.loadAt, Instr.sureAddr, Sem.run_bind, Sem.run_pure, Result.andThen_ok, run_loadVar_mid w' b o ty cs de (hc w' hS') hu hd hi]
end
end Go.Proofs.Ytohaaejonlijeaa
