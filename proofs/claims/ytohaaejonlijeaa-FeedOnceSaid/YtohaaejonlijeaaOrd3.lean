/- A region that draws its order, walked in one order (or two): each operation that is taken first says what it asks of the world; each loud one keeps that for those that it does not wait for. -/
import Derived.Test.YtohaaejonlijeaaOrd2
namespace Go.Proofs.Ytohaaejonlijeaa
open Go.RowKit
section
variable {P : Program} {ops : Array Oper} {Q : Exit → Act → World → Prop} {md : Region.Mode} {S : Nat → World → Prop} {ts : List Nat}

def KeepS (md : Region.Mode) (ops : Array Oper) (S : Nat → World → Prop) (ts : List Nat) (j : Nat) (w w' : World) : Prop := ∀ i ∈ ts, Region.waitsFor md ops j i = false → S i w → S i w'

def OrdS (P : Program) (md : Region.Mode) (ops : Array Oper) (Q : Exit → Act → World → Prop) (S : Nat → World → Prop) (ts : List Nat) : Nat → Array Bool → Act → World → Prop
  | 0, listed, a, w => Region.ready md ops listed = [] ∧ Q .normal a w
  | f + 1, listed, a, w =>
    (Region.ready md ops listed = [] → Q .normal a w) ∧
    ∀ i ∈ Region.ready md ops listed, wpOp P ops Q i (fun a' w' => KeepS md ops S ts i w w' ∧ OrdS P md ops Q S ts f (listed.setIfInBounds i true) a' w') a w

theorem any_of_ordS : ∀ (f : Nat) (listed : Array Bool) (a : Act) (w : World), OrdS P md ops Q S ts f listed a w → wpAny P md ops Q f listed a w
  | 0, _, _, _, h => h
  | f + 1, _, _, _, h => ⟨h.1, fun i hi => wpOp_mono (fun a' w' h' => any_of_ordS f _ a' w' h'.2) (h.2 i hi)⟩

theorem waits_no {j i : Nat} {oj : Oper} (hj : ops[j]? = some oj) (h : ∀ e ∈ oj.after, Region.binds md e = true → e.on ≠ i) : Region.waitsFor md ops j i = false := by
  cases hw : Region.waitsFor md ops j i with
  | false => rfl
  | true =>
    obtain ⟨o', ho', e, he, hb, hon⟩ := Region.waitsFor_spec hw
    have : o' = oj := Option.some.inj (ho'.symm.trans hj)
    subst this
    exact absurd hon (h e he hb)

theorem ordS_first {i : Nat} {oi : Oper} {v : Value} {Si : World → Prop} (hi : ops[i]? = some oi) (hsel : ∀ (j : Nat) (o : Oper) cs b, ops[j]? = some o → o.op ≠ .select cs b)
    (hts : (i ∈ ts ∧ Si = S i) ∨ ∀ w, Si w) (hQ : ∀ c a w, Q (.panic c) (a.put oi.dst v) w → Q (.panic c) a w) :
    ∀ (f : Nat) (listed : Array Bool) (a : Act) (w : World),
      (∀ j oj, ops[j]? = some oj → j ≠ i → listed.getD j true = false → (∀ e ∈ oj.after, Region.binds md e = true → e.on ≠ i) → oi.apart ops oj = true) →
      i ∈ Region.ready md ops listed → YieldsIf P ops Si oi v a → Si w →
      OrdS P md ops Q S ts f (listed.setIfInBounds i true) (a.put oi.dst v) w → OrdS P md ops Q S ts (f + 1) listed a w := by
  intro f
  induction f with
  | zero =>
    intro listed a w _ hr hy hS H
    refine ⟨fun h => (by rw [h] at hr; cases hr), fun j hj => ?_⟩
    by_cases hji : j = i
    · subst hji; exact hy.wpOp hi hS ⟨fun _ _ _ h => h, H⟩
    · have := ready_mono hj hji
      rw [H.1] at this
      cases this
  | succ f ih =>
    intro listed a w hfree hr hy hS H
    refine ⟨fun h => (by rw [h] at hr; cases hr), fun j hj => ?_⟩
    by_cases hji : j = i
    · subst hji; exact hy.wpOp hi hS ⟨fun _ _ _ h => h, H⟩
    · have h1 := H.2 j (ready_mono hj hji)
      obtain ⟨hjun, oj, hoj, hall⟩ := mem_ready.1 hj
      have hnot : ∀ e ∈ oj.after, Region.binds md e = true → e.on ≠ i := fun e he hb heq => by
        have h1 := hall e he hb
        have h0 := (mem_ready.1 hr).1
        rw [heq] at h1
        rcases Nat.lt_or_ge i listed.size with h' | h'
        · simp [h'] at h0 h1; rw [h0] at h1; cases h1
        · simp [Array.getElem?_eq_none h'] at h1
      have hwn := waits_no hoj hnot
      have h2 := wpOp_putIf hoj (hfree j oj hoj hji hjun hnot) (fun cs b => hsel i oi cs b hi) (fun cs b => hsel j oj cs b hoj) hQ hy h1
      have hfree' : ∀ k ok, ops[k]? = some ok → k ≠ i → (listed.setIfInBounds j true).getD k true = false →
          (∀ e ∈ ok.after, Region.binds md e = true → e.on ≠ i) → oi.apart ops ok = true := fun k ok hk hki hun hno => by
        refine hfree k ok hk hki ?_ hno
        by_cases hjk : j = k
        · subst hjk; exact hjun
        · rw [getD_set_ne true hjk] at hun; exact hun
      refine wpOp_mono (fun a' w' h3 => ⟨h3.2.1, ih (listed.setIfInBounds j true) a' w' hfree' (ready_mono hr (Ne.symm hji)) h3.1 ?_ ?_⟩) h2
      · rcases hts with ⟨hm, rfl⟩ | ht
        · exact h3.2.1 i hm hwn hS
        · exact ht w'
      · rw [Array.setIfInBounds_comm _ _ hji]
        exact h3.2.2

inductive OS where
  | done
  | take (i : Nat) (r : OS)
  | move (i : Nat) (r : OS)
  | run (i : Nat) (ks : List Nat) (r : OS)
  | two (i : Nat) (ks : List Nat) (r : OS) (j : Nat) (ls : List Nat) (s : OS)

def OS.size : OS → Nat
  | .done => 0
  | .take _ r => r.size + 1
  | .move _ r => r.size + 1
  | .run _ _ r => r.size + 1
  | .two _ _ r _ _ _ => r.size + 1

def keepB (md : Region.Mode) (ops : Array Oper) (ts : List Nat) (j : Nat) (ks : List Nat) : Bool := ts.all fun i => ks.contains i || Region.waitsFor md ops j i

def osB (md : Region.Mode) (ops : Array Oper) (ts : List Nat) : OS → Array Bool → Bool
  | .done, listed => (Region.ready md ops listed).isEmpty
  | .take i r, listed => (Region.ready md ops listed).contains i && Region.free md ops listed i && ts.contains i && osB md ops ts r (listed.setIfInBounds i true)
  | .move i r, listed => (Region.ready md ops listed).contains i && Region.free md ops listed i && osB md ops ts r (listed.setIfInBounds i true)
  | .run i ks r, listed => decide (Region.ready md ops listed = [i]) && keepB md ops ts i ks && osB md ops ts r (listed.setIfInBounds i true)
  | .two i ks r j ls s, listed => decide (Region.ready md ops listed = [i, j]) && decide (r.size = s.size) && keepB md ops ts i ks && keepB md ops ts j ls && osB md ops ts r (listed.setIfInBounds i true) && osB md ops ts s (listed.setIfInBounds j true)

def wpOS (P : Program) (ops : Array Oper) (Q : Exit → Act → World → Prop) (S : Nat → World → Prop) : OS → Act → World → Prop
  | .done, a, w => Q .normal a w
  | .take i r, a, w => S i w ∧ ∃ o v, ops[i]? = some o ∧ YieldsIf P ops (S i) o v a ∧ wpOS P ops Q S r (a.put o.dst v) w
  | .move i r, a, w => ∃ o v, ops[i]? = some o ∧ YieldsIf P ops (fun _ => True) o v a ∧ wpOS P ops Q S r (a.put o.dst v) w
  | .run i ks r, a, w => wpOp P ops Q i (fun a' w' => (∀ k ∈ ks, S k w → S k w') ∧ wpOS P ops Q S r a' w') a w
  | .two i ks r j ls s, a, w => wpOp P ops Q i (fun a' w' => (∀ k ∈ ks, S k w → S k w') ∧ wpOS P ops Q S r a' w') a w ∧ wpOp P ops Q j (fun a' w' => (∀ k ∈ ls, S k w → S k w') ∧ wpOS P ops Q S s a' w') a w

theorem keep_of {j : Nat} {ks : List Nat} {w w' : World} (hB : keepB md ops ts j ks = true) (h : ∀ k ∈ ks, S k w → S k w') : KeepS md ops S ts j w w' := fun i hi hw => by
  have := List.all_eq_true.1 hB i hi
  rw [hw, Bool.or_false] at this
  exact h i (by simpa using this)

theorem os_of (hs : Region.noSelect ops = true) (hQ : ∀ c a d v w, Q (.panic c) (Act.put a (some d) v) w → Q (.panic c) a w) : ∀ (r : OS) (listed : Array Bool) (a : Act) (w : World),
    osB md ops ts r listed = true → wpOS P ops Q S r a w → OrdS P md ops Q S ts r.size listed a w
  | .done, listed, a, w, hB, h => ⟨by simpa [osB] using hB, h⟩
  | .take i r, listed, a, w, hB, h => by
    simp only [osB, Bool.and_eq_true] at hB
    obtain ⟨⟨⟨hr, hf⟩, hts⟩, hB'⟩ := hB
    obtain ⟨hS, o, v, ho, hy, h'⟩ := h
    exact ordS_first ho (Region.noSelect_spec hs) (.inl ⟨by simpa using hts, rfl⟩) (fun c a w => by cases hd : o.dst with
      | none => exact id
      | some d => exact hQ c a d v w) r.size listed a w (Region.free_spec ho hf) (by simpa using hr) hy hS
      (os_of hs hQ r _ _ w hB' h')
  | .move i r, listed, a, w, hB, h => by
    simp only [osB, Bool.and_eq_true] at hB
    obtain ⟨⟨hr, hf⟩, hB'⟩ := hB
    obtain ⟨o, v, ho, hy, h'⟩ := h
    exact ordS_first ho (Region.noSelect_spec hs) (.inr fun _ => trivial) (fun c a w => by cases hd : o.dst with
      | none => exact id
      | some d => exact hQ c a d v w) r.size listed a w (Region.free_spec ho hf) (by simpa using hr) hy trivial
      (os_of hs hQ r _ _ w hB' h')
  | .run i ks r, listed, a, w, hB, h => by
    simp only [osB, Bool.and_eq_true, decide_eq_true_eq] at hB
    obtain ⟨⟨hr, hk⟩, hB'⟩ := hB
    refine ⟨fun h0 => (by rw [hr] at h0; cases h0), fun j hj => ?_⟩
    rw [hr] at hj
    have : j = i := by simpa using hj
    subst this
    exact wpOp_mono (fun a' w' h' => ⟨keep_of hk h'.1, os_of hs hQ r _ a' w' hB' h'.2⟩) h
  | .two i ks r j ls s, listed, a, w, hB, h => by
    simp only [osB, Bool.and_eq_true, decide_eq_true_eq] at hB
    obtain ⟨⟨⟨⟨⟨hr, hsz⟩, hk1⟩, hk2⟩, hB1⟩, hB2⟩ := hB
    refine ⟨fun h0 => (by rw [hr] at h0; cases h0), fun k hk => ?_⟩
    rw [hr] at hk
    simp only [List.mem_cons, List.not_mem_nil, or_false] at hk
    rcases hk with rfl | rfl
    · exact wpOp_mono (fun a' w' h' => ⟨keep_of hk1 h'.1, os_of hs hQ r _ a' w' hB1 h'.2⟩) h.1
    · refine wpOp_mono (fun a' w' h' => ⟨keep_of hk2 h'.1, ?_⟩) h.2
      have h2 := os_of hs hQ s _ a' w' hB2 h'.2
      show OrdS P md ops Q S ts r.size _ a' w'
      rw [hsz]; exact h2

/-- THE BEGINNING. -/
theorem wp_region_os {id : Nat} {l : List Oper} {a : Act} {w : World} (S : Nat → World → Prop) (ts : List Nat) (r : OS) (hm : P.follows .mixedOrders = true)
    (hB : (Region.noSelect l.toArray && decide (r.size = l.length) && osB .any l.toArray ts r (Array.replicate l.length false)) = true)
    (hQ : ∀ c a d v w, Q (.panic c) (Act.put a (some d) v) w → Q (.panic c) a w)
    (h : wpOS P l.toArray Q S r a w.drew) : (Code.region id l.toArray true).wp P Q a w := by
  simp only [Bool.and_eq_true, decide_eq_true_eq] at hB
  refine wp_region_any hm ?_
  have h1 := os_of (md := .any) hB.1.1 hQ r _ a _ hB.2 h
  rw [hB.1.2] at h1
  have h2 := any_of_ordS _ _ _ _ h1
  simpa using h2
/-- what only ends normally -/
theorem wp_calm {c : Code} {a : Act} {w : World} (h : c.wp P (fun e a w => e = .normal ∧ Q .normal a w) a w) : c.wp P Q a w :=
  wp_mono h (by rintro e a w ⟨rfl, h⟩; exact h)
theorem os_done {a : Act} {w : World} (h : Q .normal a w) : wpOS P ops Q S .done a w := h
/-- one that only reads, the new frame written out -/
theorem os_yld {i d : Nat} {r : OS} {o : Oper} {a : Act} {w : World} (hS : S i w) (ho : ops.toList[i]? = some o) (hg : o.guard = none) (hd : o.dst = some d) (hlt : d < a.tmps.size)
    (h : ∃ a1, (∀ w', S i w' → ∀ K : Act → Prop, K a1 → yld P o a w' K) ∧ wpOS P ops Q S r a1 w) : wpOS P ops Q S (.take i r) a w := by
  obtain ⟨a1, hy, h⟩ := h
  have key : ∀ w', S i w' → ∃ v, (execOp a.eval o).run P w' = .ok (.value v) w' ∧ a.put (some d) v = a1 := by
    intro w' hS'
    have h1 := hy w' hS' (· = a1) rfl
    unfold yld at h1
    generalize hr : (execOp a.eval o).run P w' = rr at h1
    cases rr with
    | ok n w'' =>
      cases n <;> simp only [yldUpon] at h1
      case value v => obtain ⟨rfl, h2⟩ := h1; exact ⟨v, rfl, by rw [← hd]; exact h2⟩
    | halt x w'' => simp only [yldUpon] at h1
  obtain ⟨v, hv, ha⟩ := key w hS
  refine ⟨hS, o, v, by simpa using ho, .inl ⟨by simp [Region.wanted, hg], fun w' hS' => ?_⟩, by rw [hd, ha]; exact h⟩
  obtain ⟨v', hv', ha'⟩ := key w' hS'
  have e : v' = v := by
    have e1 : (a.put (some d) v').tmps[d]? = (a.put (some d) v).tmps[d]? := by rw [ha, ha']
    simpa [Act.put, Array.getElem?_setIfInBounds, hlt] using e1
  rw [hv', e]
/-- the same, guarded and wanted -/
theorem os_yldg {i d : Nat} {r : OS} {o : Oper} {a : Act} {w : World} (hS : S i w) (ho : ops.toList[i]? = some o) (hw : Region.wanted o (yielded ops a.tmps) = true) (hd : o.dst = some d) (hlt : d < a.tmps.size)
    (h : ∃ a1, (∀ w', S i w' → ∀ K : Act → Prop, K a1 → yld P o a w' K) ∧ wpOS P ops Q S r a1 w) : wpOS P ops Q S (.take i r) a w := by
  obtain ⟨a1, hy, h⟩ := h
  have key : ∀ w', S i w' → ∃ v, (execOp a.eval o).run P w' = .ok (.value v) w' ∧ a.put (some d) v = a1 := by
    intro w' hS'
    have h1 := hy w' hS' (· = a1) rfl
    unfold yld at h1
    generalize hr : (execOp a.eval o).run P w' = rr at h1
    cases rr with
    | ok n w'' =>
      cases n <;> simp only [yldUpon] at h1
      case value v => obtain ⟨rfl, h2⟩ := h1; exact ⟨v, rfl, by rw [← hd]; exact h2⟩
    | halt x w'' => simp only [yldUpon] at h1
  obtain ⟨v, hv, ha⟩ := key w hS
  refine ⟨hS, o, v, by simpa using ho, .inl ⟨hw, fun w' hS' => ?_⟩, by rw [hd, ha]; exact h⟩
  obtain ⟨v', hv', ha'⟩ := key w' hS'
  have e : v' = v := by
    have e1 : (a.put (some d) v').tmps[d]? = (a.put (some d) v).tmps[d]? := by rw [ha, ha']
    simpa [Act.put, Array.getElem?_setIfInBounds, hlt] using e1
  rw [hv', e]
theorem os_moveg {i d : Nat} {r : OS} {o : Oper} {a : Act} {w : World} (ho : ops.toList[i]? = some o) (hw : Region.wanted o (yielded ops a.tmps) = true) (hd : o.dst = some d) (hlt : d < a.tmps.size)
    (h : ∃ a1, (∀ w', ∀ K : Act → Prop, K a1 → yld P o a w' K) ∧ wpOS P ops Q S r a1 w) : wpOS P ops Q S (.move i r) a w := by
  obtain ⟨a1, hy, h⟩ := h
  have h1 := os_yldg (S := fun _ _ => True) (Q := fun _ _ _ => True) (r := .done) (P := P) (i := i) (w := w) (a := a) trivial ho hw hd hlt ⟨a1, fun w' _ => hy w', trivial⟩
  obtain ⟨_, o', v, ho', hyi, _⟩ := h1
  have key := hy w (· = a1) rfl
  refine ⟨o', v, ho', hyi, ?_⟩
  have : o' = o := by
    have e : ops[i]? = some o := by simpa using ho
    rw [e] at ho'; injection ho' with ho'; exact ho'.symm
  subst this
  have hval : a.put o'.dst v = a1 := by
    unfold yld at key
    rcases hyi with hyi | hyi
    · have h2 := hyi.2 w trivial
      rw [h2] at key
      simp only [yldUpon] at key
      exact key.2
    · exact absurd hyi.1 (by rw [hw]; simp)
  rw [hval]; exact h
theorem os_two {i j : Nat} {ks ls : List Nat} {r s : OS} {o o' : Oper} {a : Act} {w : World} (ho : ops.toList[i]? = some o) (ho' : ops.toList[j]? = some o') (hw : Region.wanted o (yielded ops a.tmps) = true) (hw' : Region.wanted o' (yielded ops a.tmps) = true)
    (h : ∀ K : Act → World → Prop, (∀ a' w', ((∀ k ∈ ks, S k w → S k w') ∧ wpOS P ops Q S r a' w') → K a' w') → o.wp P a w K Q)
    (h' : ∀ K : Act → World → Prop, (∀ a' w', ((∀ k ∈ ls, S k w → S k w') ∧ wpOS P ops Q S s a' w') → K a' w') → o'.wp P a w K Q) : wpOS P ops Q S (.two i ks r j ls s) a w :=
  ⟨wpOp_run ho hw (h _ fun _ _ h => h), wpOp_run ho' hw' (h' _ fun _ _ h => h)⟩
theorem os_take {i : Nat} {r : OS} {o : Oper} {v : Value} {a : Act} {w : World} (hS : S i w) (ho : ops.toList[i]? = some o) (hg : o.guard = none)
    (hy : ∀ w', S i w' → (execOp a.eval o).run P w' = .ok (.value v) w') (h : wpOS P ops Q S r (a.put o.dst v) w) : wpOS P ops Q S (.take i r) a w :=
  ⟨hS, o, v, by simpa using ho, .inl ⟨by simp [Region.wanted, hg], hy⟩, h⟩
theorem os_move {i d : Nat} {r : OS} {o : Oper} {a : Act} {w : World} (ho : ops.toList[i]? = some o) (hg : o.guard = none) (hd : o.dst = some d) (hlt : d < a.tmps.size)
    (h : ∃ a1, (∀ w', ∀ K : Act → Prop, K a1 → yld P o a w' K) ∧ wpOS P ops Q S r a1 w) : wpOS P ops Q S (.move i r) a w := by
  obtain ⟨a1, hy, h⟩ := h
  have h1 := os_yld (S := fun _ _ => True) (Q := fun _ _ _ => True) (r := .done) (P := P) (i := i) (w := w) (a := a) trivial ho hg hd hlt ⟨a1, fun w' _ => hy w', trivial⟩
  obtain ⟨_, o', v, ho', hyi, _⟩ := h1
  have key := hy w (· = a1) rfl
  refine ⟨o', v, ho', hyi, ?_⟩
  have : o' = o := by
    have e : ops[i]? = some o := by simpa using ho
    rw [e] at ho'; injection ho' with ho'; exact ho'.symm
  subst this
  have hval : a.put o'.dst v = a1 := by
    unfold yld at key
    rcases hyi with hyi | hyi
    · have h2 := hyi.2 w trivial
      rw [h2] at key
      simp only [yldUpon] at key
      exact key.2
    · exact absurd hyi.1 (by simp [Region.wanted, hg])
  rw [hval]; exact h
theorem os_run {i : Nat} {ks : List Nat} {r : OS} {o : Oper} {a : Act} {w : World} (ho : ops.toList[i]? = some o) (hw : Region.wanted o (yielded ops a.tmps) = true)
    (h : ∀ K : Act → World → Prop, (∀ a' w', ((∀ k ∈ ks, S k w → S k w') ∧ wpOS P ops Q S r a' w') → K a' w') → o.wp P a w K Q) : wpOS P ops Q S (.run i ks r) a w :=
  wpOp_run ho hw (h _ fun _ _ h => h)
end
end Go.Proofs.Ytohaaejonlijeaa
