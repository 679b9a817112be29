/- As Ord3, but a loud operation keeps what is asked for those alone that it does not wait for through others either. -/
import Derived.Test.YtnejcciociinmaaOrd3
namespace Go.Proofs.Ytnejcciociinmaa
open Go.RowKit
section
variable {P : Program} {ops : Array Oper} {Q : Exit → Act → World → Prop} {md : Region.Mode} {S : Nat → World → Prop} {ts : List Nat}

/-- one waits for another, through others too -/
inductive Reach (md : Region.Mode) (ops : Array Oper) : Nat → Nat → Prop
  | one {j i : Nat} (h : Region.waitsFor md ops j i = true) : Reach md ops j i
  | cons {j k i : Nat} (h : Region.waitsFor md ops j k = true) (r : Reach md ops k i) : Reach md ops j i
def Closed (md : Region.Mode) (ops : Array Oper) (listed : Array Bool) : Prop := ∀ k i, listed.getD k false = true → Region.waitsFor md ops k i = true → listed.getD i false = true
theorem ready_waits {j i : Nat} {listed : Array Bool} (hj : j ∈ Region.ready md ops listed) (h : Region.waitsFor md ops j i = true) : listed.getD i false = true := by
  obtain ⟨_, o, ho, hall⟩ := mem_ready.1 hj
  obtain ⟨o', ho', e, he, hb, hon⟩ := Region.waitsFor_spec h
  have : o' = o := Option.some.inj (ho'.symm.trans ho)
  subst this
  rw [← hon]; exact hall e he hb
theorem reach_listed {j i : Nat} {listed : Array Bool} (hc : Closed md ops listed) (r : Reach md ops j i) : (∀ i, Region.waitsFor md ops j i = true → listed.getD i false = true) → listed.getD i false = true := by
  induction r with
  | one h => exact fun hj => hj _ h
  | cons h _ ih => exact fun hj => ih (fun i hi => hc _ i (hj _ h) hi)
theorem getD_ft {listed : Array Bool} {i : Nat} (h : listed.getD i false = true) : listed.getD i true = true := by
  rcases Nat.lt_or_ge i listed.size with h' | h'
  · simp [h'] at h ⊢; exact h
  · simp [Array.getElem?_eq_none h'] at h
theorem Closed.set {j : Nat} {listed : Array Bool} (hc : Closed md ops listed) (hj : j ∈ Region.ready md ops listed) : Closed md ops (listed.setIfInBounds j true) := by
  intro k i hk hw
  by_cases hjk : j = k
  · subst hjk; exact getD_set_true (ready_waits hj hw)
  · rw [getD_set_ne false hjk] at hk
    exact getD_set_true (hc k i hk hw)
def chainOk (md : Region.Mode) (ops : Array Oper) (i : Nat) : Nat → List Nat → Bool
  | j, [] => Region.waitsFor md ops j i
  | j, k :: c => Region.waitsFor md ops j k && chainOk md ops i k c
theorem reach_of_chain {i : Nat} : ∀ (c : List Nat) (j : Nat), chainOk md ops i j c = true → Reach md ops j i
  | [], j, h => .one h
  | k :: c, j, h => by
    simp only [chainOk, Bool.and_eq_true] at h
    exact .cons h.1 (reach_of_chain c k h.2)
def KeepC (md : Region.Mode) (ops : Array Oper) (S : Nat → World → Prop) (ts : List Nat) (j : Nat) (w w' : World) : Prop := ∀ i ∈ ts, ¬ Reach md ops j i → S i w → S i w'

def OrdC (P : Program) (md : Region.Mode) (ops : Array Oper) (Q : Exit → Act → World → Prop) (S : Nat → World → Prop) (ts : List Nat) : Nat → Array Bool → Act → World → Prop
  | 0, listed, a, w => Region.ready md ops listed = [] ∧ Q .normal a w
  | f + 1, listed, a, w =>
    (Region.ready md ops listed = [] → Q .normal a w) ∧
    ∀ i ∈ Region.ready md ops listed, wpOp P ops Q i (fun a' w' => KeepC md ops S ts i w w' ∧ OrdC P md ops Q S ts f (listed.setIfInBounds i true) a' w') a w

theorem any_of_ordC : ∀ (f : Nat) (listed : Array Bool) (a : Act) (w : World), OrdC P md ops Q S ts f listed a w → wpAny P md ops Q f listed a w
  | 0, _, _, _, h => h
  | f + 1, _, _, _, h => ⟨h.1, fun i hi => wpOp_mono (fun a' w' h' => any_of_ordC f _ a' w' h'.2) (h.2 i hi)⟩

theorem ordC_first {i : Nat} {oi : Oper} {v : Value} {Si : World → Prop} (hi : ops[i]? = some oi) (hsel : ∀ (j : Nat) (o : Oper) cs b, ops[j]? = some o → o.op ≠ .select cs b)
    (hts : (i ∈ ts ∧ Si = S i) ∨ ∀ w, Si w) (hQ : ∀ c a w, Q (.panic c) (a.put oi.dst v) w → Q (.panic c) a w) :
    ∀ (f : Nat) (listed : Array Bool) (a : Act) (w : World),
      (∀ j oj, ops[j]? = some oj → j ≠ i → listed.getD j true = false → (∀ e ∈ oj.after, Region.binds md e = true → e.on ≠ i) → oi.apart ops oj = true) →
      Closed md ops listed → i ∈ Region.ready md ops listed → YieldsIf P ops Si oi v a → Si w →
      OrdC P md ops Q S ts f (listed.setIfInBounds i true) (a.put oi.dst v) w → OrdC P md ops Q S ts (f + 1) listed a w := by
  intro f
  induction f with
  | zero =>
    intro listed a w _ _ hr hy hS H
    refine ⟨fun h => (by rw [h] at hr; cases hr), fun j hj => ?_⟩
    by_cases hji : j = i
    · subst hji; exact hy.wpOp hi hS ⟨fun _ _ _ h => h, H⟩
    · have := ready_mono hj hji
      rw [H.1] at this
      cases this
  | succ f ih =>
    intro listed a w hfree hcl hr hy hS H
    refine ⟨fun h => (by rw [h] at hr; cases hr), fun j hj => ?_⟩
    by_cases hji : j = i
    · subst hji; exact hy.wpOp hi hS ⟨fun _ _ _ h => h, H⟩
    · have h1 := H.2 j (ready_mono hj hji)
      obtain ⟨hjun, oj, hoj, hall⟩ := mem_ready.1 hj
      have hnot : ∀ e ∈ oj.after, Region.binds md e = true → e.on ≠ i := fun e he hb heq => by
        have h1 := hall e he hb
        have h0 := (mem_ready.1 hr).1
        rw [heq] at h1
        rcases Nat.lt_or_ge i listed.size with h' | h'
        · simp [h'] at h0 h1; rw [h0] at h1; cases h1
        · simp [Array.getElem?_eq_none h'] at h1
      have hwn : ¬ Reach md ops j i := fun r => by
        have h1 := getD_ft (reach_listed hcl r (fun k hk => ready_waits hj hk))
        have h0 := (mem_ready.1 hr).1
        rw [h0] at h1; cases h1
      have h2 := wpOp_putIf hoj (hfree j oj hoj hji hjun hnot) (fun cs b => hsel i oi cs b hi) (fun cs b => hsel j oj cs b hoj) hQ hy h1
      have hfree' : ∀ k ok, ops[k]? = some ok → k ≠ i → (listed.setIfInBounds j true).getD k true = false →
          (∀ e ∈ ok.after, Region.binds md e = true → e.on ≠ i) → oi.apart ops ok = true := fun k ok hk hki hun hno => by
        refine hfree k ok hk hki ?_ hno
        by_cases hjk : j = k
        · subst hjk; exact hjun
        · rw [getD_set_ne true hjk] at hun; exact hun
      refine wpOp_mono (fun a' w' h3 => ⟨h3.2.1, ih (listed.setIfInBounds j true) a' w' hfree' (hcl.set hj) (ready_mono hr (Ne.symm hji)) h3.1 ?_ ?_⟩) h2
      · rcases hts with ⟨hm, rfl⟩ | ht
        · exact h3.2.1 i hm hwn hS
        · exact ht w'
      · rw [Array.setIfInBounds_comm _ _ hji]
        exact h3.2.2

def keepC (md : Region.Mode) (ops : Array Oper) (ts : List Nat) (cert : List (Nat × Nat × List Nat)) (j : Nat) (ks : List Nat) : Bool :=
  ts.all fun i => ks.contains i || Region.waitsFor md ops j i || cert.any fun c => c.1 == j && c.2.1 == i && chainOk md ops i j c.2.2

def osC (md : Region.Mode) (ops : Array Oper) (ts : List Nat) (cert : List (Nat × Nat × List Nat)) : OS → Array Bool → Bool
  | .done, listed => (Region.ready md ops listed).isEmpty
  | .take i r, listed => (Region.ready md ops listed).contains i && Region.free md ops listed i && ts.contains i && osC md ops ts cert r (listed.setIfInBounds i true)
  | .move i r, listed => (Region.ready md ops listed).contains i && Region.free md ops listed i && osC md ops ts cert r (listed.setIfInBounds i true)
  | .run i ks r, listed => decide (Region.ready md ops listed = [i]) && keepC md ops ts cert i ks && osC md ops ts cert r (listed.setIfInBounds i true)
  | .two i ks r j ls s, listed => decide (Region.ready md ops listed = [i, j]) && decide (r.size = s.size) && keepC md ops ts cert i ks && keepC md ops ts cert j ls && osC md ops ts cert r (listed.setIfInBounds i true) && osC md ops ts cert s (listed.setIfInBounds j true)

theorem keep_ofC {cert : List (Nat × Nat × List Nat)} {j : Nat} {ks : List Nat} {w w' : World} (hB : keepC md ops ts cert j ks = true) (h : ∀ k ∈ ks, S k w → S k w') : KeepC md ops S ts j w w' := fun i hi hw => by
  have := List.all_eq_true.1 hB i hi
  simp only [Bool.or_eq_true, List.any_eq_true, Bool.and_eq_true, beq_iff_eq] at this
  rcases this with (h1 | h1) | ⟨c, _, ⟨h1, h2⟩, h3⟩
  · exact h i (by simpa using h1)
  · exact absurd (.one h1) hw
  · exact absurd (reach_of_chain _ _ h3) hw

theorem osC_of {cert : List (Nat × Nat × List Nat)} (hs : Region.noSelect ops = true) (hQ : ∀ c a d v w, Q (.panic c) (Act.put a (some d) v) w → Q (.panic c) a w) : ∀ (r : OS) (listed : Array Bool) (a : Act) (w : World),
    osC md ops ts cert r listed = true → Closed md ops listed → wpOS P ops Q S r a w → OrdC P md ops Q S ts r.size listed a w
  | .done, listed, a, w, hB, _, h => ⟨by simpa [osC] using hB, h⟩
  | .take i r, listed, a, w, hB, hcl, h => by
    simp only [osC, Bool.and_eq_true] at hB
    obtain ⟨⟨⟨hr, hf⟩, hts⟩, hB'⟩ := hB
    obtain ⟨hS, o, v, ho, hy, h'⟩ := h
    exact ordC_first ho (Region.noSelect_spec hs) (.inl ⟨by simpa using hts, rfl⟩) (fun c a w => by cases hd : o.dst with
      | none => exact id
      | some d => exact hQ c a d v w) r.size listed a w (Region.free_spec ho hf) hcl (by simpa using hr) hy hS
      (osC_of hs hQ r _ _ w hB' (hcl.set (by simpa using hr)) h')
  | .move i r, listed, a, w, hB, hcl, h => by
    simp only [osC, Bool.and_eq_true] at hB
    obtain ⟨⟨hr, hf⟩, hB'⟩ := hB
    obtain ⟨o, v, ho, hy, h'⟩ := h
    exact ordC_first ho (Region.noSelect_spec hs) (.inr fun _ => trivial) (fun c a w => by cases hd : o.dst with
      | none => exact id
      | some d => exact hQ c a d v w) r.size listed a w (Region.free_spec ho hf) hcl (by simpa using hr) hy trivial
      (osC_of hs hQ r _ _ w hB' (hcl.set (by simpa using hr)) h')
  | .run i ks r, listed, a, w, hB, hcl, h => by
    simp only [osC, Bool.and_eq_true, decide_eq_true_eq] at hB
    obtain ⟨⟨hr, hk⟩, hB'⟩ := hB
    refine ⟨fun h0 => (by rw [hr] at h0; cases h0), fun j hj => ?_⟩
    rw [hr] at hj
    have : j = i := by simpa using hj
    subst this
    exact wpOp_mono (fun a' w' h' => ⟨keep_ofC hk h'.1, osC_of hs hQ r _ a' w' hB' (hcl.set (by rw [hr]; simp)) h'.2⟩) h
  | .two i ks r j ls s, listed, a, w, hB, hcl, h => by
    simp only [osC, Bool.and_eq_true, decide_eq_true_eq] at hB
    obtain ⟨⟨⟨⟨⟨hr, hsz⟩, hk1⟩, hk2⟩, hB1⟩, hB2⟩ := hB
    refine ⟨fun h0 => (by rw [hr] at h0; cases h0), fun k hk => ?_⟩
    rw [hr] at hk
    simp only [List.mem_cons, List.not_mem_nil, or_false] at hk
    rcases hk with rfl | rfl
    · exact wpOp_mono (fun a' w' h' => ⟨keep_ofC hk1 h'.1, osC_of hs hQ r _ a' w' hB1 (hcl.set (by rw [hr]; simp)) h'.2⟩) h.1
    · refine wpOp_mono (fun a' w' h' => ⟨keep_ofC hk2 h'.1, ?_⟩) h.2
      have h2 := osC_of hs hQ s _ a' w' hB2 (hcl.set (by rw [hr]; simp)) h'.2
      show OrdC P md ops Q S ts r.size _ a' w'
      rw [hsz]; exact h2

/-- THE BEGINNING. -/
theorem wp_region_oc {id : Nat} {l : List Oper} {a : Act} {w : World} (S : Nat → World → Prop) (ts : List Nat) (cert : List (Nat × Nat × List Nat)) (r : OS) (hm : P.follows .mixedOrders = true)
    (hB : (Region.noSelect l.toArray && decide (r.size = l.length) && osC .any l.toArray ts cert r (Array.replicate l.length false)) = true)
    (hQ : ∀ c a d v w, Q (.panic c) (Act.put a (some d) v) w → Q (.panic c) a w)
    (h : wpOS P l.toArray Q S r a w.drew) : (Code.region id l.toArray true).wp P Q a w := by
  simp only [Bool.and_eq_true, decide_eq_true_eq] at hB
  refine wp_region_any hm ?_
  have h1 := osC_of (md := .any) hB.1.1 hQ r _ a _ hB.2 (by intro k i hk; exfalso; rw [Array.getD_eq_getD_getElem?, Array.getElem?_replicate] at hk; split at hk <;> cases hk) h
  rw [hB.1.2] at h1
  have h2 := any_of_ordC _ _ _ _ h1
  simpa using h2
end
end Go.Proofs.Ytnejcciociinmaa
