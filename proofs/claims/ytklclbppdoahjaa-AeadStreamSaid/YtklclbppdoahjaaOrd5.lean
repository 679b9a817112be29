/- As Ord3, parted where three loud operations may come in any order. -/
import Derived.Test.YtklclbppdoahjaaOrd3
namespace Go.Proofs.Ytklclbppdoahjaa
set_option maxRecDepth 100000
open Go.RowKit
section
variable {P : Program} {ops : Array Oper} {Q : Exit → Act → World → Prop} {md : Region.Mode} {S : Nat → World → Prop} {ts : List Nat}

inductive O3 where
  | os (r : OS)
  | pre (r : OS) (m : O3)
  | three (i : Nat) (ks : List Nat) (r : O3) (j : Nat) (ls : List Nat) (s : O3) (k : Nat) (ms : List Nat) (t : O3)

def O3.size : O3 → Nat
  | .os r => r.size
  | .pre r m => r.size + m.size
  | .three _ _ r _ _ _ _ _ _ => r.size + 1

def preB (md : Region.Mode) (ops : Array Oper) (ts : List Nat) : OS → Array Bool → Option (Array Bool)
  | .done, listed => some listed
  | .take i r, listed => if ((Region.ready md ops listed).contains i && Region.free md ops listed i && ts.contains i) = true then preB md ops ts r (listed.setIfInBounds i true) else none
  | .move i r, listed => if ((Region.ready md ops listed).contains i && Region.free md ops listed i) = true then preB md ops ts r (listed.setIfInBounds i true) else none
  | .run .., _ => none
  | .two .., _ => none

def o3B (md : Region.Mode) (ops : Array Oper) (ts : List Nat) : O3 → Array Bool → Bool
  | .os r, listed => osB md ops ts r listed
  | .pre r m, listed => match preB md ops ts r listed with
    | some l => o3B md ops ts m l
    | none => false
  | .three i ks r j ls s k ms t, listed => decide (Region.ready md ops listed = [i, j, k]) && decide (r.size = s.size) && decide (r.size = t.size) && keepB md ops ts i ks && keepB md ops ts j ls && keepB md ops ts k ms
      && o3B md ops ts r (listed.setIfInBounds i true) && o3B md ops ts s (listed.setIfInBounds j true) && o3B md ops ts t (listed.setIfInBounds k true)

def wpO3 (P : Program) (ops : Array Oper) (Q : Exit → Act → World → Prop) (S : Nat → World → Prop) : O3 → Act → World → Prop
  | .os r, a, w => wpOS P ops Q S r a w
  | .pre r m, a, w => wpOS P ops (fun _ a w => wpO3 P ops Q S m a w) S r a w
  | .three i ks r j ls s k ms t, a, w => wpOp P ops Q i (fun a' w' => (∀ k ∈ ks, S k w → S k w') ∧ wpO3 P ops Q S r a' w') a w ∧ wpOp P ops Q j (fun a' w' => (∀ k ∈ ls, S k w → S k w') ∧ wpO3 P ops Q S s a' w') a w
      ∧ wpOp P ops Q k (fun a' w' => (∀ k ∈ ms, S k w → S k w') ∧ wpO3 P ops Q S t a' w') a w

theorem pre_of (hs : Region.noSelect ops = true) (hQ : ∀ c a d v w, Q (.panic c) (Act.put a (some d) v) w → Q (.panic c) a w) (Q0 : Exit → Act → World → Prop) (m : Nat) (l' : Array Bool)
    (hk : ∀ a' w', Q0 .normal a' w' → OrdS P md ops Q S ts m l' a' w') : ∀ (r : OS) (listed : Array Bool) (a : Act) (w : World),
    preB md ops ts r listed = some l' → wpOS P ops Q0 S r a w → OrdS P md ops Q S ts (r.size + m) listed a w
  | .done, listed, a, w, hB, h => by
    simp only [preB, Option.some.injEq] at hB
    subst hB
    rw [show OS.done.size + m = m from Nat.zero_add m]
    exact hk a w h
  | .take i r, listed, a, w, hB, h => by
    unfold preB at hB
    split at hB
    · rename_i hc
      simp only [Bool.and_eq_true] at hc
      obtain ⟨⟨hr, hf⟩, hts⟩ := hc
      obtain ⟨hS, o, v, ho, hy, h'⟩ := h
      rw [show (OS.take i r).size + m = (r.size + m) + 1 by show r.size + 1 + m = _; omega]
      exact ordS_first ho (Region.noSelect_spec hs) (.inl ⟨by simpa using hts, rfl⟩) (fun c a w => by cases hd : o.dst with
        | none => exact id
        | some d => exact hQ c a d v w) (r.size + m) listed a w (Region.free_spec ho hf) (by simpa using hr) hy hS
        (pre_of hs hQ Q0 m l' hk r _ _ w hB h')
    · cases hB
  | .move i r, listed, a, w, hB, h => by
    unfold preB at hB
    split at hB
    · rename_i hc
      simp only [Bool.and_eq_true] at hc
      obtain ⟨hr, hf⟩ := hc
      obtain ⟨o, v, ho, hy, h'⟩ := h
      rw [show (OS.move i r).size + m = (r.size + m) + 1 by show r.size + 1 + m = _; omega]
      exact ordS_first ho (Region.noSelect_spec hs) (.inr fun _ => trivial) (fun c a w => by cases hd : o.dst with
        | none => exact id
        | some d => exact hQ c a d v w) (r.size + m) listed a w (Region.free_spec ho hf) (by simpa using hr) hy trivial
        (pre_of hs hQ Q0 m l' hk r _ _ w hB h')
    · cases hB
  | .run .., _, _, _, hB, _ => by cases hB
  | .two .., _, _, _, hB, _ => by cases hB

theorem o3_of (hs : Region.noSelect ops = true) (hQ : ∀ c a d v w, Q (.panic c) (Act.put a (some d) v) w → Q (.panic c) a w) : ∀ (r : O3) (listed : Array Bool) (a : Act) (w : World),
    o3B md ops ts r listed = true → wpO3 P ops Q S r a w → OrdS P md ops Q S ts r.size listed a w
  | .os r, listed, a, w, hB, h => os_of hs hQ r listed a w hB h
  | .pre r m, listed, a, w, hB, h => by
    unfold o3B at hB
    split at hB
    · rename_i l hl
      exact pre_of hs hQ _ m.size l (fun a' w' h' => o3_of hs hQ m l a' w' hB h') r listed a w hl h
    · cases hB
  | .three i ks r j ls s k ms t, listed, a, w, hB, h => by
    simp only [o3B, Bool.and_eq_true, decide_eq_true_eq] at hB
    obtain ⟨⟨⟨⟨⟨⟨⟨⟨hr, hsz⟩, hsz2⟩, hk1⟩, hk2⟩, hk3⟩, hB1⟩, hB2⟩, hB3⟩ := hB
    refine ⟨fun h0 => (by rw [hr] at h0; cases h0), fun q hq => ?_⟩
    rw [hr] at hq
    simp only [List.mem_cons, List.not_mem_nil, or_false] at hq
    rcases hq with rfl | rfl | rfl
    · exact wpOp_mono (fun a' w' h' => ⟨keep_of hk1 h'.1, o3_of hs hQ r _ a' w' hB1 h'.2⟩) h.1
    · refine wpOp_mono (fun a' w' h' => ⟨keep_of hk2 h'.1, ?_⟩) h.2.1
      have h2 := o3_of hs hQ s _ a' w' hB2 h'.2
      show OrdS P md ops Q S ts r.size _ a' w'
      rw [hsz]; exact h2
    · refine wpOp_mono (fun a' w' h' => ⟨keep_of hk3 h'.1, ?_⟩) h.2.2
      have h2 := o3_of hs hQ t _ a' w' hB3 h'.2
      show OrdS P md ops Q S ts r.size _ a' w'
      rw [hsz2]; exact h2

/-- THE BEGINNING. -/
theorem wp_region_o3 {id : Nat} {l : List Oper} {a : Act} {w : World} (S : Nat → World → Prop) (ts : List Nat) (r : O3) (hm : P.follows .mixedOrders = true)
    (hB : (Region.noSelect l.toArray && decide (r.size = l.length) && o3B .any l.toArray ts r (Array.replicate l.length false)) = true)
    (hQ : ∀ c a d v w, Q (.panic c) (Act.put a (some d) v) w → Q (.panic c) a w)
    (h : wpO3 P l.toArray Q S r a w.drew) : (Code.region id l.toArray true).wp P Q a w := by
  simp only [Bool.and_eq_true, decide_eq_true_eq] at hB
  refine wp_region_any hm ?_
  have h1 := o3_of (md := .any) hB.1.1 hQ r _ a _ hB.2 h
  rw [hB.1.2] at h1
  have h2 := any_of_ordS _ _ _ _ h1
  simpa using h2
theorem o3_pre {r : OS} {m : O3} {a : Act} {w : World} (h : wpOS P ops (fun _ a w => wpO3 P ops Q S m a w) S r a w) : wpO3 P ops Q S (.pre r m) a w := h
theorem o3_os {r : OS} {a : Act} {w : World} (h : wpOS P ops Q S r a w) : wpO3 P ops Q S (.os r) a w := h
theorem o3_done {m : O3} {a : Act} {w : World} (h : wpO3 P ops Q S m a w) : wpOS P ops (fun _ a w => wpO3 P ops Q S m a w) S .done a w := h
theorem o3_three {i j k : Nat} {ks ls ms : List Nat} {r s t : O3} {o o' o'' : Oper} {a : Act} {w : World} (ho : ops.toList[i]? = some o) (ho' : ops.toList[j]? = some o') (ho'' : ops.toList[k]? = some o'')
    (hw : Region.wanted o (yielded ops a.tmps) = true) (hw' : Region.wanted o' (yielded ops a.tmps) = true) (hw'' : Region.wanted o'' (yielded ops a.tmps) = true)
    (h : ∀ K : Act → World → Prop, (∀ a' w', ((∀ k ∈ ks, S k w → S k w') ∧ wpO3 P ops Q S r a' w') → K a' w') → o.wp P a w K Q)
    (h' : ∀ K : Act → World → Prop, (∀ a' w', ((∀ k ∈ ls, S k w → S k w') ∧ wpO3 P ops Q S s a' w') → K a' w') → o'.wp P a w K Q)
    (h'' : ∀ K : Act → World → Prop, (∀ a' w', ((∀ k ∈ ms, S k w → S k w') ∧ wpO3 P ops Q S t a' w') → K a' w') → o''.wp P a w K Q) : wpO3 P ops Q S (.three i ks r j ls s k ms t) a w :=
  ⟨wpOp_run ho hw (h _ fun _ _ h => h), wpOp_run ho' hw' (h' _ fun _ _ h => h), wpOp_run ho'' hw'' (h'' _ fun _ _ h => h)⟩
end
end Go.Proofs.Ytklclbppdoahjaa
