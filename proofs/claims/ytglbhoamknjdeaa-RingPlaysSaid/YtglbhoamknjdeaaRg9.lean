/- The ring's slots, plainly: the ring's map as it reads; which slots there are. -/
import Derived.Test.YtglbhoamknjdeaaRg2
import Derived.Maps.RangeWalk
import Derived.Maps.Ext
import Derived.Lib.SlKeysI
namespace Go.Proofs.Ytglbhoamknjdeaa
open Go.RowKit Go.Maps
open Go.WideElems (Fit rd rg)

def encH (h : Hd) : DataW Unit := .slice [.lit (.int .i64 h.slot), .lit (.int .i64 h.uses), .lit (.bool h.shred)] []
theorem encH_inj {a b : Hd} (h : encH a = encH b) : a = b := by
  obtain ⟨a1, a2, a3⟩ := a; obtain ⟨b1, b2, b3⟩ := b
  simp [encH] at h
  obtain ⟨rfl, rfl, rfl⟩ := h; rfl
def hR (v : Value) : Option (DataW Unit × List MemPlace) :=
  match v with
  | .agg cs => match cs.toList with
    | [.int .i64 a, .int .i64 b, .bool c] => some (encH ⟨a, b, c⟩, [])
    | _ => none
  | _ => none
theorem hR_mk (h : Hd) : hR (hV h) = some (encH h, []) := rfl
theorem hR_inv (v : Value) (y : DataW Unit × List MemPlace) (h : hR v = some y) : ∃ c : Hd, v = hV c := by
  unfold hR at h
  split at h
  · rename_i cs
    split at h
    · rename_i a b c e
      obtain ⟨l⟩ := cs
      simp only at e
      exact ⟨⟨a, b, c⟩, by rw [e]; rfl⟩
    · cases h
  · cases h
noncomputable def litOf (k : Wk) : Lit := (keyOf Try.prog 60 (kV k)).getD (.bool false)
theorem litOf_eq {k : Wk} (h : Fits k) : keyOf Try.prog 60 (kV k) = some (litOf k) := by
  obtain ⟨l, hl⟩ := key_of k h
  unfold litOf; rw [hl]; rfl
theorem litOf_inj {a b : Wk} (ha : Fits a) (hb : Fits b) (h : litOf a = litOf b) : a = b := by
  have h1 := litOf_eq ha
  rw [h] at h1
  exact kV_inj (Try.whoLaw.inj h1 (litOf_eq hb))
theorem litOf_key {k : Wk} (h : Fits k) : WideAt.IsKeyLit (litOf k) := Try.whoLaw.key (litOf_eq h)
noncomputable def ringE (L : List (Wk × Hd)) : List (Lit × DataW Unit) := L.map fun p => (litOf p.1, encH p.2)
noncomputable def ringD (L : List (Wk × Hd)) : DataW Unit := .map ((ringE L).foldr DataW.insert [])
theorem ring_owns {w : World} {b m : Nat} {L : List (Wk × Hd)} (h : RingAt w b m L) (hL : L.length ≤ maxLen) : w.ownsMap Try.prog 60 hR m L.length (ringD L) := by
  obtain ⟨ne, box, ⟨es, clock, hm, he, hst⟩, fit, nd, oh⟩ := h
  have hsz : es.size = L.length := by have e := congrArg List.length he; simpa using e
  have mem : ∀ e ∈ es.toList, ∃ p ∈ L, e.key = kV p.1 ∧ e.val = hV p.2 := by
    intro e hm
    have : (e.key, e.val) ∈ es.toList.map (fun e => (e.key, e.val)) := List.mem_map.2 ⟨e, hm, rfl⟩
    rw [he] at this
    obtain ⟨p, hp, e1⟩ := List.mem_map.1 this
    injection e1 with e1 e2
    exact ⟨p, hp, e1.symm, e2.symm⟩
  refine ⟨es, clock, hm, ⟨by omega, hst, fun x hx => ?_⟩, by omega, ?_⟩
  · obtain ⟨p, hp, e1, e2⟩ := mem x hx
    exact ⟨(litOf p.1, encH p.2), by unfold rd; rw [e1, e2, litOf_eq (fit p hp), hR_mk]; rfl⟩
  · unfold ringD
    congr 2
    have e3 : es.toList.map (rg Try.prog 60 hR) = (es.toList.map (fun e => (e.key, e.val))).map (fun x => (((keyOf Try.prog 60 x.1).bind fun key => (hR x.2).map fun y => (key, y.1)).getD (.bool false, .nil) : Lit × DataW Unit)) := by
      rw [List.map_map]; rfl
    rw [e3, he, List.map_map]
    unfold ringE
    refine List.map_congr_left fun p hp => ?_
    simp only [Function.comp_apply]
    rw [litOf_eq (fit p hp), hR_mk]; rfl
theorem ring_has {L : List (Wk × Hd)} {l : Lit} (h : has (ringD L) l = true) : ∃ p ∈ L, litOf p.1 = l := by
  obtain ⟨x, hx, hs⟩ := List.any_eq_true.1 h
  obtain ⟨p, hp, rfl⟩ := List.mem_map.1 (mem_sorted.1 hx)
  exact ⟨p, hp, WideAt.sameKey_eq hs⟩
theorem ring_has2 {L : List (Wk × Hd)} (hf : ∀ p ∈ L, Fits p.1) {p : Wk × Hd} (hp : p ∈ L) : has (ringD L) (litOf p.1) = true :=
  List.any_eq_true.2 ⟨(litOf p.1, encH p.2), mem_sorted.2 (List.mem_map.2 ⟨p, hp, rfl⟩), WideAt.sameKey_self (litOf_key (hf p hp))⟩
theorem find_mem {l : Lit} {d : DataW Unit} (hl : WideAt.IsKeyLit l) : ∀ {es : List (Lit × DataW Unit)}, es.Pairwise (fun p q => p.1 ≠ q.1) → (l, d) ∈ es → es.find? (fun p => p.1.sameKey l) = some (l, d)
  | [], _, h => by cases h
  | x :: es, hp, h => by
    obtain ⟨h1, h2⟩ := List.pairwise_cons.1 hp
    rcases List.mem_cons.1 h with rfl | h
    · rw [List.find?_cons, WideAt.sameKey_self hl]
    · have hne : x.1 ≠ l := h1 _ h
      rw [List.find?_cons, Maps.sameKey_ne hne]
      exact find_mem hl h2 h
theorem ring_at {L : List (Wk × Hd)} (hf : ∀ p ∈ L, Fits p.1) (hn : (L.map (·.1)).Nodup) {p : Wk × Hd} (hp : p ∈ L) (z : DataW Unit) : (ringD L).atKey (litOf p.1) z = encH p.2 := by
  have hpw : (ringE L).Pairwise (fun p q => p.1 ≠ q.1) := by
    unfold ringE
    rw [List.pairwise_map]
    unfold List.Nodup at hn
    rw [List.pairwise_map] at hn
    refine hn.imp_of_mem fun {a b} ha hb hne e => ?_
    exact hne (litOf_inj (hf a ha) (hf b hb) e)
  have hpw2 : ((ringE L).foldr DataW.insert []).Pairwise (fun p q => p.1 ≠ q.1) := ((WideShapes.sorted_perm (ringE L)).pairwise_iff (fun {_ _} hne => Ne.symm hne)).2 hpw
  have hm : (litOf p.1, encH p.2) ∈ (ringE L).foldr DataW.insert [] := mem_sorted.2 (List.mem_map.2 ⟨p, hp, rfl⟩)
  have := find_mem (litOf_key (hf p hp)) hpw2 hm
  simp [ringD, DataW.atKey, this]
theorem ring_size (L : List (Wk × Hd)) : Maps.size (ringD L) = L.length := by
  show ((ringE L).foldr DataW.insert []).length = L.length
  rw [length_sorted]; simp [ringE]

/-- which slots there are, in order -/
def slotsL (L : List (Wk × Hd)) (sh : Bool) : List Int := ((List.range 64).map fun i : Nat => ((i : Int) + 1)).filter fun s => L.any fun p => (p.2.shred == sh) && (p.2.slot == s)
def SlotsOk (L : List (Wk × Hd)) : Prop := ∀ p ∈ L, 1 ≤ p.2.slot ∧ p.2.slot ≤ 64
theorem up_lt : ((List.range 64).map fun i : Nat => ((i : Int) + 1)).Pairwise (· < ·) := by
  rw [List.pairwise_map]
  exact List.pairwise_lt_range.imp fun {a b} h => by omega
theorem slotsL_lt (L : List (Wk × Hd)) (sh : Bool) : (slotsL L sh).Pairwise (· < ·) := up_lt.filter _
theorem slotsL_nodup (L : List (Wk × Hd)) (sh : Bool) : (slotsL L sh).Nodup := (slotsL_lt L sh).imp fun {a b} h e => by omega
theorem slotsL_mem {L : List (Wk × Hd)} {sh : Bool} (hs : SlotsOk L) (z : Int) : z ∈ slotsL L sh ↔ ∃ p ∈ L, p.2.shred = sh ∧ p.2.slot = z := by
  unfold slotsL
  rw [List.mem_filter, List.any_eq_true]
  constructor
  · rintro ⟨_, p, hp, h⟩
    simp only [Bool.and_eq_true, beq_iff_eq] at h
    exact ⟨p, hp, h⟩
  · rintro ⟨p, hp, h1, h2⟩
    refine ⟨?_, p, hp, by simp [h1, h2]⟩
    have := hs p hp
    rw [List.mem_map]
    exact ⟨(z - 1).toNat, by rw [List.mem_range]; omega, by omega⟩
theorem slotsL_le (L : List (Wk × Hd)) (sh : Bool) : (slotsL L sh).length ≤ 64 := by
  have h := List.length_filter_le (fun s => L.any fun p => (p.2.shred == sh) && (p.2.slot == s)) ((List.range 64).map fun i : Nat => ((i : Int) + 1))
  simpa [slotsL] using h
theorem slotsL_sort {L : List (Wk × Hd)} {sh : Bool} {ss : List Int} (h : (slotsL L sh).Perm ss) : ss.mergeSort leI = slotsL L sh := by
  rw [← mergeSort_of_perm_i h]
  exact List.mergeSort_of_pairwise ((slotsL_lt L sh).imp fun {a b} h => by simp [leI]; omega)
end Go.Proofs.Ytglbhoamknjdeaa
