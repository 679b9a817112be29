/- The ring in memory: a map by pairs of texts. -/
import Derived.Test.YtglbhoamknjdeaaReg
import Derived.DeepKeys4
import Derived.Maps.Keyed
namespace Go.Proofs.Ytglbhoamknjdeaa
open Go.RowKit

/-- a hold -/
structure Hd where
  slot : Int
  uses : Int
  shred : Bool
  deriving DecidableEq
abbrev Wk : Type := ByteArray × ByteArray
def kV (k : Wk) : Value := .agg #[.string k.1, .string k.2]
def hC (h : Hd) : Array Value := #[.int .i64 h.slot, .int .i64 h.uses, .bool h.shred]
def hV (h : Hd) : Value := .agg (hC h)
def hd0 : Hd := ⟨0, 0, false⟩
theorem kV_inj {a b : Wk} (h : kV a = kV b) : a = b := by
  obtain ⟨a1, a2⟩ := a; obtain ⟨b1, b2⟩ := b
  simp [kV] at h
  obtain ⟨rfl, rfl⟩ := h; rfl
theorem hV_inj {a b : Hd} (h : hV a = hV b) : a = b := by
  obtain ⟨a1, a2, a3⟩ := a; obtain ⟨b1, b2, b3⟩ := b
  simp [hV, hC] at h
  obtain ⟨rfl, rfl, rfl⟩ := h; rfl

theorem Try.laidOutR : laidOutB Try.prog = true := by kernel_rfl
theorem Try.whoRow : (60 : TypeId) < Try.prog.types.size := of_decide_eq_true (by kernel_rfl)
theorem Try.whoWide : (match Try.prog.underlying 60 with | some (.array _ _) | some (.struct _) => true | _ => false) = true := by kernel_rfl
theorem Try.whoLaw : Maps.Keyed Try.prog 60 := Maps.Keyed.of_law (deep_law_laid Try.laidOutR (m := 3) (by omega) Try.whoRow (by kernel_rfl) Try.whoWide)
theorem Try.whoKey : Try.prog.keyType 60 = true := by kernel_rfl
theorem Try.whoCells : Try.prog.cellsOf 60 = 2 := by kernel_rfl
theorem Try.strCells : Try.prog.cellsOf 9 = 1 := by kernel_rfl
theorem who_fields : ∃ fs, Try.prog.underlying 60 = some (.struct fs) ∧ fs.toList.map (fun f => (f.type, f.offset)) = [(9, 0), (9, 1)] ∧ fs.all (·.name != "_") = true := ⟨_, Try.underlying60, by kernel_rfl, by kernel_rfl⟩
def Fits (k : Wk) : Prop := k.1.size ≤ maxLen ∧ k.2.size ≤ maxLen
theorem lits_str (d : Nat) (s : ByteArray) (h : s.size ≤ maxLen) : Try.prog.keyLits (d + 1) 9 [.string s] = some [.string s.data.toList] := by
  simp [Program.keyLits, Try.underlying9, h]
theorem key_of (k : Wk) (h : Fits k) : ∃ l, keyOf Try.prog 60 (kV k) = some l := by
  obtain ⟨fs, hu, hf, hn⟩ := who_fields
  obtain ⟨n, hn2⟩ : ∃ n, Try.prog.types.size = n + 1 := Nat.exists_eq_succ_of_ne_zero (Nat.ne_of_gt (Nat.lt_of_le_of_lt (Nat.zero_le _) Try.whoRow))
  have hform : (kV k).formed Try.prog 60 = true := by simp [kV, Value.formed, hu, Try.whoCells]
  obtain ⟨f0, f1, rfl, e0, e1⟩ : ∃ f0 f1, fs = #[f0, f1] ∧ (f0.type, f0.offset) = ((9 : TypeId), 0) ∧ (f1.type, f1.offset) = ((9 : TypeId), 1) := by
    obtain ⟨l⟩ := fs
    match l, hf with
    | [f0, f1], hf => simp at hf; exact ⟨f0, f1, rfl, by simp [hf.1], by simp [hf.2]⟩
  simp only [Prod.mk.injEq] at e0 e1
  have hl : Try.prog.keyLits (Try.prog.types.size + 1) 60 (kV k).cells.toList = some ([.string k.1.data.toList] ++ [.string k.2.data.toList]) := by
    rw [hn2]
    have h1 := lits_str n k.1 h.1
    have h2 := lits_str n k.2 h.2
    rw [show (kV k).cells.toList = [.string k.1, .string k.2] from rfl]
    unfold Program.keyLits
    rw [hu]
    simp only
    rw [if_pos ⟨by rw [Try.whoCells]; rfl, hn⟩]
    simp [e0.1, e0.2, e1.1, e1.2, Try.strCells, h1, h2]
  unfold keyOf
  rw [hu]
  simp only [Try.whoKey, hform, Bool.and_self, if_true, hl, Option.map_some]
  exact ⟨_, rfl⟩

/-- what is known of a subject -/
def look (L : List (Wk × Hd)) (k : Wk) : Option Hd := (L.find? (fun p => decide (p.1 = k))).map (·.2)
def putR (L : List (Wk × Hd)) (k : Wk) (h : Hd) : List (Wk × Hd) := if (look L k).isSome then L.map (fun p => if p.1 = k then (k, h) else p) else L ++ [(k, h)]
theorem look_none {L : List (Wk × Hd)} {k : Wk} : look L k = none ↔ ∀ p ∈ L, p.1 ≠ k := by
  unfold look
  rw [Option.map_eq_none_iff, List.find?_eq_none]
  simp
theorem look_mem {L : List (Wk × Hd)} {k : Wk} {h : Hd} (hn : (L.map (·.1)).Nodup) (hm : (k, h) ∈ L) : look L k = some h := by
  induction L with
  | nil => cases hm
  | cons p L ih =>
    rw [List.map_cons, List.nodup_cons] at hn
    unfold look
    rw [List.find?_cons]
    by_cases hp : p.1 = k
    · rw [decide_eq_true hp]
      rcases List.mem_cons.1 hm with rfl | hm
      · rfl
      · exact absurd (List.mem_map.2 ⟨_, hm, rfl⟩) (by rw [← hp] at hm ⊢; exact hn.1)
    · rw [decide_eq_false hp]
      rcases List.mem_cons.1 hm with rfl | hm
      · exact absurd rfl hp
      · exact ih hn.2 hm
theorem putR_keys {L : List (Wk × Hd)} {k : Wk} {h : Hd} : (putR L k h).map (·.1) = if (look L k).isSome then L.map (·.1) else L.map (·.1) ++ [k] := by
  unfold putR
  split
  · rw [List.map_map]
    apply List.map_congr_left
    intro p _
    simp only [Function.comp_apply]
    split
    · rename_i e; exact e.symm
    · rfl
  · simp
theorem putR_nodup {L : List (Wk × Hd)} {k : Wk} {h : Hd} (hn : (L.map (·.1)).Nodup) : ((putR L k h).map (·.1)).Nodup := by
  rw [putR_keys]
  split
  · exact hn
  · rename_i hs
    have hz : look L k = none := by simpa using hs
    rw [look_none] at hz
    rw [List.nodup_append]
    refine ⟨hn, by simp, ?_⟩
    intro a ha b hb e
    simp at hb
    subst hb; subst e
    obtain ⟨p, hp, e⟩ := List.mem_map.1 ha
    exact hz p hp e
theorem look_append {L : List (Wk × Hd)} {k : Wk} {h : Hd} (k' : Wk) : look (L ++ [(k, h)]) k' = (look L k').or (if k' = k then some h else none) := by
  unfold look
  rw [List.find?_append, Option.map_or]
  congr 1
  by_cases e : k' = k
  · subst e; simp
  · have : ¬ k = k' := fun h => e h.symm
    simp [this, e]
theorem look_map {k : Wk} {h : Hd} (k' : Wk) : ∀ L : List (Wk × Hd), look (L.map (fun p => if p.1 = k then (k, h) else p)) k' = if k' = k ∧ (look L k).isSome then some h else look L k'
  | [] => by simp [look]
  | p :: L => by
    have ih := look_map (k := k) (h := h) k' L
    unfold look at ih ⊢
    rw [List.map_cons, List.find?_cons, List.find?_cons, List.find?_cons]
    by_cases hp : p.1 = k
    · by_cases hk : k' = k
      · subst hk; simp [hp]
      · have h1 : ¬ k = k' := fun h => hk h.symm
        have h2 : ¬ p.1 = k' := by rw [hp]; exact h1
        simp only [if_pos hp, decide_eq_false h1, decide_eq_false h2, hk, false_and, if_false]
        simpa [hk] using ih
    · simp only [if_neg hp, decide_eq_false hp]
      by_cases hk : p.1 = k'
      · have : k' ≠ k := fun e => hp (hk.trans e)
        simp [hk, this]
      · simp only [decide_eq_false hk]
        exact ih
theorem look_put {L : List (Wk × Hd)} {k : Wk} {h : Hd} (k' : Wk) : look (putR L k h) k' = if k' = k then some h else look L k' := by
  unfold putR
  split
  · rename_i hs
    rw [look_map]
    simp only [hs, and_true]
  · rename_i hs
    have hz : look L k = none := by simpa using hs
    rw [look_append]
    by_cases e : k' = k
    · subst e; simp [hz]
    · simp [e]

/-- the ring: its block, its map's, what is known -/
structure RingAt (w : World) (b m : Nat) (L : List (Wk × Hd)) : Prop where
  ne : b ≠ m
  box : w.heap[b]? = some (.cells #[.map (some m)] 58 (0, 0))
  map : ∃ es clock, w.heap[m]? = some (.map es clock) ∧ es.toList.map (fun e => (e.key, e.val)) = L.map (fun p => (kV p.1, hV p.2)) ∧ MapKept.Stamped es clock
  fit : ∀ p ∈ L, Fits p.1
  nodup : (L.map (·.1)).Nodup
  okh : ∀ p ∈ L, 0 ≤ p.2.uses ∧ p.2.uses ≤ 200
theorem look_of {L : List (Wk × Hd)} {k : Wk} {h : Hd} (e : look L k = some h) : (k, h) ∈ L := by
  unfold look at e
  rw [Option.map_eq_some_iff] at e
  obtain ⟨p, hp, rfl⟩ := e
  have h1 := List.find?_some hp
  have h2 := List.mem_of_find?_eq_some hp
  have h3 : p.1 = k := of_decide_eq_true h1
  rw [← h3]; exact h2
theorem RingAt.fr {w w' : World} {b m : Nat} {L : List (Wk × Hd)} {M : Nat → Prop} (h : RingAt w b m L) (hf : Fr M w w') (h1 : ¬ M b) (h2 : ¬ M m) : RingAt w' b m L := by
  obtain ⟨ne, box, ⟨es, clock, hm, he, hst⟩, fit, nd, oh⟩ := h
  exact ⟨ne, (hf.block _ (Array.getElem?_eq_some_iff.1 box).1 h1).trans box, ⟨es, clock, (hf.block _ (Array.getElem?_eq_some_iff.1 hm).1 h2).trans hm, he, hst⟩, fit, nd, oh⟩
theorem RingAt.bel {w w' : World} {b m : Nat} {L : List (Wk × Hd)} (h : RingAt w b m L) (hb : Below w.heap.size w w') : RingAt w' b m L := h.fr (Fr.of_below (M := NoB) hb) id id
theorem RingAt.lt {w : World} {b m : Nat} {L : List (Wk × Hd)} (h : RingAt w b m L) : b < w.heap.size ∧ m < w.heap.size := by
  obtain ⟨ne, box, ⟨es, clock, hm, he, hst⟩, fit, nd, oh⟩ := h
  exact ⟨(Array.getElem?_eq_some_iff.1 box).1, (Array.getElem?_eq_some_iff.1 hm).1⟩
theorem RingAt.cell {w : World} {b m : Nat} {L : List (Wk × Hd)} (h : RingAt w b m L) : w.cell? ⟨b, 0, none⟩ = some (.map (some m)) := by
  rw [cell_of_row w b 0 _ _ _ h.box]; rfl
theorem hold_zero (w : World) : (zeroValue 30).run Try.prog w = .ok (hV hd0) w := by kernel_rfl
theorem find_ring {w : World} {L : List (Wk × Hd)} {es : Array MapEntry} (he : es.toList.map (fun e => (e.key, e.val)) = L.map (fun p => (kV p.1, hV p.2))) (hf : ∀ p ∈ L, Fits p.1) (hn : (L.map (·.1)).Nodup) (k : Wk) (hk : Fits k) :
    (look L k = none ∧ (Instr.findKey 60 (kV k) es.toList).run Try.prog w = .ok none w) ∨
    ∃ h j e, look L k = some h ∧ (Instr.findKey 60 (kV k) es.toList).run Try.prog w = .ok (some (j, hV h)) w ∧ es.toList[j]? = some e ∧ e.key = kV k := by
  obtain ⟨l, hl⟩ := key_of k hk
  have mem : ∀ e ∈ es.toList, ∃ p ∈ L, e.key = kV p.1 ∧ e.val = hV p.2 := by
    intro e hm
    have : (e.key, e.val) ∈ es.toList.map (fun e => (e.key, e.val)) := List.mem_map.2 ⟨e, hm, rfl⟩
    rw [he] at this
    obtain ⟨p, hp, e1⟩ := List.mem_map.1 this
    injection e1 with e1 e2
    exact ⟨p, hp, e1.symm, e2.symm⟩
  rcases Try.whoLaw.find w hl es.toList (fun e hm => by obtain ⟨p, hp, e1, _⟩ := mem e hm; rw [e1]; exact key_of _ (hf p hp)) with ⟨h1, h2⟩ | ⟨j, e, h1, h2, h3⟩
  · left
    refine ⟨look_none.2 (fun p hp e => ?_), h1⟩
    have : (kV p.1, hV p.2) ∈ es.toList.map (fun e => (e.key, e.val)) := by rw [he]; exact List.mem_map.2 ⟨p, hp, rfl⟩
    obtain ⟨e', hm, e1⟩ := List.mem_map.1 this
    injection e1 with e1 _
    exact h2 e' hm (by rw [e1, e])
  · right
    obtain ⟨p, hp, e1, e2⟩ := mem e (List.mem_of_getElem? h2)
    have hkp : p.1 = k := kV_inj (e1.symm.trans h3)
    refine ⟨p.2, j, e, look_mem hn (by rw [← hkp]; exact hp), by rw [← e2]; exact h1, h2, h3⟩
theorem run_lookup_ring {w : World} {b m : Nat} {L : List (Wk × Hd)} (h : RingAt w b m L) (k : Wk) (hk : Fits k) :
    (Instr.lookup 56 (.map (some m)) (kV k) true).run Try.prog w = .ok (.tuple #[hV ((look L k).getD hd0), .bool (look L k).isSome]) w := by
  obtain ⟨ne, box, ⟨es, clock, hm, he, hst⟩, fit, nd, oh⟩ := h
  obtain ⟨l, hl⟩ := key_of k hk
  have hz := hold_zero w
  rcases find_ring (w := w) he fit nd k hk with ⟨h1, h2⟩ | ⟨v, j, e, h1, h2, h3, h4⟩
  · simp [Instr.lookup, run_underlying Try.underlying56, MapKept.run_getObj_map hm, Try.whoLaw.check w _ hl, h2, h1, hz, Result.andThen]
  · simp [Instr.lookup, run_underlying Try.underlying56, MapKept.run_getObj_map hm, Try.whoLaw.check w _ hl, h2, h1, Result.andThen]
theorem run_update_ring {w : World} {b m : Nat} {L : List (Wk × Hd)} (h : RingAt w b m L) (k : Wk) (hk : Fits k) (v : Hd) (hv : 0 ≤ v.uses ∧ v.uses ≤ 200) :
    ∃ w', (Instr.mapUpdate 56 (.map (some m)) (kV k) (hV v)).run Try.prog w = .ok () w' ∧ RingAt w' b m (putR L k v) ∧ Fr (fun j => j = m) w w' := by
  obtain ⟨ne, box, ⟨es, clock, hm, he, hst⟩, fit, nd, oh⟩ := h
  obtain ⟨l, hl⟩ := key_of k hk
  have hml := (Array.getElem?_eq_some_iff.1 hm).1
  have hfit : ∀ p ∈ putR L k v, Fits p.1 := by
    intro p hp
    have : p.1 ∈ (putR L k v).map (·.1) := List.mem_map.2 ⟨p, hp, rfl⟩
    rw [putR_keys] at this
    split at this
    · obtain ⟨q, hq, e⟩ := List.mem_map.1 this; rw [← e]; exact fit q hq
    · rcases List.mem_append.1 this with h | h
      · obtain ⟨q, hq, e⟩ := List.mem_map.1 h; rw [← e]; exact fit q hq
      · simp at h; rw [h]; exact hk
  have hokh : ∀ p ∈ putR L k v, 0 ≤ p.2.uses ∧ p.2.uses ≤ 200 := by
    intro p hp
    unfold putR at hp
    split at hp
    · obtain ⟨q, hq, rfl⟩ := List.mem_map.1 hp
      split
      · exact hv
      · exact oh q hq
    · rcases List.mem_append.1 hp with h | h
      · exact oh p h
      · simp at h; subst h; exact hv
  have hfr : ∀ o, Fr (fun j => j = m) w (ChangeMaps.setBlock w m o) := fun o => ⟨rfl, rfl, rfl, by simp [ChangeMaps.setBlock], fun k _ hkm => ChangeMaps.heap_setBlock_other hm o hkm⟩
  rcases find_ring (w := w) he fit nd k hk with ⟨h1, h2⟩ | ⟨v0, j, e, h1, h2, h3, h4⟩
  · refine ⟨ChangeMaps.setBlock w m (.map (es.push ⟨kV k, hV v, clock⟩) (clock + 1)), ?_, ⟨ne, ?_, ⟨_, _, ChangeMaps.heap_setBlock_same hm _, ?_, MapKept.stamped_push hst ?_⟩, hfit, putR_nodup nd, hokh⟩, hfr _⟩
    · simp [Instr.mapUpdate, run_underlying Try.underlying56, MapKept.run_getObj_map hm, Try.whoLaw.check w false hl, h2, MapKept.run_setObj_map _ hm, Result.andThen, ChangeMaps.setBlock]
    · exact ((hfr _).block _ (Array.getElem?_eq_some_iff.1 box).1 ne).trans box
    · simp [putR, h1, he]
    · intro x hx e
      have : (x.key, x.val) ∈ es.toList.map (fun e => (e.key, e.val)) := List.mem_map.2 ⟨x, hx, rfl⟩
      rw [he] at this
      obtain ⟨p, hp, e1⟩ := List.mem_map.1 this
      injection e1 with e1 _
      exact look_none.1 h1 p hp (kV_inj (e1.trans e))
  · have hj : es[j]? = some e := by simpa using h3
    refine ⟨ChangeMaps.setBlock w m (.map (es.modify j (fun e' => { e' with key := kV k, val := hV v })) clock), ?_, ⟨ne, ?_, ⟨_, _, ChangeMaps.heap_setBlock_same hm _, ?_, MapKept.stamped_modify hst j _ (fun _ _ => rfl) (fun e' _ h => by rw [hj] at h; injection h with h; subst h; exact h4.symm)⟩, hfit, putR_nodup nd, hokh⟩, hfr _⟩
    · simp [Instr.mapUpdate, run_underlying Try.underlying56, MapKept.run_getObj_map hm, Try.whoLaw.check w false hl, h2, hj, h4, Try.whoLaw.stays w hl, MapKept.run_setObj_map _ hm, Result.andThen, ChangeMaps.setBlock]
    · exact ((hfr _).block _ (Array.getElem?_eq_some_iff.1 box).1 ne).trans box
    · have hs : (look L k).isSome = true := by rw [h1]; rfl
      unfold putR
      rw [if_pos hs]
      have hjl : j < L.length := by
        have := (List.getElem?_eq_some_iff.1 h3).1
        have e := congrArg List.length he
        simp at e; simp at this; omega
      apply List.ext_getElem?
      intro i
      have hei : (es.toList.map (fun e => (e.key, e.val)))[i]? = (L.map (fun p => (kV p.1, hV p.2)))[i]? := by rw [he]
      have hej : (es.toList.map (fun e => (e.key, e.val)))[j]? = (L.map (fun p => (kV p.1, hV p.2)))[j]? := by rw [he]
      rw [List.getElem?_map, List.getElem?_map] at hei hej
      rw [h3, List.getElem?_eq_getElem hjl] at hej
      simp only [Option.map_some, Option.some.injEq, Prod.mk.injEq] at hej
      have hLj : L[j].1 = k := kV_inj (hej.1.symm.trans h4)
      rw [List.getElem?_map, List.getElem?_map, List.getElem?_map, Array.toList_modify]
      by_cases hij : i = j
      · subst hij
        rw [List.getElem?_modify_eq, h3, List.getElem?_eq_getElem hjl]
        simp [hLj]
      · rw [List.getElem?_modify_ne _ _ (fun e => hij e.symm), hei]
        cases hLi : L[i]? with
        | none => rfl
        | some p =>
          have hil := (List.getElem?_eq_some_iff.1 hLi).1
          have hne : p.1 ≠ k := by
            intro e
            rw [List.getElem?_eq_getElem hil] at hLi
            injection hLi with hLi
            have hil' : i < (L.map (·.1)).length := by simpa using hil
            have hjl' : j < (L.map (·.1)).length := by simpa using hjl
            have h5 : (L.map (·.1))[i] = (L.map (·.1))[j] := by rw [List.getElem_map, List.getElem_map, hLj, hLi, e]
            exact hij ((List.getElem_inj nd).1 h5)
          simp [hne]
end Go.Proofs.Ytglbhoamknjdeaa
