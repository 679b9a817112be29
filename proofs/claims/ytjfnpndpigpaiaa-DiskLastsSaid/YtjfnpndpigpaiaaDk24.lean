/- DiskLasts: its plain law; two arrays of slices beside a disk. -/
import Derived.Test.YtjfnpndpigpaiaaDk23
namespace Go.Proofs.Ytjfnpndpigpaiaa
open Go.RowKit

theorem lasts_plain {r : Int} {D1 D3 : DD} (h1 : Ext (newD r) D1) (ok1 : DOK D1) (h3 : Ext (synced D1 5) D3) (ok3 : DOK D3) (keep : List Int) :
    (∀ f, f < 5 → beginB ((crashD D3 keep).file f).d (D1.file f).d = true ∧ beginB (D3.file f).d ((crashD D3 keep).file f).d = true) ∧
    usedL (crashD D3 keep).fs = usedL ((crashD D3 keep).fs.take 5) ∧ ∀ keep', (crashD (crashD D3 keep) keep').fs = (crashD D3 keep).fs := by
  obtain ⟨hs, _⟩ := synced_ok h1.calm ok1.len 5 (by decide)
  have hc : ∀ f, f < 33 → ∃ s, (D3.file f).k + s ≤ (D3.file f).d.length ∧ (crashD D3 keep).file f = ⟨(D3.file f).d.take ((D3.file f).k + s), (D3.file f).k + s⟩ := fun f hf => crash_file D3.fs keep f (by rw [ok3.len]; exact hf) ok3.lasts
  have hlen : (crashD D3 keep).fs.length = 33 := (ok3.crash keep).len
  refine ⟨fun f hf => ?_, ?_, fun keep' => ?_⟩
  · obtain ⟨s, hs1, hs2⟩ := hc f (by omega)
    obtain ⟨m, hm⟩ := h3.file f
    rw [hs2]
    have hk : (D3.file f).k = (D1.file f).d.length := by rw [hm]; exact hs.last f hf
    have hd : (D3.file f).d = (D1.file f).d ++ m := by rw [hm]; show _ ++ m = _; rw [hs.data]
    refine ⟨?_, begin_take _ _⟩
    show beginB ((D3.file f).d.take ((D3.file f).k + s)) _ = true
    rw [hk, hd, List.take_length_add_append]
    exact begin_append _ _
  · refine usedL_five _ 5 (fun f hf => ?_)
    by_cases h33 : f < 33
    · obtain ⟨s, _, hs2⟩ := hc f h33
      have e : ((crashD D3 keep).fs.getD f FF0) = (crashD D3 keep).file f := rfl
      have h0 : (D3.file f).d = [] := by
        rw [h3.far f hf, hs.data, h1.far f hf]
        show ((List.replicate 33 FF0).getD f FF0).d = []
        rw [List.getD_eq_getElem?_getD, List.getElem?_replicate]
        split <;> rfl
      rw [e, hs2, h0]; simp
    · rw [List.getD_eq_getElem?_getD, List.getElem?_eq_none (by omega)]; rfl
  · show crashL (crashD D3 keep).fs keep' = _
    refine crash_tight _ _ (fun x hx => ?_)
    obtain ⟨f, hf, e⟩ := getD_mem hx
    obtain ⟨s, hs1, hs2⟩ := hc f (by omega)
    have e2 : ((crashD D3 keep).fs.getD f FF0) = (crashD D3 keep).file f := rfl
    rw [e2, hs2] at e
    subst e
    show (List.take _ _).length = _
    rw [List.length_take]; exact Nat.min_eq_left hs1

abbrev Tr : Type := Option Addr × Nat × Nat
def slV (t : Tr) : Value := .slice t.1 t.2.1 t.2.2
/-- what lies beside a disk: two arrays of five slices, and what they lead to -/
structure Side (w0 w : World) (g : Nat) (vs : Vs) (T g4 g5 : Nat) (L4 L5 : List Tr) (b4 b5 : Nat → Option (List UInt8)) : Prop where
  a4 : w.heap[g4]? = some (.cells (L4.map slV).toArray T (0, 0))
  a5 : w.heap[g5]? = some (.cells (L5.map slV).toArray T (0, 0))
  l4 : L4.length = 5
  l5 : L5.length = 5
  n4 : w0.heap.size ≤ g4 ∧ ¬ dfoot g vs g4
  n5 : w0.heap.size ≤ g5 ∧ ¬ dfoot g vs g5
  ne : g4 ≠ g5
  r4 : ∀ i, i < 5 → ∀ l, b4 i = some l → ∃ t, L4[i]? = some t ∧ Sl w (fun j => j < w.heap.size ∧ ¬ dfoot g vs j ∧ j ≠ g4 ∧ j ≠ g5) t.1 t.2.1 t.2.2 l
  r5 : ∀ i, i < 5 → ∀ l, b5 i = some l → ∃ t, L5[i]? = some t ∧ Sl w (fun j => j < w.heap.size ∧ ¬ dfoot g vs j ∧ j ≠ g4 ∧ j ≠ g5) t.1 t.2.1 t.2.2 l
theorem Side.step {w0 w w' : World} {g : Nat} {vs vs' : Vs} {T g4 g5 : Nat} {L4 L5 : List Tr} {b4 b5 : Nat → Option (List UInt8)} (h : Side w0 w g vs T g4 g5 L4 L5 b4 b5) (hf : Fr (dfoot g vs) w w') (hk : ∀ k, dfoot g vs' k → dfoot g vs k ∨ w.heap.size ≤ k) : Side w0 w' g vs' T g4 g5 L4 L5 b4 b5 := by
  have h4 := (Array.getElem?_eq_some_iff.1 h.a4).1
  have h5 := (Array.getElem?_eq_some_iff.1 h.a5).1
  have hn : ∀ j, j < w.heap.size → ¬ dfoot g vs j → ¬ dfoot g vs' j := fun j h1 h2 h3 => by
    rcases hk j h3 with h3 | h3
    · exact h2 h3
    · omega
  refine ⟨(hf.block g4 h4 h.n4.2).trans h.a4, (hf.block g5 h5 h.n5.2).trans h.a5, h.l4, h.l5, ⟨h.n4.1, hn g4 h4 h.n4.2⟩, ⟨h.n5.1, hn g5 h5 h.n5.2⟩, h.ne, fun i hi l hl => ?_, fun i hi l hl => ?_⟩
  · obtain ⟨t, e, s⟩ := h.r4 i hi l hl
    exact ⟨t, e, (s.fr hf (fun k hk => ⟨hk.1, hk.2.1⟩)).mono (fun k hk => ⟨Nat.lt_of_lt_of_le hk.1 hf.size, hn k hk.1 hk.2.1, hk.2.2⟩)⟩
  · obtain ⟨t, e, s⟩ := h.r5 i hi l hl
    exact ⟨t, e, (s.fr hf (fun k hk => ⟨hk.1, hk.2.1⟩)).mono (fun k hk => ⟨Nat.lt_of_lt_of_le hk.1 hf.size, hn k hk.1 hk.2.1, hk.2.2⟩)⟩
theorem Side.old {w0 w w' : World} {g : Nat} {vs : Vs} {T g4 g5 : Nat} {L4 L5 : List Tr} {b4 b5 : Nat → Option (List UInt8)} (h : Side w0 w g vs T g4 g5 L4 L5 b4 b5) (hb : Below w.heap.size w w') : Side w0 w' g vs T g4 g5 L4 L5 b4 b5 := h.step (Fr.of_below hb) (fun _ hk => .inl hk)
theorem slice_set {L : List Tr} {i : Nat} {t : Tr} : (L.map slV).set i (slV t) = (L.set i t).map slV := by rw [List.map_set]
/-- a slice with new bytes is laid into the first array -/
theorem Side.put4 {w0 w : World} {g : Nat} {vs : Vs} {T g4 g5 : Nat} {L4 L5 : List Tr} {b4 b5 b4' : Nat → Option (List UInt8)} (h : Side w0 w g vs T g4 g5 L4 L5 b4 b5) {k : Nat} (hk : k < 5) {A : Option Addr} {n c : Nat} {l : List UInt8} (hs : Sl w (fun j => j < w.heap.size ∧ ¬ dfoot g vs j ∧ j ≠ g4 ∧ j ≠ g5) A n c l)
    (hb : ∀ i l', b4' i = some l' → (i = k ∧ l' = l) ∨ (i ≠ k ∧ b4 i = some l')) : Side w0 (w.setCell ⟨g4, k, none⟩ (.slice A n c)) g vs T g4 g5 (L4.set k (A, n, c)) L5 b4' b5 := by
  have hf : Fr (fun j => j = g4) w (w.setCell ⟨g4, k, none⟩ (.slice A n c)) := Fr.of_set w g4 k _ rfl
  have h5 := (Array.getElem?_eq_some_iff.1 h.a5).1
  refine ⟨by rw [heap_setCell h.a4]; exact congrArg (fun z => some (Obj.cells (List.toArray z) T (0, 0))) (slice_set (t := (A, n, c))), (hf.block g5 h5 h.ne.symm).trans h.a5, by simp [h.l4], h.l5, h.n4, h.n5, h.ne, fun i hi l' hl => ?_, fun i hi l' hl => ?_⟩
  · rcases hb i l' hl with ⟨rfl, rfl⟩ | ⟨hne, hl⟩
    · exact ⟨(A, n, c), by simp [h.l4, hi], (hs.fr hf (fun j hj => ⟨hj.1, hj.2.2.1⟩)).mono (fun j hj => ⟨Nat.lt_of_lt_of_le hj.1 hf.size, hj.2⟩)⟩
    · obtain ⟨t, e, s⟩ := h.r4 i hi l' hl
      exact ⟨t, by rw [List.getElem?_set_ne (fun e => hne e.symm)]; exact e, (s.fr hf (fun j hj => ⟨hj.1, hj.2.2.1⟩)).mono (fun j hj => ⟨Nat.lt_of_lt_of_le hj.1 hf.size, hj.2⟩)⟩
  · obtain ⟨t, e, s⟩ := h.r5 i hi l' hl
    exact ⟨t, e, (s.fr hf (fun j hj => ⟨hj.1, hj.2.2.1⟩)).mono (fun j hj => ⟨Nat.lt_of_lt_of_le hj.1 hf.size, hj.2⟩)⟩
theorem Side.swap {w0 w : World} {g : Nat} {vs : Vs} {T g4 g5 : Nat} {L4 L5 : List Tr} {b4 b5 : Nat → Option (List UInt8)} (h : Side w0 w g vs T g4 g5 L4 L5 b4 b5) : Side w0 w g vs T g5 g4 L5 L4 b5 b4 :=
  ⟨h.a5, h.a4, h.l5, h.l4, h.n5, h.n4, h.ne.symm, fun i hi l hl => by obtain ⟨t, e, s⟩ := h.r5 i hi l hl; exact ⟨t, e, s.mono (fun j hj => ⟨hj.1, hj.2.1, hj.2.2.2, hj.2.2.1⟩)⟩,
    fun i hi l hl => by obtain ⟨t, e, s⟩ := h.r4 i hi l hl; exact ⟨t, e, s.mono (fun j hj => ⟨hj.1, hj.2.1, hj.2.2.2, hj.2.2.1⟩)⟩⟩
theorem Side.cell4 {w0 w : World} {g : Nat} {vs : Vs} {T g4 g5 : Nat} {L4 L5 : List Tr} {b4 b5 : Nat → Option (List UInt8)} (h : Side w0 w g vs T g4 g5 L4 L5 b4 b5) {i : Nat} (hi : i < 5) : ∃ A n c, w.cell? ⟨g4, i, none⟩ = some (.slice A n c) ∧ w.frozen? ⟨g4, i, none⟩ = false ∧ L4[i]? = some (A, n, c) := by
  obtain ⟨t, ht⟩ : ∃ t, L4[i]? = some t := ⟨_, List.getElem?_eq_getElem (by rw [h.l4]; exact hi)⟩
  obtain ⟨A, n, c⟩ := t
  refine ⟨A, n, c, ?_, by simp [World.frozen?, h.a4], ht⟩
  rw [cell_of_row w g4 i _ _ _ h.a4]
  simp [ht, slV]
theorem DS.setSide {w0 w : World} {g : Nat} {D : DD} {vs : Vs} (h : DS w0 w g D vs) {b i : Nat} (hb : ¬ dfoot g vs b) (h0 : w0.heap.size ≤ b) (v : Value) : DS w0 (w.setCell ⟨b, i, none⟩ v) g D vs :=
  ⟨h.disk.fr (Fr.of_set w b i v (M := fun k => k = b) rfl) (fun k hk e => hb (by rw [← e]; exact hk)), h.ok, h.foot, ((Fr.of_below h.bel).trans (Fr.of_set w b i v (M := fun k => k = b) rfl) (fun _ _ e => e)).to_below (fun j hj e => by have e' : j = b := e; omega)⟩
theorem PsSl.mono {w : World} {F G : Nat → Prop} {A : Option Addr} {n c : Nat} {ps : List PutR} (h : PsSl w F A n c ps) (hG : ∀ k, F k → G k) : PsSl w G A n c ps :=
  ⟨h.len, h.cap, fun i hi => by obtain ⟨b, o, A1, n1, c1, e, hb, r⟩ := h.at_ i hi; exact ⟨b, o, A1, n1, c1, e, hG b hb, r.1, r.2.1, r.2.2.1, r.2.2.2.mono hG⟩⟩
theorem IntSl.mono {w : World} {F G : Nat → Prop} {A : Option Addr} {n c : Nat} {l : List Int} (h : IntSl w F A n c l) (hG : ∀ k, F k → G k) : IntSl w G A n c l :=
  ⟨h.len, h.cap, h.wf, fun j hj => by obtain ⟨ad, e, hF, hc⟩ := h.at_ j hj; exact ⟨ad, e, hG _ hF, hc⟩⟩
end Go.Proofs.Ytjfnpndpigpaiaa
