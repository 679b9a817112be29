/- The feed in memory. -/
import Derived.Test.YtohaaejonlijeaaReg
import Derived.Maps.OwnSet
import Derived.OpenShut
namespace Go.Proofs.Ytohaaejonlijeaa
open Go.RowKit Go.Maps

/-- whom a connection follows, and from where -/
structure Fl where
  ten : ByteArray
  pl : Int
/-- how a pointer to a follower reads -/
def pR (v : Value) : Option (DataW Unit × List MemPlace) :=
  match v with
  | .pointer none => some (.nil, [])
  | .pointer (some ⟨g, 0, none⟩) => some (.lit (.int .i64 (g : Nat)), [])
  | _ => none
theorem pR_mk (g : Nat) : pR (.pointer (some ⟨g, 0, none⟩)) = some (.lit (.int .i64 (g : Nat)), []) := rfl
theorem pR_inv {v : Value} {g : Nat} {ps : List MemPlace} (h : pR v = some (.lit (.int .i64 (g : Nat)), ps)) : v = .pointer (some ⟨g, 0, none⟩) := by
  unfold pR at h
  split at h
  · simp at h
  · rename_i g'
    simp at h
    have : g' = g := by omega
    rw [this]
  · cases h
theorem pR_nil {v : Value} {ps : List MemPlace} (h : pR v = some (.nil, ps)) : v = .pointer none := by
  unfold pR at h
  split at h
  · rfl
  · simp at h
  · cases h
theorem Try.zLaw : Keyed Try.prog 3 := int_keyed Try.underlying3
def kZ (c : Int) : Lit := .int .i64 c
theorem kZ_inj {a b : Int} (h : kZ a = kZ b) : a = b := by unfold kZ at h; injection h
theorem kZ_key (c : Int) : WideAt.IsKeyLit (kZ c) := trivial
theorem key_z {c : Int} (h : (Lit.int .i64 c).wf = true) : keyOf Try.prog 3 (.int .i64 c) = some (kZ c) := keyOf_int_mk Try.underlying3 h
def upd {α : Type} (f : Int → α) (c : Int) (x : α) : Int → α := fun i => if i = c then x else f i
theorem upd_same {α : Type} (f : Int → α) (c : Int) (x : α) : upd f c x c = x := if_pos rfl
theorem upd_other {α : Type} (f : Int → α) {c i : Int} (x : α) (h : i ≠ c) : upd f c x i = f i := if_neg h

/-- the feed: its block, its map's, where the followers lie, what it tells -/
structure FeedAt (w : World) (f m N : Nat) (B : Int → Nat) (fl : Int → Option Fl) : Prop where
  ne : f ≠ m
  box : w.heap[f]? = some (.cells #[.map (some m)] 47 (0, 0))
  own : ∃ D, w.ownsMap Try.prog 3 pR m N D ∧ ∀ c, Maps.has D (kZ c) = (fl c).isSome ∧ ∀ x, fl c = some x → ∀ z, D.atKey (kZ c) z = .lit (.int .i64 (B c : Nat))
  blk : ∀ c x, fl c = some x → w.heap[B c]? = some (.cells #[.string x.ten, .int .i64 x.pl] 50 (0, 0)) ∧ B c ≠ f ∧ B c ≠ m
  inj : ∀ c c', (fl c).isSome = true → (fl c').isSome = true → B c = B c' → c = c'
  rng : ∀ c x, fl c = some x → 1 ≤ c ∧ c ≤ 8
/-- its blocks -/
def Ft (f m : Nat) (B : Int → Nat) (fl : Int → Option Fl) (j : Nat) : Prop := j = f ∨ j = m ∨ ∃ c, (fl c).isSome = true ∧ B c = j
section
variable {w w' : World} {f m N : Nat} {B : Int → Nat} {fl : Int → Option Fl}
theorem FeedAt.lt (h : FeedAt w f m N B fl) {j : Nat} (hj : Ft f m B fl j) : j < w.heap.size := by
  rcases hj with rfl | rfl | ⟨c, hc, rfl⟩
  · exact (Array.getElem?_eq_some_iff.1 h.box).1
  · obtain ⟨D, ho, _⟩ := h.own; exact ho.lt
  · obtain ⟨x, hx⟩ := Option.isSome_iff_exists.1 hc
    exact (Array.getElem?_eq_some_iff.1 (h.blk c x hx).1).1
theorem ownsMap_fr {k : TypeId} {R : Value → Option (DataW Unit × List MemPlace)} {b n : Nat} {D : DataW Unit} {M : Nat → Prop} (h : w.ownsMap Try.prog k R b n D) (hf : Fr M w w') (hb : ¬ M b) : w'.ownsMap Try.prog k R b n D := by
  have hl := h.lt
  obtain ⟨es, clock, hm, r⟩ := h
  exact ⟨es, clock, (hf.block b hl hb).trans hm, r⟩
theorem FeedAt.fr {M : Nat → Prop} (h : FeedAt w f m N B fl) (hf : Fr M w w') (hM : ∀ j, Ft f m B fl j → ¬ M j) : FeedAt w' f m N B fl := by
  refine ⟨h.ne, (hf.block f (h.lt (.inl rfl)) (hM f (.inl rfl))).trans h.box, ?_, fun c x hx => ?_, h.inj, h.rng⟩
  · obtain ⟨D, ho, r⟩ := h.own
    exact ⟨D, ownsMap_fr ho hf (hM m (.inr (.inl rfl))), r⟩
  · have hc : Ft f m B fl (B c) := .inr (.inr ⟨c, by rw [hx]; rfl, rfl⟩)
    exact ⟨(hf.block (B c) (h.lt hc) (hM _ hc)).trans (h.blk c x hx).1, (h.blk c x hx).2⟩
theorem FeedAt.bel (h : FeedAt w f m N B fl) (hb : Below w.heap.size w w') : FeedAt w' f m N B fl := h.fr (Fr.of_below (M := NoB) hb) (fun _ _ e => e)
theorem FeedAt.cell (h : FeedAt w f m N B fl) : w.cell? ⟨f, 0, none⟩ = some (.map (some m)) := by rw [cell_of_row w f 0 _ _ _ h.box]; rfl
theorem FeedAt.mono (h : FeedAt w f m N B fl) {N' : Nat} (hN : N ≤ N') : FeedAt w f m N' B fl := by
  obtain ⟨D, ho, r⟩ := h.own
  exact ⟨h.ne, h.box, ⟨D, ho.mono hN, r⟩, h.blk, h.inj, h.rng⟩
theorem isMap_own {k : TypeId} {R : Value → Option (DataW Unit × List MemPlace)} {b n : Nat} {D : DataW Unit} (h : w.ownsMap Try.prog k R b n D) : IsMap D := by
  obtain ⟨es, clock, _, _, _, rfl⟩ := h
  exact ⟨_, rfl⟩
/-- another follower -/
theorem FeedAt.put (h : FeedAt w f m N B fl) {w1 w2 : World} {D : DataW Unit} {g : Nat} {c : Int} {x : Fl} (hc : 1 ≤ c ∧ c ≤ 8) (hD : ∀ c, Maps.has D (kZ c) = (fl c).isSome ∧ ∀ x, fl c = some x → ∀ z, D.atKey (kZ c) z = .lit (.int .i64 (B c : Nat))) (hm : IsMap D)
    (hb : Below w.heap.size w w1) (hg : w.heap.size ≤ g) (hx : w1.heap[g]? = some (.cells #[.string x.ten, .int .i64 x.pl] 50 (0, 0)))
    (ho : w2.ownsMap Try.prog 3 pR m (N + 1) (D.put (kZ c) (.lit (.int .i64 (g : Nat))))) (hf : Fr (fun j => j = m) w1 w2) : FeedAt w2 f m (N + 1) (upd B c g) (upd fl c (some x)) := by
  have hfl := h.lt (.inl rfl)
  have hml := h.lt (.inr (.inl rfl))
  have hz := hb.size
  have hgl := (Array.getElem?_eq_some_iff.1 hx).1
  refine ⟨h.ne, (hf.block f (by omega) h.ne).trans ((hb.block f hfl).trans h.box), ⟨_, ho, fun i => ?_⟩, fun i y hy => ?_, fun i i' hi hi' e => ?_, fun i y hy => ?_⟩
  · by_cases hi : i = c
    · subst hi
      refine ⟨by rw [has_put_same hm (kZ_key i), upd_same]; rfl, fun y _ z => ?_⟩
      rw [atKey_put_same hm (kZ_key i), upd_same]
    · have hk : kZ i ≠ kZ c := fun e => hi (kZ_inj e)
      refine ⟨by rw [has_put_other hk, upd_other _ _ hi]; exact (hD i).1, fun y hy z => ?_⟩
      rw [upd_other _ _ hi] at hy
      rw [atKey_put_other hk, upd_other _ _ hi]
      exact (hD i).2 y hy z
  · by_cases hi : i = c
    · subst hi
      rw [upd_same] at hy ⊢
      injection hy with hy; subst hy
      exact ⟨(hf.block g hgl (by omega)).trans hx, by omega, by omega⟩
    · rw [upd_other _ _ hi] at hy ⊢
      have hbl := h.blk i y hy
      have hl := h.lt (.inr (.inr ⟨i, by rw [hy]; rfl, rfl⟩))
      exact ⟨(hf.block _ (by omega) hbl.2.2).trans ((hb.block _ hl).trans hbl.1), hbl.2⟩
  · by_cases h1 : i = c
    · by_cases h2 : i' = c
      · omega
      · subst h1
        rw [upd_same, upd_other _ _ h2] at e
        rw [upd_other _ _ h2] at hi'
        have := h.lt (.inr (.inr ⟨i', hi', rfl⟩))
        omega
    · by_cases h2 : i' = c
      · subst h2
        rw [upd_same, upd_other _ _ h1] at e
        rw [upd_other _ _ h1] at hi
        have := h.lt (.inr (.inr ⟨i, hi, rfl⟩))
        omega
      · rw [upd_other _ _ h1] at hi e
        rw [upd_other _ _ h2] at hi' e
        exact h.inj i i' hi hi' e
  · by_cases hi : i = c
    · subst hi; exact hc
    · rw [upd_other _ _ hi] at hy
      exact h.rng i y hy
/-- a follower less -/
theorem FeedAt.drop (h : FeedAt w f m N B fl) {w2 : World} {D : DataW Unit} {c : Int} (hD : ∀ c, Maps.has D (kZ c) = (fl c).isSome ∧ ∀ x, fl c = some x → ∀ z, D.atKey (kZ c) z = .lit (.int .i64 (B c : Nat)))
    (ho : w2.ownsMap Try.prog 3 pR m N (D.del (kZ c))) (hf : Fr (fun j => j = m) w w2) : FeedAt w2 f m N B (upd fl c none) := by
  have sm : ∀ i y, upd fl c none i = some y → i ≠ c ∧ fl i = some y := fun i y hy => by
    by_cases hi : i = c
    · subst hi; rw [upd_same] at hy; cases hy
    · exact ⟨hi, by rw [upd_other _ _ hi] at hy; exact hy⟩
  have si : ∀ i, (upd fl c none i).isSome = true → (fl i).isSome = true := fun i hi => by
    obtain ⟨y, hy⟩ := Option.isSome_iff_exists.1 hi
    rw [(sm i y hy).2]; rfl
  refine ⟨h.ne, (hf.block f (h.lt (.inl rfl)) h.ne).trans h.box, ⟨_, ho, fun i => ?_⟩, fun i y hy => ?_, fun i i' hi hi' e => h.inj i i' (si i hi) (si i' hi') e, fun i y hy => h.rng i y (sm i y hy).2⟩
  · by_cases hi : i = c
    · subst hi
      refine ⟨by rw [has_del_same, upd_same]; rfl, fun y hy => ?_⟩
      rw [upd_same] at hy; cases hy
    · have hk : kZ i ≠ kZ c := fun e => hi (kZ_inj e)
      refine ⟨by rw [has_del_other hk, upd_other _ _ hi]; exact (hD i).1, fun y hy z => ?_⟩
      rw [atKey_del_other hk]
      exact (hD i).2 y (sm i y hy).2 z
  · have hbl := h.blk i y (sm i y hy).2
    have hl := h.lt (.inr (.inr ⟨i, by rw [(sm i y hy).2]; rfl, rfl⟩))
    exact ⟨(hf.block _ hl hbl.2.2).trans hbl.1, hbl.2⟩
/-- a follower moved -/
theorem FeedAt.move (h : FeedAt w f m N B fl) {w2 : World} {c : Int} {x y : Fl} (hx : fl c = some x) (hy : w2.heap[B c]? = some (.cells #[.string y.ten, .int .i64 y.pl] 50 (0, 0))) (hf : Fr (fun j => j = B c) w w2) : FeedAt w2 f m N B (upd fl c (some y)) := by
  have hb := h.blk c x hx
  have si : ∀ i, (upd fl c (some y) i).isSome = (fl i).isSome := fun i => by
    by_cases hi : i = c
    · subst hi; rw [upd_same, hx]; rfl
    · rw [upd_other _ _ hi]
  refine ⟨h.ne, (hf.block f (h.lt (.inl rfl)) (fun e => hb.2.1 e.symm)).trans h.box, ?_, fun i z hz => ?_, fun i i' hi hi' e => h.inj i i' (by rw [← si i]; exact hi) (by rw [← si i']; exact hi') e, fun i z hz => ?_⟩
  · obtain ⟨D, ho, hD⟩ := h.own
    refine ⟨D, ownsMap_fr ho hf (fun e => hb.2.2 e.symm), fun i => ⟨by rw [si i]; exact (hD i).1, fun z hz => ?_⟩⟩
    have h1 : (fl i).isSome = true := by rw [← si i, hz]; rfl
    obtain ⟨z', hz'⟩ := Option.isSome_iff_exists.1 h1
    exact (hD i).2 z' hz'
  · by_cases hi : i = c
    · subst hi
      rw [upd_same] at hz
      injection hz with hz; subst hz
      exact ⟨hy, hb.2⟩
    · rw [upd_other _ _ hi] at hz
      have hbl := h.blk i z hz
      have hl := h.lt (.inr (.inr ⟨i, by rw [hz]; rfl, rfl⟩))
      exact ⟨(hf.block _ hl (fun e => hi (h.inj i c (by rw [hz]; rfl) (by rw [hx]; rfl) e))).trans hbl.1, hbl.2⟩
  · have h1 : (fl i).isSome = true := by rw [← si i, hz]; rfl
    obtain ⟨z', hz'⟩ := Option.isSome_iff_exists.1 h1
    exact h.rng i z' hz'
end
/-- what 'x, is := f.l[conn]' gives -/
theorem run_look_none {w : World} {f m N : Nat} {B : Int → Nat} {fl : Int → Option Fl} (h : FeedAt w f m N B fl) {c : Int} (hc : (Lit.int .i64 c).wf = true) (hr : fl c = none) :
    (Instr.lookup 45 (.map (some m)) (.int .i64 c) true).run Try.prog w = .ok (.tuple #[.pointer none, .bool false]) w := by
  obtain ⟨D, ho, hD⟩ := h.own
  obtain ⟨v, ps, hrun, hv⟩ := ho.look_ok Try.zLaw Try.underlying45 (z := .pointer none) (show (zeroValue 48).run Try.prog w = .ok (.pointer none) w by kernel_rfl) (zd := .nil) (zp := []) rfl (key_z hc)
  have hn : Maps.has D (kZ c) = false := by rw [(hD c).1, hr]; rfl
  rw [hn] at hrun
  rw [atKey_of_not_has hn] at hv
  rw [pR_nil hv] at hrun
  exact hrun
theorem run_look_some {w : World} {f m N : Nat} {B : Int → Nat} {fl : Int → Option Fl} (h : FeedAt w f m N B fl) {c : Int} (hc : (Lit.int .i64 c).wf = true) {x : Fl} (hr : fl c = some x) :
    (Instr.lookup 45 (.map (some m)) (.int .i64 c) true).run Try.prog w = .ok (.tuple #[.pointer (some ⟨B c, 0, none⟩), .bool true]) w := by
  obtain ⟨D, ho, hD⟩ := h.own
  obtain ⟨v, ps, hrun, hv⟩ := ho.look_ok Try.zLaw Try.underlying45 (z := .pointer none) (show (zeroValue 48).run Try.prog w = .ok (.pointer none) w by kernel_rfl) (zd := .nil) (zp := []) rfl (key_z hc)
  rw [show Maps.has D (kZ c) = true by rw [(hD c).1, hr]; rfl] at hrun
  rw [(hD c).2 x hr] at hv
  rw [pR_inv hv] at hrun
  exact hrun
theorem bounds_z {n : Int} (h : (Lit.int .i64 n).wf = true) : -9223372036854775808 ≤ n ∧ n ≤ 9223372036854775807 := bounds_i64 h
theorem wrap_z {n : Int} (h : -9223372036854775808 ≤ n ∧ n ≤ 9223372036854775807) : IntKind.i64.wrap n = n := by rw [IntKind.wrap_i64]; omega
end Go.Proofs.Ytohaaejonlijeaa
