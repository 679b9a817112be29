/- A range over a function, by frames: what the iterator, and what a round, may turn. -/
import Derived.Test.YtklclbppdoahjaaOrd3
import Derived.RangeFuncNested
import Derived.RangeFuncBound
import Derived.RangeFuncCalls
import Derived.RangeFuncLeaves
import Derived.Shelf.Abstract
import Derived.Shelf.RegionOpen
import Derived.OwnWalkIn
import Derived.TacticsInMore
import Derived.LoopNIn
import Derived.LoopIn
import Derived.OrdersIn
namespace Go.Proofs.Ytklclbppdoahjaa
set_option maxRecDepth 100000
open Go.RowKit

theorem Fr.putObj {M : Nat → Prop} {a w : World} (h : Fr M a w) {r : Nat} (hr : M r ∨ a.heap.size ≤ r) (o : Obj) : Fr M a (w.putObj r o) :=
  ⟨h.os, h.tape, h.output, by simpa using h.size, fun i hi hn => (World.putObj_heap_other (by
    rintro rfl
    rcases hr with hr | hr
    · exact hn hr
    · omega)).trans (h.block i hi hn)⟩

/-- a function's contract by its body, where this holds a range over a function -/
theorem calls_of_marks {P : Program} {f : FuncId} {fn : Func} {c : Code} {args : Array Value} {w : World} {R : Ending → World → Prop} (hf : P.funcs[f]? = some fn) (hb : fn.body = some c)
    (h : c.wp P (bodyPostM Fence.wide 0 P fn R) { tmps := args ++ Array.replicate (fn.ntmps - args.size) undef, defers := [] } w) : Calls P f args w R :=
  callsIn_wide.1 (callsIn_of_wp_marks (F := Fence.wide) (n := 0) hf hb trivial (wpIn_wide.2 h) rfl)
theorem calls_in {P : Program} {f : FuncId} {args : Array Value} {w : World} {R : Ending → World → Prop} (n : Nat) (l : Nat) (h : Calls P f args w R) : CallsIn (Fence.wide.inRound l) n P f args w R :=
  CallsIn.inRound l (callsIn_wide.2 h)

/-- an iterator's contract: it goes through N rounds, or till one says no more; round k is handed what Arg k says, of the world in which the last round ended and of its own; it turns blocks of M alone, and new ones; a round may turn whatever it does not need -/
def Iter (P : Program) (gf : Nat) (lb : Array Value) (Need M : Nat → Prop) (N : Nat) (Arg : Nat → World → World → Array Value → Prop) (Inf : Prop) (w0 : World) : Prop :=
  ∀ (l : Nat) (J : Nat → World → Prop) (Jx : World → Prop) (W : World), Fr NoB w0 W →
    (∀ k W1 W2, J k W1 → Fr M W1 W2 → J k W2) →
    (∀ W1 W2, Jx W1 → Fr M W1 W2 → Jx W2) →
    (∀ k W0 W1 args, k < N → J k W0 → Fr M W0 W1 → Arg k W0 W1 args → YieldAt Fence.wide 0 P l args W1 fun e W' =>
      (e = .returned (.bool true) ∧ J (k + 1) W' ∧ Fr (fun j => ¬ Need j) W1 W') ∨ (e = .returned (.bool false) ∧ Jx W')) →
    (Inf → ∀ W1, ¬ J N W1) → J 0 W →
    CallsIn Fence.wide 0 P gf (#[.func (.yield l) #[] #[]] ++ lb) W fun e W' => (∃ v, e = .returned v) ∧ (J N W' ∨ Jx W')

/-- what a round may not turn: what the iterator needs, and the loop's own two blocks -/
def Bd (Need : Nat → Prop) (D : Nat) : Nat → Prop := fun j => ¬ Need j ∧ j ≠ D ∧ j ≠ D + 1

def rPost (B : Nat → Prop) (I : Nat → World → Prop) (Ix : Code → World → Prop) (k : Nat) (W : World) : Exit → Act → World → Prop
  | .normal, _, W' => Fr B W W' ∧ I (k + 1) W'
  | .ret, _, W' => Fr B W W' ∧ Ix .ret W'
  | .exit id, _, W' => Fr B W W' ∧ Ix (.exit id) W'
  | .goto t, _, W' => Fr B W W' ∧ Ix (.goto t) W'
  | .panic _, _, _ => False
  | .outgrown, _, _ => False

theorem wp_range {P : Program} {g : Operand} {ps : Array Tmp} {assign body : Code} {Q : Exit → Act → World → Prop} {a : Act} {w : World} {gf : Nat} {lb : Array Value}
    (hg : a.eval g = .func (.func gf) #[] lb) (eg : ∀ args w, (callFunc gf args).run P w = .ok (.enter gf args) w)
    {Need M : Nat → Prop} {N : Nat} {Arg : Nat → World → World → Array Value → Prop} {Inf : Prop} (hit : Iter P gf lb Need M N Arg Inf w)
    (hNeed : ∀ j, Need j → j < w.heap.size) (hM : ∀ j, M j → j < w.heap.size)
    (I : Nat → World → Prop) (Ix : Code → World → Prop)
    (hI : ∀ k W1 W2, I k W1 → Fr (fun j => M j ∨ j = w.heap.size ∨ j = w.heap.size + 1) W1 W2 → I k W2)
    (hIx : ∀ c W1 W2, Ix c W1 → Fr (fun j => M j ∨ j = w.heap.size ∨ j = w.heap.size + 1) W1 W2 → Ix c W2)
    (h0 : I 0 w) (hps : ∀ k W0 W1 args, Arg k W0 W1 args → args.size = ps.size)
    (hround : ∀ k W0 W1 args, k < N → I k W0 → w.heap.size + 2 ≤ W0.heap.size → Fr M W0 W1 → Arg k W0 W1 args →
      assign.wpIn (Fence.wide.inRound (w.heap.size + 1)) 0 P (Exit.then (fun a1 W2 => Fr (Bd Need w.heap.size) W1 W2 ∧ ∀ W3, Fr (fun j => j = w.heap.size + 1) W2 W3 →
        body.wpIn (Fence.wide.inRound (w.heap.size + 1)) 0 P (rPost (Bd Need w.heap.size) I Ix k W3) a1 W3) (fun _ _ _ => False))
        { tmps := (ps.zip args).foldl (fun t (p, v) => t.setIfInBounds p v) a.tmps, defers := [] } W1)
    (hinf : Inf → ∀ W1, ¬ I N W1)
    (hdone : ∀ W, I N W → W.heap[w.heap.size]? = some (.deferred (some [])) → Q .normal { a with defers := { target := .collected w.heap.size, args := #[] } :: a.defers } W)
    (hstop : ∀ c W, Ix c W → W.heap[w.heap.size]? = some (.deferred (some [])) → c.wp P Q { a with defers := { target := .collected w.heap.size, args := #[] } :: a.defers } W) :
    (Code.rangeFunc g ps assign body).wp P Q a w := by
  refine (wpIn_wide (n := 0)).1 (wpIn_rangeFunc ?_)
  intro fn _
  obtain ⟨rec, hrec⟩ : ∃ rec : LoopState → Option Code → Loop, rec = fun st pe => { state := st, pending := pe, fn, tmps := a.tmps, params := ps, assign, body, defers := w.heap.size } := ⟨_, rfl⟩
  obtain ⟨W1, hW1⟩ : ∃ W1, (w.alloc (.deferred (some []))).alloc (.loop (rec .ready none)) = W1 := ⟨_, rfl⟩
  have hL1 : W1.heap[w.heap.size + 1]? = some (.loop (rec .ready none)) := by
    rw [← hW1]; have := World.alloc_heap_new (w.alloc (.deferred (some []))) (.loop (rec .ready none)); rwa [World.size_alloc] at this
  have hK1 : W1.heap[w.heap.size]? = some (.deferred (some [])) := by
    rw [← hW1]; exact (Below.heap_alloc _ _ _ (by simp)).trans (World.alloc_heap_new w _)
  have hF1 : ∀ M, Fr M w W1 := fun M => by rw [← hW1]; exact ((Fr.refl M w).alloc _).alloc _
  have hI1 : I 0 W1 := hI _ _ _ h0 (hF1 _)
  have hMD : ∀ j, M j → j ≠ w.heap.size ∧ j ≠ w.heap.size + 1 := fun j hj => by have := hM j hj; omega
  have hND : ¬ Need w.heap.size ∧ ¬ Need (w.heap.size + 1) := ⟨fun h => by have := hNeed _ h; omega, fun h => by have := hNeed _ h; omega⟩
  refine ⟨w.heap.size + 1, [{ target := .collected w.heap.size, args := #[] }], W1, { target := .fn (.func gf) lb, args := #[.func (.yield (w.heap.size + 1)) #[] #[]] }, W1, gf,
    #[.func (.yield (w.heap.size + 1)) #[] #[]] ++ lb, W1, ?_, ?_, ?_, ?_, fun h => (by cases h), ?_⟩
  · rw [← hW1, hrec]; exact run_enterLoop_outer _ _ _ _ _
  · simp only [resolve, hg]
    simp [go_sem]
  · intro f' _; trivial
  · simp [invoke, go_sem, eg]
  · have keep : ∀ {A B : World}, A.heap[w.heap.size + 1]? ≠ none → Fr M A B → B.heap[w.heap.size + 1]? = A.heap[w.heap.size + 1]? ∧ B.heap[w.heap.size]? = A.heap[w.heap.size]? := fun {A B} hA hf => by
      have hlt : w.heap.size + 1 < A.heap.size := by
        rcases Nat.lt_or_ge (w.heap.size + 1) A.heap.size with h | h
        · exact h
        · exact absurd (Array.getElem?_eq_none h) hA
      exact ⟨hf.block _ hlt (fun e => (hMD _ e).2 rfl), hf.block _ (by omega) (fun e => (hMD _ e).1 rfl)⟩
    refine (hit (w.heap.size + 1)
      (fun k W => I k W ∧ W.heap[w.heap.size + 1]? = some (.loop (rec .ready none)) ∧ W.heap[w.heap.size]? = some (.deferred (some [])))
      (fun W => ∃ c, Ix c W ∧ W.heap[w.heap.size + 1]? = some (.loop (rec .done (some c))) ∧ W.heap[w.heap.size]? = some (.deferred (some [])))
      W1 (hF1 _)
      (fun k A B ⟨hi, hl, hk⟩ hf => by
        obtain ⟨k1, k2⟩ := keep (by rw [hl]; simp) hf
        exact ⟨hI _ _ _ hi (hf.mono fun _ _ h => .inl h), k1.trans hl, k2.trans hk⟩)
      (fun A B ⟨c, hi, hl, hk⟩ hf => by
        obtain ⟨k1, k2⟩ := keep (by rw [hl]; simp) hf
        exact ⟨c, hIx _ _ _ hi (hf.mono fun _ _ h => .inl h), k1.trans hl, k2.trans hk⟩)
      ?_ (fun hinf1 W ⟨hi, _⟩ => hinf hinf1 W hi) ⟨hI1, hL1, hK1⟩).mono ?_
    · rintro k W0 W args hkN ⟨hi, hl, hk⟩ hf0 harg
      have hlt0 : w.heap.size + 1 < W0.heap.size := (Array.getElem?_eq_some_iff.1 hl).1
      obtain ⟨kk1, kk2⟩ := keep (by rw [hl]; simp) hf0
      replace hl := kk1.trans hl
      replace hk := kk2.trans hk
      have hlt : w.heap.size + 1 < W.heap.size := (Array.getElem?_eq_some_iff.1 hl).1
      have hy := run_yield (P := P) (args := args) hl (by rw [hrec]; exact hps _ _ _ _ harg)
      rw [hrec] at hy
      refine ⟨fn, _, assign, body, hy, roundIn_of_wpIn trivial ?_⟩
      refine Go.wpIn_mono (hround k W0 W args hkN hi (by omega) hf0 harg) ?_
      intro e a1 W2 h2
      cases e with
      | normal =>
        obtain ⟨hf2, hb⟩ := h2
        have hl2 : W2.heap[w.heap.size + 1]? = some (.loop (rec .ready none)) := (hf2.block _ hlt (fun e => e.2.2 rfl)).trans hl
        have hk2 : W2.heap[w.heap.size]? = some (.deferred (some [])) := (hf2.block _ (by omega) (fun e => e.2.1 rfl)).trans hk
        have hlt2 : w.heap.size + 1 < W2.heap.size := (Array.getElem?_eq_some_iff.1 hl2).1
        refine ⟨_, run_beginRound hl2 (by rw [hrec]), ?_⟩
        have hf3 : Fr (fun j => j = w.heap.size + 1) W2 (W2.putObj (w.heap.size + 1) (.loop { rec .ready none with state := .busy })) := (Fr.refl (fun j => j = w.heap.size + 1) W2).putObj (.inl rfl) _
        refine Go.wpIn_mono (hb _ hf3) ?_
        have hl3 : (W2.putObj (w.heap.size + 1) (.loop { rec .ready none with state := .busy })).heap[w.heap.size + 1]? = some (.loop { rec .ready none with state := .busy }) := World.putObj_heap_same hlt2
        have hk3 : (W2.putObj (w.heap.size + 1) (.loop { rec .ready none with state := .busy })).heap[w.heap.size]? = some (.deferred (some [])) := (World.putObj_heap_other (by omega)).trans hk2
        have hlt3 : w.heap.size + 1 < (W2.putObj (w.heap.size + 1) (.loop { rec .ready none with state := .busy })).heap.size := by simpa using hlt2
        generalize W2.putObj (w.heap.size + 1) (.loop { rec .ready none with state := .busy }) = W3 at hf3 hl3 hk3 hlt3
        have fin : ∀ (jump : Option Code) (W4 : World), Fr (Bd Need w.heap.size) W3 W4 →
            (Instr.endRound (w.heap.size + 1) jump).run P W4 = .ok (.bool jump.isNone) (W4.putObj (w.heap.size + 1) (.loop (rec (if jump.isNone then .ready else .done) jump))) ∧
            (W4.putObj (w.heap.size + 1) (.loop (rec (if jump.isNone then .ready else .done) jump))).heap[w.heap.size + 1]? = some (.loop (rec (if jump.isNone then .ready else .done) jump)) ∧
            (W4.putObj (w.heap.size + 1) (.loop (rec (if jump.isNone then .ready else .done) jump))).heap[w.heap.size]? = some (.deferred (some [])) ∧
            Fr (fun j => ¬ Need j) W (W4.putObj (w.heap.size + 1) (.loop (rec (if jump.isNone then .ready else .done) jump))) ∧
            Fr (fun j => M j ∨ j = w.heap.size ∨ j = w.heap.size + 1) W4 (W4.putObj (w.heap.size + 1) (.loop (rec (if jump.isNone then .ready else .done) jump))) := fun jump W4 hf4 => by
          have hl4 : W4.heap[w.heap.size + 1]? = some (.loop { rec .ready none with state := .busy }) := (hf4.block _ hlt3 (fun e => e.2.2 rfl)).trans hl3
          have hk4 : W4.heap[w.heap.size]? = some (.deferred (some [])) := (hf4.block _ (by omega) (fun e => e.2.1 rfl)).trans hk3
          have hr := run_endRound (P := P) jump hl4
          refine ⟨by rw [hrec] at hr ⊢; exact hr, World.putObj_heap_same (Array.getElem?_eq_some_iff.1 hl4).1, (World.putObj_heap_other (by omega)).trans hk4, ?_, (Fr.refl _ _).putObj (.inl (.inr (.inr rfl))) _⟩
          exact (((hf2.mono fun _ _ h => h.1).trans hf3 (fun j _ e => by subst e; exact hND.2)).trans (hf4.mono fun _ _ h => h.1) (fun _ _ h => h)).putObj (.inl hND.2) _
        rintro e a3 W4 hp
        cases e with
        | normal =>
          obtain ⟨hf4, hi4⟩ := hp
          obtain ⟨hr, hl5, hk5, hf5, hf6⟩ := fin none W4 hf4
          exact ⟨_, _, hr, .inl ⟨rfl, ⟨hI _ _ _ hi4 hf6, hl5, hk5⟩, hf5⟩⟩
        | ret =>
          obtain ⟨hf4, hi4⟩ := hp
          obtain ⟨hr, hl5, hk5, hf5, hf6⟩ := fin (some .ret) W4 hf4
          exact ⟨_, _, hr, .inr ⟨rfl, .ret, hIx _ _ _ hi4 hf6, hl5, hk5⟩⟩
        | exit id =>
          obtain ⟨hf4, hi4⟩ := hp
          obtain ⟨hr, hl5, hk5, hf5, hf6⟩ := fin (some (.exit id)) W4 hf4
          exact ⟨_, _, hr, .inr ⟨rfl, .exit id, hIx _ _ _ hi4 hf6, hl5, hk5⟩⟩
        | goto t =>
          obtain ⟨hf4, hi4⟩ := hp
          obtain ⟨hr, hl5, hk5, hf5, hf6⟩ := fin (some (.goto t)) W4 hf4
          exact ⟨_, _, hr, .inr ⟨rfl, .goto t, hIx _ _ _ hi4 hf6, hl5, hk5⟩⟩
        | panic ch => exact hp.elim
        | outgrown => exact hp.elim
      | ret => exact h2.elim
      | exit id => exact h2.elim
      | goto t => exact h2.elim
      | panic ch => exact h2.elim
      | outgrown => exact h2.elim
    · rintro e W2 ⟨⟨v, rfl⟩, (⟨hi, hl, hk⟩ | ⟨c, hi, hl, hk⟩)⟩
      · exact ⟨none, _, by have := run_endLoop (P := P) hl (by rw [hrec]; simp); rw [hrec] at this; exact this, hdone _ (hI _ _ _ hi ((Fr.refl _ _).putObj (.inl (.inr (.inr rfl))) _)) ((World.putObj_heap_other (by omega)).trans hk)⟩
      · exact ⟨some c, _, by have := run_endLoop (P := P) hl (by rw [hrec]; simp); rw [hrec] at this; exact this, wpIn_wide.2 (hstop c _ (hIx _ _ _ hi ((Fr.refl _ _).putObj (.inl (.inr (.inr rfl))) _)) ((World.putObj_heap_other (by omega)).trans hk))⟩

/-! A region that draws, in a round. -/
section
variable {P : Program} {ops : Array Oper} {Q : Exit → Act → World → Prop}
theorem op_in {n l : Nat} {o : Oper} {a : Act} {w : World} {K : Act → World → Prop} (hd : ∀ c, o.op ≠ .defer c) (h : o.wp P a w K Q) : o.wpIn (Fence.wide.inRound l) n P a w K Q := by
  refine ⟨fun f _ => trivial, ?_⟩
  show o.uponIn _ n P a K Q ((Oper.semAt (some l) a.eval o).run P w)
  rw [Oper.semAt_some l _ _ hd]
  unfold Oper.wp at h
  generalize (execOp a.eval o).run P w = r at h
  cases r with
  | ok x w' =>
    cases x <;> simp only [Oper.upon] at h <;> simp only [Oper.uponIn] <;> first
      | exact h
      | exact ⟨fun h => (by cases h), CallsIn.inRound l (callsIn_wide.2 h)⟩
      | exact ⟨fun h => (by cases h), fun c cs _ => (by
          obtain ⟨v, w2, hr, hs⟩ := h c cs
          exact ⟨v, w2, hr, stepsIn_wide.2 hs⟩)⟩
  | halt x w' => cases x <;> simp only [Oper.upon] at h <;> simp only [Oper.uponIn] <;> exact h

def noDefer (ops : Array Oper) : Bool := ops.toList.all fun o => match o.op with | .defer _ => false | _ => true
theorem noDefer_spec (h : noDefer ops = true) {i : Nat} {o : Oper} (ho : ops[i]? = some o) : ∀ c, o.op ≠ .defer c := by
  intro c e
  have hm : o ∈ ops.toList := by
    have := Array.mem_of_getElem? ho
    simpa using this
  have := List.all_eq_true.1 h o hm
  rw [e] at this
  cases this
theorem wpOp_in {n l i : Nat} {a : Act} {w : World} {K : Act → World → Prop} (hd : noDefer ops = true) (hQ : ¬ LetsOut Q) (h : wpOp P ops Q i K a w) : wpOpIn (Fence.wide.inRound l) n P ops Q i K a w := by
  unfold wpOp at h
  unfold wpOpIn
  split
  · rename_i h0; simpa [h0] using h
  · rename_i o ho
    simp only [ho] at h
    split
    · rename_i hw
      rw [if_pos hw] at h
      rcases h with h | h
      · exact op_in (noDefer_spec hd ho) h
      · exact absurd h.2 hQ
    · rename_i hw
      rw [if_neg hw] at h
      exact ⟨fun _ _ => trivial, h⟩
theorem any_in {n l : Nat} {md : Region.Mode} (hd : noDefer ops = true) (hQ : ¬ LetsOut Q) : ∀ (f : Nat) (listed : Array Bool) (a : Act) (w : World), wpAny P md ops Q f listed a w → wpAnyIn (Fence.wide.inRound l) n P md ops Q f listed a w
  | 0, _, _, _, h => h
  | f + 1, _, _, _, h => ⟨h.1, fun i hi => wpOpIn_mono (fun a w => any_in hd hQ f _ a w) (wpOp_in hd hQ (h.2 i hi))⟩
/-- a region that draws, in a round, walked in one order (or two) -/
theorem wpIn_region_ot {n l : Nat} {S : World → Prop} {id : Nat} {lo : List Oper} {a : Act} {w : World} (hn : noDefer lo.toArray = true) (hQo : ¬ LetsOut Q) (t : Nat) (r : OT) (hm : P.follows .mixedOrders = true)
    (hB : (Region.noSelect lo.toArray && decide (r.size = lo.length) && otB .any lo.toArray t r (Array.replicate lo.length false)) = true)
    (hQ : ∀ c a d v w, Q (.panic c) (Act.put a (some d) v) w → Q (.panic c) a w)
    (h : wpOT P lo.toArray Q S t r a w.drew) : (Code.region id lo.toArray true).wpIn (Fence.wide.inRound l) n P Q a w := by
  simp only [Bool.and_eq_true, decide_eq_true_eq] at hB
  refine wpIn_region_any hm ?_
  have h1 := ot_of (md := .any) hB.1.1 hQ r _ a _ hB.2 h
  rw [hB.1.2] at h1
  have h2 := any_in (n := n) (l := l) hn hQo _ _ _ _ (any_of_ord _ _ _ _ h1)
  simpa using h2
theorem wpIn_region_os {n l : Nat} {id : Nat} {lo : List Oper} {a : Act} {w : World} (hn : noDefer lo.toArray = true) (hQo : ¬ LetsOut Q) (S : Nat → World → Prop) (ts : List Nat) (r : OS) (hm : P.follows .mixedOrders = true)
    (hB : (Region.noSelect lo.toArray && decide (r.size = lo.length) && osB .any lo.toArray ts r (Array.replicate lo.length false)) = true)
    (hQ : ∀ c a d v w, Q (.panic c) (Act.put a (some d) v) w → Q (.panic c) a w)
    (h : wpOS P lo.toArray Q S r a w.drew) : (Code.region id lo.toArray true).wpIn (Fence.wide.inRound l) n P Q a w := by
  simp only [Bool.and_eq_true, decide_eq_true_eq] at hB
  refine wpIn_region_any hm ?_
  have h1 := os_of (md := .any) hB.1.1 hQ r _ a _ hB.2 h
  rw [hB.1.2] at h1
  have h2 := any_in (n := n) (l := l) hn hQo _ _ _ _ (any_of_ordS _ _ _ _ h1)
  simpa using h2
end
end Go.Proofs.Ytklclbppdoahjaa
