/- BoxPlays. -/
import Derived.Test.YtnejcciociinmaaRb3
import Derived.Deep.CutRange
import Derived.Deep.DeepCutAuto
namespace Go.Proofs.Ytnejcciociinmaa
open Go.RowKit
attribute [local go_sem] yld yldUpon_value

theorem Try.infoOpB : (Try.prog.info? 35).map (fun i => (i.zero.map (·.cells.size), i.size)) = some (some 7, 7) := by kernel_rfl
theorem build_nonceU (w : World) (u : UInt8) : (Instr.build 40 #[(0, bv u)]).run Try.prog w = .ok (.agg (bs (nonceOf [u])).toArray) w := by kernel_rfl
theorem keyOf_len (u : UInt8) : (keyOf [u]).length = 32 := rfl
theorem nonceOf_len (u : UInt8) : (nonceOf [u]).length = 12 := rfl
theorem OpB.one (y : OpB) : ∀ v ∈ y.cells, v.oneCell' = true := by
  intro v hv
  simp only [OpB.cells, List.mem_append, List.mem_cons, List.not_mem_nil, or_false] at hv
  rcases hv with rfl | rfl | rfl | rfl | rfl | rfl | rfl <;> rfl
/-- a long value built in a drawn region -/
theorem os_build {ops : Array Oper} {Q : Exit → Act → World → Prop} {S : Nat → World → Prop} {i d : Nat} {r : OS} {o : Oper} {a : Act} {w : World} (T : TypeId) (parts : Array (Nat × Operand)) (pv : Array (Nat × Value)) (v : Value) (ho : ops.toList[i]? = some o) (hw : Region.wanted o (yielded ops a.tmps) = true)
    (hop : o.op = .build T parts) (hd : o.dst = some d) (hpv : (parts.map fun (x : Nat × Operand) => (x.1, a.eval x.2)) = pv) (hr : ∀ w', (Instr.build T pv).run Try.prog w' = .ok v w')
    (hk : ∃ a1, a.put (some d) v = a1 ∧ wpOS Try.prog ops Q S r a1 w) : wpOS Try.prog ops Q S (.move i r) a w := by
  obtain ⟨a1, ha, hk⟩ := hk
  refine ⟨o, v, by simpa using ho, .inl ⟨hw, fun w' _ => ?_⟩, by rw [hd, ha]; exact hk⟩
  unfold execOp
  simp only [hop, hpv, Sem.run_bind, hr, Result.andThen_ok, Sem.run_pure]
/-- another sealing: what both are then -/
theorem PB.seal {w w0 w1 w2 : World} {b : Nat} {F F' : Nat → Prop} {src src' : List UInt8} {rows rows' : List BRow} {b2 : Nat} {F2 F2' : Nat → Prop} {l : List UInt8} {d d' : Nat} {A : Option Addr} {k c : Nat} {vs : List Value} {D : Nat → Prop} {outs : List (List UInt8)}
    (h : PB w w0 b F src rows b2 F2 l d A k c vs D outs) (hb : BoxAt w1 b F' src' rows') (hF : ∀ j, F' j → F j ∨ w0.heap.size ≤ j) (hf1 : Fr F w0 w1) (hr : RBoxAt w2 b2 F2' l d' rows') (hF2 : ∀ j, F2' j → F2 j ∨ w1.heap.size ≤ j) (hf2 : Fr F2 w1 w2) (hs : src' = l.drop d') (hn : NumRows rows') :
    PB w w2 b F' src' rows' b2 F2' l d' A k c vs D outs := by
  have hdis : ∀ j, F' j → ¬ F2 j := fun j h1 h2 => by
    rcases hF j h1 with h3 | h3
    · exact h.dis j h3 h2
    · have := h.rbox.1 j h2; omega
  have z01 := hf1.size
  have ownlt := h.own.lt
  have b1 : Below w.heap.size w w1 := ((Fr.of_below h.bel).trans hf1 (fun _ _ e => e)).to_below (fun i hi e => by have := h.new i (.inl e); omega)
  have dlt : ∀ j, D j → j < w0.heap.size := fun j hj => (h.hD j hj).2.1
  have n1 : ∀ j, (F' j ∨ F2' j) → w.heap.size ≤ j := fun j hj => by
    have h0 := h.bel.size
    rcases hj with hj | hj
    · rcases hF j hj with h1 | h1
      · exact h.new j (.inl h1)
      · omega
    · rcases hF2 j hj with h1 | h1
      · exact h.new j (.inr h1)
      · omega
  have apart : ∀ j, j < w0.heap.size → ¬ (F j ∨ F2 j) → ¬ (F' j ∨ F2' j) := fun j hj hn e => by
    rcases e with e | e
    · rcases hF j e with h1 | h1
      · exact hn (.inl h1)
      · omega
    · rcases hF2 j e with h1 | h1
      · exact hn (.inr h1)
      · omega
  refine ⟨hb.fr hf2 (fun j hj e => hdis j hj e), hr, own_fr (own_fr h.own hf1 (fun j hj e => h.hown j hj (.inl e))) hf2 (fun j hj e => h.hown j hj (.inr e)), VsAt.fr hf2 (fun j hj => ⟨by have := dlt j hj; omega, fun e => (h.hD j hj).2.2.1 (.inr e)⟩) outs vs (VsAt.fr hf1 (fun j hj => ⟨dlt j hj, fun e => (h.hD j hj).2.2.1 (.inl e)⟩) outs vs h.vsa), n1, fun j h1 h2 => ?_, fun j hj => apart j (ownlt j hj).2 (h.hown j hj), fun j hj => ⟨(h.hD j hj).1, by have := dlt j hj; have := hf2.size; omega, apart j (dlt j hj) (h.hD j hj).2.2.1, (h.hD j hj).2.2.2⟩, h.len, hs, hn, ?_⟩
  · rcases hF2 j h2 with h3 | h3
    · exact hdis j h1 h3
    · have := hb.1 j h1; omega
  · exact ((Fr.of_below b1).trans hf2 (fun _ _ e => e)).to_below (fun i hi e => by have := h.new i (.inr e); omega)
/-- what was sealed is kept -/
theorem PB.push {w w2 w3 : World} {b : Nat} {F : Nat → Prop} {src : List UInt8} {rows : List BRow} {b2 : Nat} {F2 : Nat → Prop} {l : List UInt8} {d : Nat} {A : Option Addr} {k c : Nat} {vs : List Value} {D : Nat → Prop} {outs : List (List UInt8)} {lo : Nat}
    (h : PB w w2 b F src rows b2 F2 l d A k c vs D outs) {AX : Option Addr} {nx cx : Nat} {X : List UInt8} (hx : w2.ownsRow lo 5 1 (.slice AX nx cx) nx (bs X)) (hlo : w.heap.size ≤ lo) (hxF : ∀ j, (Value.slice AX nx cx).ownBlock = some j → ¬ (F j ∨ F2 j) ∧ (Value.slice A k c).ownBlock ≠ some j) (hX : 16 ≤ X.length ∧ X.length ≤ 2048)
    {A' : Option Addr} {c' : Nat} (ho : w3.ownsRow w.heap.size 22 1 (.slice A' (k + 1) c') (k + 1) (vs ++ [.slice AX nx cx])) (hf : Fr (fun j => some j = (Value.slice A k c).ownBlock) w2 w3) (hor : (Value.slice A' (k + 1) c').ownBlock = (Value.slice A k c).ownBlock ∨ ∀ j, (Value.slice A' (k + 1) c').ownBlock = some j → w2.heap.size ≤ j) :
    PB w w3 b F src rows b2 F2 l d A' (k + 1) c' (vs ++ [.slice AX nx cx]) (fun j => D j ∨ (Value.slice AX nx cx).ownBlock = some j) (outs ++ [X]) := by
  have hM : ∀ j, (F j ∨ F2 j) → ¬ some j = (Value.slice A k c).ownBlock := fun j hj e => h.hown j e.symm hj
  have hD' : ∀ j, (D j ∨ (Value.slice AX nx cx).ownBlock = some j) → w.heap.size ≤ j ∧ j < w2.heap.size ∧ ¬ (F j ∨ F2 j) ∧ (Value.slice A k c).ownBlock ≠ some j := fun j hj => by
    rcases hj with hj | hj
    · exact ⟨(h.hD j hj).1, (h.hD j hj).2.1, (h.hD j hj).2.2.1, (h.hD j hj).2.2.2⟩
    · have h1 := hx.lt j hj
      exact ⟨by omega, h1.2, (hxF j hj).1, (hxF j hj).2⟩
  have hA' : ∀ j, (Value.slice A' (k + 1) c').ownBlock = some j → ¬ (F j ∨ F2 j) := fun j hj e => by
    rcases hor with h1 | h1
    · exact h.hown j (h1 ▸ hj) e
    · have h2 := h1 j hj
      rcases e with e | e
      · have := h.box.1 j e; omega
      · have := h.rbox.1 j e; omega
  refine ⟨h.box.fr hf (fun j hj => hM j (.inl hj)), h.rbox.fr hf (fun j hj => hM j (.inr hj)), ho, ?_, h.new, h.dis, hA', fun j hj => ?_, fun o hoo => ?_, h.srcE, h.num, ?_⟩
  · refine VsAt.append ?_ outs vs (VsAt.mono (fun j hj => .inl hj) outs vs (VsAt.fr hf (fun j hj => ⟨(h.hD j hj).2.1, fun e => (h.hD j hj).2.2.2 e.symm⟩) outs vs h.vsa))
    exact ⟨AX, nx, cx, rfl, ((Sl.of_own hx).fr hf (fun j hj => ⟨hj.2.1, fun e => (hxF j hj.2.2).2 e.symm⟩)).mono (fun j hj => .inr hj.2.2)⟩
  · have h1 := hD' j hj
    refine ⟨h1.1, Nat.lt_of_lt_of_le h1.2.1 hf.size, h1.2.2.1, fun e => ?_⟩
    rcases hor with h2 | h2
    · exact h1.2.2.2 (h2 ▸ e)
    · have := h2 j e; omega
  · rcases List.mem_append.1 hoo with hoo | hoo
    · exact h.len o hoo
    · rw [List.mem_singleton] at hoo; subst hoo; exact hX
  · exact ((Fr.of_below h.bel).trans hf (fun _ _ e => e)).to_below (fun i hi e => by have := (h.own.lt i e.symm).1; omega)
/-- one slice behind slices of one's own -/
theorem append_sl {v : Value} {w : World} {ops : Array Oper} {rest : List Oper} {o : Oper} {a : Act} {Q : Exit → Act → World → Prop} (s x : Operand)
    (ho : o.op = .call { callee := .builtin .append, args := #[s, x], argTypes := #[33, 33] }) (hgd : o.guard = none)
    (base : Nat) (A : Option Addr) (n c : Nat) (xs : List Value) (hs : a.eval s = .slice A n c) (w0 : World) (hw : w = w0.alloc (.cells #[v] 22)) (hx : a.eval x = .slice (some ⟨w0.heap.size, 0, none⟩) 1 1)
    (hown : w0.ownsRow base 22 1 (.slice A n c) n xs) (hv : v.oneCell' = true) (hb : n ≤ 1000000) (hbase : base ≤ w0.heap.size)
    (h : ∀ A' c' w', w'.ownsRow base 22 1 (.slice A' (n + 1) c') (n + 1) (xs ++ [v]) → Fr (fun j => some j = (Value.slice A n c).ownBlock) w0 w' → ((Value.slice A' (n + 1) c').ownBlock = (Value.slice A n c).ownBlock ∨ ∀ j, (Value.slice A' (n + 1) c').ownBlock = some j → w0.heap.size ≤ j) → wpList Try.prog ops Q rest (a.put o.dst (.slice A' (n + 1) c')) w') : wpList Try.prog ops Q (o :: rest) a w := by
  subst hw
  obtain ⟨i, hi, z, sz, bt⟩ := info_parts Try.infoSl
  refine wpList_plain hgd fun _ hK => wp_append_rd _ s x 33 ho base 22 i _ 1 24 Try.underlying33 hi z sz bt rfl (by decide) (.slice A n c) n xs hs (own_fr hown (Fr.of_below (M := NoB) (Below.al w0 _)) (fun _ _ e => e)) (some ⟨w0.heap.size, 0, none⟩) 1 1 [v] hx rfl (Rd.of_block (heap_alloc_new w0 (.cells #[v] 22))) (by intro u hu; simp at hu; subst hu; exact hv) (by unfold maxLen; omega) (by omega) (by rw [World.size_alloc]; omega) fun A' c' w1 ho hg h3 => hK _ _ (h A' c' w1 ho ?_ ?_)
  · exact (Fr.of_below (Below.al w0 _)).trans (Fr.of_grown hg) (fun _ _ e => e)
  · rcases h3 with h3 | h3
    · exact .inl h3
    · refine .inr (fun j hj => ?_)
      rw [h3, World.size_alloc] at hj
      injection hj with hj
      omega
/-- what a round made for itself -/
structure Ob (w wz : World) (lo hi : Nat) (y : OpB) (sl : Bool) (hdn txn g12 gk gn : Nat) : Prop where
  sz : hi ≤ wz.heap.size
  wlo : w.heap.size ≤ lo
  lk : lo ≤ gk ∧ gk < hi
  ln : lo ≤ gn ∧ gn < hi
  l0 : lo ≤ g12 ∧ g12 < hi
  k : wz.heap[gk]? = some (.cells (bs (keyOf [y.kb])).toArray 38 (0, 0))
  n : wz.heap[gn]? = some (.cells (bs (nonceOf [y.nb])).toArray 40 (0, 0))
  o : wz.heap[g12]? = some (.cells y.cells.toArray 35 (0, 0))
  esl : sl = y.sl
  eh : hdn = y.hdn
  et : txn = y.txn
  ok : y.Ok wz (Old w)
namespace Ob
variable {w wz wy : World} {lo hi : Nat} {y : OpB} {sl : Bool} {hdn txn g12 gk gn : Nat}
theorem old (h : Ob w wz lo hi y sl hdn txn g12 gk gn) : ∀ j, Old w j → j < wz.heap.size := fun j hj => by
  have : j < w.heap.size := hj
  have := h.sz; have := h.wlo; have := h.lk; omega
theorem fr {M : Nat → Prop} (h : Ob w wz lo hi y sl hdn txn g12 gk gn) (hf : Fr M wz wy) (hM : ∀ j, M j → (w.heap.size ≤ j ∧ j < lo) ∨ hi ≤ j) : Ob w wy lo hi y sl hdn txn g12 gk gn := by
  have st : ∀ g o, lo ≤ g ∧ g < hi → wz.heap[g]? = some o → wy.heap[g]? = some o := fun g o hg ho => (hf.block g (by have := h.sz; omega) (fun e => by rcases hM g e with h1 | h1 <;> omega)).trans ho
  refine ⟨Nat.le_trans h.sz hf.size, h.wlo, h.lk, h.ln, h.l0, st _ _ h.lk h.k, st _ _ h.ln h.n, st _ _ h.l0 h.o, h.esl, h.eh, h.et, h.ok.fr hf (fun j hj => ⟨h.old j hj, fun e => ?_⟩)⟩
  have h1 : j < w.heap.size := hj
  have := h.wlo; have := h.lk
  rcases hM j e with h2 | h2 <;> omega
theorem bel (h : Ob w wz lo hi y sl hdn txn g12 gk gn) (hb : Below wz.heap.size wz wy) : Ob w wy lo hi y sl hdn txn g12 gk gn := h.fr (Fr.of_below (M := NoB) hb) (fun _ e => e.elim)
theorem c0 (h : Ob w wz lo hi y sl hdn txn g12 gk gn) : wz.cell? ⟨g12, 0, none⟩ = some (.bool sl) := by rw [cell_of_row _ _ _ _ _ _ h.o, h.esl]; rfl
theorem c3 (h : Ob w wz lo hi y sl hdn txn g12 gk gn) : wz.cell? ⟨g12, 3, none⟩ = some (.slice y.hdA hdn y.hdc) := by rw [cell_of_row _ _ _ _ _ _ h.o, h.eh]; rfl
theorem c4 (h : Ob w wz lo hi y sl hdn txn g12 gk gn) : wz.cell? ⟨g12, 4, none⟩ = some (.slice y.txA txn y.txc) := by rw [cell_of_row _ _ _ _ _ _ h.o, h.et]; rfl
theorem lg (h : Ob w wz lo hi y sl hdn txn g12 gk gn) : g12 < wz.heap.size := by have := h.sz; have := h.l0; omega
theorem lgk (h : Ob w wz lo hi y sl hdn txn g12 gk gn) : gk < wz.heap.size := by have := h.sz; have := h.lk; omega
theorem lgn (h : Ob w wz lo hi y sl hdn txn g12 gk gn) : gn < wz.heap.size := by have := h.sz; have := h.ln; omega
theorem rk (h : Ob w wz lo hi y sl hdn txn g12 gk gn) : Hid (wz.rangeAt gk 0 (bs (keyOf [y.kb]))) := range_block h.k
theorem rn (h : Ob w wz lo hi y sl hdn txn g12 gk gn) : Hid (wz.rangeAt gn 0 (bs (nonceOf [y.nb]))) := range_block h.n
theorem ro (h : Ob w wz lo hi y sl hdn txn g12 gk gn) : Hid (wz.rangeAt g12 0 y.cells) := range_block h.o
theorem hd (h : Ob w wz lo hi y sl hdn txn g12 gk gn) : Sl wz (Old w) y.hdA hdn y.hdc y.hd := by have := h.ok.hd; rw [← h.eh] at this; exact this
theorem tx (h : Ob w wz lo hi y sl hdn txn g12 gk gn) : Sl wz (Old w) y.txA txn y.txc y.tx := by have := h.ok.tx; rw [← h.et] at this; exact this
end Ob
theorem fr_grown {a b : World} {g n c : Nat} (h : a.grownBy b (Value.ownBlock (.slice (some ⟨g, 0, none⟩) n c))) : Fr (fun j => some j = some g) a b := Fr.of_grown h
/-- blocks made since a round began are none of the boxes' -/
theorem PB.fr_at {w wr wx : World} {b : Nat} {F : Nat → Prop} {src : List UInt8} {rows : List BRow} {b2 : Nat} {F2 : Nat → Prop} {l : List UInt8} {d : Nat} {A : Option Addr} {k c : Nat} {vs : List Value} {D : Nat → Prop} {outs : List (List UInt8)}
    (h : PB w wr b F src rows b2 F2 l d A k c vs D outs) {g : Nat} (hf : Fr (fun j => some j = some g) wr wx) (hg : w.heap.size ≤ g) (hn : ¬ PBf F F2 A k c D g) : PB w wx b F src rows b2 F2 l d A k c vs D outs :=
  h.fr hf (fun j hj e => by injection e with e; subst e; exact hn hj) (fun j e => by injection e with e; subst e; exact hg)
set_option maxRecDepth 100000 in
set_option maxHeartbeats 8000000 in
theorem BoxPlays_any (w : World) {A : Option Addr} {n c : Nat} {l : List UInt8} (h : Sl w (Old w) A n c l) (hb : n ≤ 140737488355000) {A' : Option Addr} {n' c' : Nat} {ps : List OpB} (h' : OpBSl w (Old w) A' n' c' ps) (_ : n' ≤ 140737488355000) :
    Calls Try.prog 3 #[.slice A n c, .slice A' n' c'] w fun e w' => e = .returned (.bool true) ∧ Below w.heap.size w w' := by
  have H := Lib.hid h; have H' := Lib.hid h'
  have HL := Lib.hid h'.len
  have HLl := Lib.hid h.len
  clear h h'
  have uO := Lib.hid Try.underlying35
  have uK := Lib.hid Try.underlying38
  have uN := Lib.hid Try.underlying40
  have iO : Hid (∀ y : OpB, (Try.prog.info? 35).map (·.size) = some y.cells.length) := Lib.hid (fun y => by rw [OpB.cells_len]; kernel_rfl)
  obtain ⟨io, hio, hzz⟩ := Option.map_eq_some_iff.1 Try.infoOpB
  simp only [Prod.mk.injEq] at hzz
  obtain ⟨zo, hzo, hzs⟩ := Option.map_eq_some_iff.1 hzz.1
  have HIO := Lib.hid hio; have HZO := Lib.hid hzo; have HZS := Lib.hid hzs
  clear hio hzo hzs hzz
  obtain ⟨iK0, hiK0, zK0, _, _⟩ := info_parts Try.inK0
  obtain ⟨iN0, hiN0, zN0, _, _⟩ := info_parts Try.inN0
  have HiK0 := Lib.hid hiK0; have HzK0 := Lib.hid zK0; have HiN0 := Lib.hid hiN0; have HzN0 := Lib.hid zN0
  clear hiK0 zK0 hiN0 zN0
  go_enter Try.func3, Try.ntmps3
  go_wp2_with fail
  refine (LentBytes_sl H.out (fun _ h => h) (by omega)).mono ?_
  rintro e w1 ⟨g, cg, rfl, ho1, hb1⟩
  have O1 := Lib.hid ho1; have B1 := Lib.hid hb1
  have GG : Hid (w.heap.size ≤ g ∧ g < w1.heap.size) := ho1.lt g rfl
  have S1 : Hid (Sl w1 (fun k => w.heap.size ≤ k ∧ k < w1.heap.size) (some ⟨g, 0, none⟩) n cg l) := (Sl.take_ (Sl.of_own ho1) HLl.out).mono (fun k hk => ⟨hk.1, hk.2.1⟩)
  have hcg : n ≤ cg := S1.out.cap
  clear ho1 hb1
  go_wp2_with fail
  refine (New_any S1.out (fun k hk => hk.2) (by omega)).mono ?_
  rintro e w2 ⟨b, F, rfl, hbx, hb2, hF⟩
  have BX := Lib.hid hbx; have HF := Lib.hid hF
  have B2 := Lib.hid (Below.tr B1.out hb2)
  have O2 := Lib.hid (own_fr O1.out (Fr.of_below (M := NoB) hb2) (fun _ _ e => e))
  have S2 := Lib.hid (H.out.belF B2.out (fun _ h => h))
  have Z12 : Hid (w1.heap.size ≤ w2.heap.size) := hb2.size
  clear hbx hb2 hF S1 O1 hcg
  go_wp2_with fail
  refine (RNew_any S2.out (fun k hk => Nat.lt_of_lt_of_le hk B2.out.size) (by omega)).mono ?_
  rintro e w3 ⟨b2, F2, rfl, hrb, hb3, hF2⟩
  have B3 := Lib.hid (Below.tr B2.out hb3)
  have BX3 := Lib.hid (BX.out.fr (Fr.of_below (M := NoB) hb3) (fun _ _ e => e))
  have O3 := Lib.hid (own_fr O2.out (Fr.of_below (M := NoB) hb3) (fun _ _ e => e))
  have P3 : Hid (PB w w3 b F l [] b2 F2 l 0 none 0 0 [] NoB []) := by
    refine ⟨BX3.out, hrb, World.ownsRow_nil _ _ _ _, rfl, fun j hj => ?_, fun j hj e => ?_, fun j hj => (by cases hj), fun j hj => hj.elim, fun o ho => (by cases ho), rfl, NumRows.nil, B3.out⟩
    · rcases hj with hj | hj
      · exact Nat.le_trans B1.out.size (HF.out j hj)
      · exact Nat.le_trans B2.out.size (hF2 j hj)
    · have h1 := BX.out.1 j hj
      have h2 := hF2 j e
      omega
  have FN : Hid (∀ j, w.heap.size ≤ j ∧ j < w1.heap.size → ¬ PBf F F2 none 0 0 NoB j) := Lib.hid (fun j hj e => by
    rcases e with e | e | e | e
    · have := HF.out j e; omega
    · have := hF2 j e; have := Z12.out; omega
    · cases e
    · exact e)
  have S3 := Lib.hid (H.out.belF B3.out (fun _ h => h))
  have M3 : Hid (Sl w3 (fun k => k < w3.heap.size) (some ⟨g, 0, none⟩) (n + 5) cg (l ++ marks)) := (Sl.of_own O3.out).mono (fun k hk => hk.2.1)
  have GI := Lib.hid (O3.out.lt g rfl)
  clear hrb hb3 hF2 BX O2 S2 BX3
  go_wp2_with fail
  refine (KeptBytes_sl M3.out (fun k hk => hk) S3.out (fun k hk => Nat.lt_of_lt_of_le hk B3.out.size) (by omega)).mono ?_
  rintro e w4 ⟨rfl, hb4⟩
  have P4 := Lib.hid (P3.out.old hb4)
  have O4 := Lib.hid (own_fr O3.out (Fr.of_below (M := NoB) hb4) (fun _ _ e => e))
  clear hb4 M3 S3 O3
  go_wp2_with fail
  refine (SpoilBytes_any w.heap.size (some ⟨g, 0, none⟩) (n + 5) cg (n + 5) _ w4 O4.out (Nat.le_refl _) (by omega)).mono ?_
  rintro e w5 ⟨rfl, hg5⟩
  have GI1 : Hid (w.heap.size ≤ g ∧ g < w1.heap.size) := GG.out
  have P5 : Hid (PB w w5 b F l [] b2 F2 l 0 none 0 0 [] NoB []) := P4.out.fr ((Fr.of_grown hg5).mono (fun k _ e => by injection e.symm with e; exact e.symm) : Fr (fun k => k = g) w4 w5) (fun j hj e => by subst e; exact FN.out j GI1.out hj) (fun j e => by subst e; exact GI1.out.1)
  clear hg5 O4 P4 P3 FN GI B1 B2 B3 Z12
  go_wp2_with fail
  go_loopw [9, 10, 11] (fun sv hv iv wr => ∃ (i k cc d : Nat) (AA : Option Addr) (F : Nat → Prop) (src : List UInt8) (rows : List BRow) (F2 : Nat → Prop) (vs : List Value) (D : Nat → Prop) (outs : List (List UInt8)), i ≤ 60 ∧ i ≤ n' ∧ k ≤ i ∧ d ≤ i * 2000 ∧ sv = .bool true ∧ hv = .slice AA k cc ∧ iv = .int .i64 (i : Nat) ∧ Hid (PB w wr b F src rows b2 F2 l d AA k cc vs D outs ∧ outs.length = k ∧ rows.length ≤ i)) (fun _ _ iv _ => 60 - (intOf iv).toNat)
  case atStart => exact ⟨0, 0, 0, 0, none, F, l, [], F2, [], NoB, [], Nat.zero_le _, Nat.zero_le _, Nat.zero_le _, Nat.zero_le _, rfl, rfl, rfl, Lib.hid ⟨P5.out, rfl, Nat.le_refl _⟩⟩
  case round =>
    clear P5 HF
    obtain ⟨i, k, cc, d, AA, F, src, rows, F2, vs, D, outs, hi, hin, hki, hdi, rfl, rfl, rfl, I⟩ := hrel
    have hi0 : (0 : Int) ≤ (i : Int) := by omega
    have P := Lib.hid I.out.1
    have OK := Lib.hid I.out.2.1
    have RL := Lib.hid I.out.2.2
    clear I
    have KN : Hid (∀ wx : World, Below w.heap.size w wx → Calls Try.prog 12 #[] wx fun e w' => e = .returned (.bool true) ∧ Below w.heap.size w w') := Lib.hid (fun wx hb => (known_any wx).mono (fun e w' ⟨a, c⟩ => ⟨a, Below.tr hb c⟩))
    by_cases hlt : i < n' ∧ i < 60
    · obtain ⟨hl1, hl2⟩ := hlt
      have h1I : (i : Int) < (n' : Int) := by omega
      have h2I : (i : Int) < 60 := by omega
      have hil : i < ps.length := by rw [HL.out]; exact hl1
      obtain ⟨b0, o0, rfl, hb0, hok, hr⟩ := (H'.out.bel P.out.bel (fun _ h => h)).at_ i hil
      obtain ⟨y, hy⟩ : ∃ y, y = ps[i] := ⟨_, rfl⟩
      rw [← hy] at hok hr
      have HOK := Lib.hid hok; have HR := Lib.hid hr
      clear hy hok hr hb0
      have iy := Lib.hid (iO.out y)
      have y1 := Lib.hid y.one
      go_wp2_with (first
        | ((with_reducible refine lst_load_mid 35 (.tmp 53) rfl b0 (o0 + i * 7) rfl y.cells _ HR.out uO.out rfl iy.out ?_ ?_)
           (focus rfl))
        | ((with_reducible refine lst_alloc_d 12 rfl 35 rfl io zo HIO.out HZO.out ?_ ?_)
           (focus rfl)
           intro g12 w2 Hg12 Hh12 hb12)
        | ((with_reducible refine lst_store_abs 35 (.tmp 12) (.tmp 54) rfl g12 35 zo.cells y.cells.toArray rfl rfl Hh12.out (by simpa using iy.out) (by rw [HZS.out]; simp [OpB.cells_len]) (by simpa using y1.out) ?_ ?_)
           (focus rfl)
           intro w3 Hh3 hg3
           have B3 : Hid (Below wr.heap.size wr w3) := hb12.grown hg3 hb12.size (fun k hk => by injection hk with hk; have := Hg12.out.1; omega)
           have G12 : Hid (wr.heap.size ≤ g12) := by have := Hg12.out.1; show _ ≤ _; omega
           obtain ⟨sl, hsl⟩ : ∃ sl, sl = y.sl := ⟨_, rfl⟩
           obtain ⟨hdn, hhdn⟩ : ∃ hdn, hdn = y.hdn := ⟨_, rfl⟩
           obtain ⟨txn, htxn⟩ : ∃ txn, txn = y.txn := ⟨_, rfl⟩
           have HSL := Lib.hid hsl; have HHN := Lib.hid hhdn; have HTN := Lib.hid htxn
           have CY : Hid (∀ wx : World, wx.heap[g12]? = some (.cells y.cells.toArray 35 (0, 0)) → wx.cell? ⟨g12, 0, none⟩ = some (.bool sl) ∧ wx.cell? ⟨g12, 1, none⟩ = some (bv y.kb) ∧ wx.cell? ⟨g12, 2, none⟩ = some (bv y.nb) ∧ wx.cell? ⟨g12, 3, none⟩ = some (.slice y.hdA hdn y.hdc) ∧ wx.cell? ⟨g12, 4, none⟩ = some (.slice y.txA txn y.txc)) := Lib.hid (fun wx h => by
             rw [HSL.out, HHN.out, HTN.out]
             refine ⟨?_, ?_, ?_, ?_, ?_⟩ <;> (rw [cell_of_row _ _ _ _ _ _ h]; rfl))
           obtain ⟨-, -, -, c3, c4⟩ := CY.out w3 Hh3.out
           have HC3 := Lib.hid Hh3.out
           have lg12 := block_lt_of c3
           clear Hg12 Hh12 hb12 Hh3 hg3 hsl hhdn htxn)
        | fail)
      all_goals first
        | (refine (KN.out _ (Below.tr P.out.bel B3.out)).mono ?_
           rintro e w' ⟨rfl, hb⟩
           go_wp2_with fail
           go_ret
           exact ⟨rfl, hb⟩)
        | skip
      have hq1 : hdn ≤ 1024 := by omega
      have hq2 : txn ≤ 1024 := by omega
      obtain ⟨-, c1, c2, -, -⟩ := CY.out w3 HC3.out
      have bk : ∀ wx : World, (Instr.build 38 #[(0, bv y.kb)]).run Try.prog wx = .ok (.agg (bs (keyOf [y.kb])).toArray) wx := fun wx => build_keyU wx y.kb
      have bn : ∀ wx : World, (Instr.build 40 #[(0, bv y.nb)]).run Try.prog wx = .ok (.agg (bs (nonceOf [y.nb])).toArray) wx := fun wx => build_nonceU wx y.nb
      have iK : Hid ((Try.prog.info? 38).map (·.size) = some (bs (keyOf [y.kb])).length) := by rw [bs_length, keyOf_len]; exact Try.szK
      have iN : Hid ((Try.prog.info? 40).map (·.size) = some (bs (nonceOf [y.nb])).length) := by rw [bs_length, nonceOf_len]; exact Try.szN
      have P3 := Lib.hid (P.out.old B3.out)
      go_cut [13, 14] from 66 to 71 (fun s13 s14 wx => ∃ gk gn, s13 = .pointer (some ⟨gk, 0, none⟩) ∧ s14 = .pointer (some ⟨gn, 0, none⟩) ∧ Hid (Below w3.heap.size w3 wx ∧ (w3.heap.size ≤ gk ∧ w3.heap.size ≤ gn) ∧ wx.heap[gk]? = some (.cells (bs (keyOf [y.kb])).toArray 38 (0, 0)) ∧ wx.heap[gn]? = some (.cells (bs (nonceOf [y.nb])).toArray 40 (0, 0))))
      case first =>
        --dev<
        refine wp_calm ?_
        refine wp_region_os (fun _ w' => Below (w3).drew.heap.size (w3).drew w') [1, 4] (.move 0 (.take 1 (.move 2 (.move 3 (.take 4 (.move 5 (.two 6 [1, 4] (.run 7 [1, 4] (.run 8 [4] (.run 9 [] .done))) 7 [1, 4] (.run 6 [1, 4] (.run 8 [4] (.run 9 [] .done)))))))))) (by kernel_rfl) (by kernel_rfl) (fun _ _ _ _ _ h => nomatch h.1) ?_
        have hS0 : Below (w3).drew.heap.size (w3).drew (w3).drew := Below.refl _ _
        refine os_move rfl rfl rfl (Nat.le_of_ble_eq_true rfl) ?_
        apply Exists.intro
        refine ⟨fun w' K hK => ?_, ?_⟩
        (focus
          go_simp
          exact hK)
        refine os_yld hS0 rfl rfl rfl (Nat.le_of_ble_eq_true rfl) ?_
        apply Exists.intro
        refine ⟨fun w' hS' K hK => ?_, ?_⟩
        (focus
          obtain ⟨hcc, hff⟩ := bcellB (Below.undr hS')
          clear hS'
          go_simp
          exact hK)
        refine os_build 38 _ #[(0, bv y.kb)] _ rfl rfl rfl rfl (by simp only [List.map_toArray, List.map_cons, List.map_nil]; rfl) bk ⟨_, rfl, ?_⟩
        refine os_move rfl rfl rfl (Nat.le_of_ble_eq_true rfl) ?_
        apply Exists.intro
        refine ⟨fun w' K hK => ?_, ?_⟩
        (focus
          go_simp
          exact hK)
        refine os_yld hS0 rfl rfl rfl (Nat.le_of_ble_eq_true rfl) ?_
        apply Exists.intro
        refine ⟨fun w' hS' K hK => ?_, ?_⟩
        (focus
          obtain ⟨hcc, hff⟩ := bcellB (Below.undr hS')
          clear hS'
          go_simp
          exact hK)
        refine os_build 40 _ #[(0, bv y.nb)] _ rfl rfl rfl rfl (by simp only [List.map_toArray, List.map_cons, List.map_nil]; rfl) bn ⟨_, rfl, ?_⟩
        refine os_two rfl rfl rfl rfl (fun K hK => ?_) (fun K hK => ?_)
        · refine wp_alloc_abs 38 rfl iK0 _ HiK0.out HzK0.out ?_
          intro gk wk Hgk Hhk hbk
          refine hK _ _ ⟨fun _ _ h => Below.tr h (hbk), ?_⟩
          clear hK
          replace hS0 := Below.tr hS0 (hbk)
          refine os_run rfl rfl (fun K hK => ?_)
          refine wp_alloc_abs 40 rfl iN0 _ HiN0.out HzN0.out ?_
          intro gn wn Hgn Hhn hbn
          refine hK _ _ ⟨fun _ _ h => Below.tr h (hbn), ?_⟩
          clear hK
          replace hS0 := Below.tr hS0 (hbn)
          refine os_run rfl rfl (fun K hK => ?_)
          have Hhk2 := heap_bel Hhk.out hbn
          have Hhn2 := Hhn.out
          have e1 := Hgk.out; have e2 := Hgn.out
          have e3 : w3.drew.heap.size = w3.heap.size := rfl
          have hne : gk ≠ gn := by omega
          refine wp_store_abs 38 (.tmp 13) (.tmp 68) rfl gk 38 _ (bs (keyOf [y.kb])).toArray rfl rfl Hhk2 (by simpa using iK.out) (by simp [Value.cells, bs_length, keyOf_len]) (by simp; exact bs_oneCell _) ?_
          intro w8 Hh8 hg8
          have hh8 := (hg8.block gn (by omega) (by simp; omega)).trans Hhn2
          have hb8 : Below w3.heap.size w3 w8 := (Below.tr (Below.dr1 w3) (Below.tr hbk hbn)).grown hg8 (Below.tr (Below.dr1 w3) (Below.tr hbk hbn)).size (fun j hj => by injection hj with hj; omega)
          have hl8 : gk < w8.heap.size ∧ gn < w8.heap.size := by have := hg8.size; omega
          refine hK _ _ ⟨fun _ _ _ => Below.dr hb8, ?_⟩
          clear hK
          replace hS0 := Below.dr hb8
          refine os_run rfl rfl (fun K hK => ?_)
          refine wp_store_abs 40 (.tmp 14) (.tmp 71) rfl gn 40 _ (bs (nonceOf [y.nb])).toArray rfl rfl hh8 (by simpa using iN.out) (by simp [Value.cells, bs_length, nonceOf_len]) (by simp; exact bs_oneCell _) ?_
          intro w9 Hh9 hg9
          have hh9 := (hg9.block gk hl8.1 (by simp; omega)).trans Hh8.out
          have hb9 : Below w3.heap.size w3 w9 := hb8.grown hg9 hb8.size (fun j hj => by injection hj with hj; omega)
          refine hK _ _ ⟨fun _ hk => absurd hk List.not_mem_nil, ?_⟩
          clear hK
          refine os_done ⟨rfl, ?_⟩
          go_wp2_with fail
          go_meet
          exact ⟨gk, gn, rfl, rfl, Lib.hid ⟨hb9, ⟨by omega, by omega⟩, hh9, Hh9.out⟩⟩
        · refine wp_alloc_abs 40 rfl iN0 _ HiN0.out HzN0.out ?_
          intro gn wn Hgn Hhn hbn
          refine hK _ _ ⟨fun _ _ h => Below.tr h (hbn), ?_⟩
          clear hK
          replace hS0 := Below.tr hS0 (hbn)
          refine os_run rfl rfl (fun K hK => ?_)
          refine wp_alloc_abs 38 rfl iK0 _ HiK0.out HzK0.out ?_
          intro gk wk Hgk Hhk hbk
          refine hK _ _ ⟨fun _ _ h => Below.tr h (hbk), ?_⟩
          clear hK
          replace hS0 := Below.tr hS0 (hbk)
          refine os_run rfl rfl (fun K hK => ?_)
          have Hhk2 := Hhk.out
          have Hhn2 := heap_bel Hhn.out hbk
          have e1 := Hgk.out; have e2 := Hgn.out
          have e3 : w3.drew.heap.size = w3.heap.size := rfl
          have hne : gk ≠ gn := by omega
          refine wp_store_abs 38 (.tmp 13) (.tmp 68) rfl gk 38 _ (bs (keyOf [y.kb])).toArray rfl rfl Hhk2 (by simpa using iK.out) (by simp [Value.cells, bs_length, keyOf_len]) (by simp; exact bs_oneCell _) ?_
          intro w8 Hh8 hg8
          have hh8 := (hg8.block gn (by omega) (by simp; omega)).trans Hhn2
          have hb8 : Below w3.heap.size w3 w8 := (Below.tr (Below.dr1 w3) (Below.tr hbn hbk)).grown hg8 (Below.tr (Below.dr1 w3) (Below.tr hbn hbk)).size (fun j hj => by injection hj with hj; omega)
          have hl8 : gk < w8.heap.size ∧ gn < w8.heap.size := by have := hg8.size; omega
          refine hK _ _ ⟨fun _ _ _ => Below.dr hb8, ?_⟩
          clear hK
          replace hS0 := Below.dr hb8
          refine os_run rfl rfl (fun K hK => ?_)
          refine wp_store_abs 40 (.tmp 14) (.tmp 71) rfl gn 40 _ (bs (nonceOf [y.nb])).toArray rfl rfl hh8 (by simpa using iN.out) (by simp [Value.cells, bs_length, nonceOf_len]) (by simp; exact bs_oneCell _) ?_
          intro w9 Hh9 hg9
          have hh9 := (hg9.block gk hl8.1 (by simp; omega)).trans Hh8.out
          have hb9 : Below w3.heap.size w3 w9 := hb8.grown hg9 hb8.size (fun j hj => by injection hj with hj; omega)
          refine hK _ _ ⟨fun _ hk => absurd hk List.not_mem_nil, ?_⟩
          clear hK
          refine os_done ⟨rfl, ?_⟩
          go_wp2_with fail
          go_meet
          exact ⟨gk, gn, rfl, rfl, Lib.hid ⟨hb9, ⟨by omega, by omega⟩, hh9, Hh9.out⟩⟩
        --dev>
      case rest =>
        obtain ⟨gk, gn, rfl, rfl, H7⟩ := hcut
        have z3 := B3.out.size
        have zc := H7.out.1.size
        have lkc := (Array.getElem?_eq_some_iff.1 H7.out.2.2.1).1
        have lnc := (Array.getElem?_eq_some_iff.1 H7.out.2.2.2).1
        have OB : Hid (Ob w wc wr.heap.size wc.heap.size y sl hdn txn g12 gk gn) := Lib.hid ⟨Nat.le_refl _, P.out.bel.size, ⟨by have := H7.out.2.1.1; omega, lkc⟩, ⟨by have := H7.out.2.1.2; omega, lnc⟩, ⟨G12.out, by omega⟩, H7.out.2.2.1, H7.out.2.2.2, heap_bel HC3.out H7.out.1, HSL.out, HHN.out, HTN.out, HOK.out.bel (Below.tr B3.out H7.out.1) (fun j hj => Nat.lt_of_lt_of_le hj P.out.bel.size)⟩
        have hwa := HOK.out.aa
        have hwt := HOK.out.tn
        have HWA := Lib.hid hwa; have HWT := Lib.hid hwt
        have HSE := P.out.srcE
        subst HSE
        have ZC : Hid (w.heap.size ≤ wr.heap.size ∧ wr.heap.size ≤ wc.heap.size) := ⟨P.out.bel.size, by omega⟩
        have PC := Lib.hid (P3.out.old H7.out.1)
        have LTP : Hid (∀ j, PBf F F2 AA k cc D j → w.heap.size ≤ j ∧ j < wr.heap.size) := Lib.hid (fun j hj => P.out.lt hj)
        clear P3 B3 P HOK HC3 CY H7 HR HSL HHN HTN z3 zc lkc lnc c1 c2 bk bn lg12 G12 hwa hwt iy y1
        have c3 := OB.out.c3
        have lg := OB.out.lg
        go_wp2_with fail
        refine (LentBytes_sl OB.out.hd OB.out.old (by omega)).mono ?_
        rintro e w4 ⟨gh, ch, rfl, ho4, hb4⟩
        have OH := Lib.hid ho4
        have GH : Hid (wc.heap.size ≤ gh ∧ gh < w4.heap.size) := Lib.hid (ho4.lt gh rfl)
        have B4 := Lib.hid hb4
        replace OB := Lib.hid (OB.out.bel hb4)
        have P4 := Lib.hid (PC.out.old hb4)
        have Z4 : Hid (wc.heap.size ≤ w4.heap.size) := hb4.size
        clear ho4 hb4 c3 lg PC
        have c0 := OB.out.c0
        have c4 := OB.out.c4
        have lg := OB.out.lg
        cases sl with
        | true =>
          go_wp2_with fail
          refine (LentBytes_sl OB.out.tx OB.out.old (by omega)).mono ?_
          rintro e w5 ⟨gt, ct, rfl, ho5, hb5⟩
          have OT := Lib.hid ho5
          have GT : Hid (w4.heap.size ≤ gt ∧ gt < w5.heap.size) := Lib.hid (ho5.lt gt rfl)
          replace OB := Lib.hid (OB.out.bel hb5)
          replace OH := Lib.hid (own_fr OH.out (Fr.of_below (M := NoB) hb5) (fun _ _ e => e))
          have P5 := Lib.hid (P4.out.old hb5)
          have Z5 : Hid (w4.heap.size ≤ w5.heap.size) := hb5.size
          have SH : Hid (Sl w5 (fun j => wc.heap.size ≤ j ∧ j < w5.heap.size) (some ⟨gh, 0, none⟩) hdn ch y.hd) := (Sl.take_ (Sl.of_own OH.out) OB.out.hd.len).mono (fun j hj => ⟨hj.1, hj.2.1⟩)
          have ST : Hid (Sl w5 (fun j => wc.heap.size ≤ j ∧ j < w5.heap.size) (some ⟨gt, 0, none⟩) txn ct y.tx) := (Sl.take_ (Sl.of_own OT.out) OB.out.tx.len).mono (fun j hj => ⟨Nat.le_trans Z4.out hj.1, hj.2.1⟩)
          have hch : hdn ≤ ch := SH.out.cap
          have hct : txn ≤ ct := ST.out.cap
          clear ho5 hb5 c0 c4 lg P4
          go_wp2_with fail
          have c3 := OB.out.c3
          have c4 := OB.out.c4
          have lg := OB.out.lg
          have r1 := OB.out.rk
          have r2 := OB.out.rn
          have l1 := OB.out.lgk
          have l2 := OB.out.lgn
          refine wp_calm ?_
          refine wp_region_oc (fun _ w' => Below (w5).drew.heap.size (w5).drew w') [1, 2, 5, 10] [(13, 5, [7, 6]), (13, 10, [12, 11])] (.move 0 (.take 1 (.take 2 (.move 3 (.move 4 (.take 5 (.move 6 (.move 7 (.move 8 (.move 9 (.take 10 (.move 11 (.move 12 (.run 13 [] (.move 14 .done))))))))))))))) (by kernel_rfl) (by kernel_rfl) (fun _ _ _ _ _ h => nomatch h.1) ?_
          have hS0 : Below (w5).drew.heap.size (w5).drew (w5).drew := Below.refl _ _
          refine os_move rfl rfl rfl (Nat.le_of_ble_eq_true rfl) ?_
          apply Exists.intro
          refine ⟨fun w' K hK => ?_, ?_⟩
          (focus
            go_simp
            exact hK)
          refine os_load_mid 38 (.tmp 13) (gk) (0) (bs (keyOf [y.kb])) _ hS0 rfl rfl rfl rfl rfl (uK.out) rfl (iK.out) (fun w' h => rangeAt_bel (range_dr (r1.out)) h l1) ⟨_, rfl, ?_⟩
          refine os_load_mid 40 (.tmp 14) (gn) (0) (bs (nonceOf [y.nb])) _ hS0 rfl rfl rfl rfl rfl (uN.out) rfl (iN.out) (fun w' h => rangeAt_bel (range_dr (r2.out)) h l2) ⟨_, rfl, ?_⟩
          refine os_move rfl rfl rfl (Nat.le_of_ble_eq_true rfl) ?_
          apply Exists.intro
          refine ⟨fun w' K hK => ?_, ?_⟩
          (focus
            go_simp
            exact hK)
          refine os_move rfl rfl rfl (Nat.le_of_ble_eq_true rfl) ?_
          apply Exists.intro
          refine ⟨fun w' K hK => ?_, ?_⟩
          (focus
            go_simp
            exact hK)
          refine os_yld hS0 rfl rfl rfl (Nat.le_of_ble_eq_true rfl) ?_
          apply Exists.intro
          refine ⟨fun w' hS' K hK => ?_, ?_⟩
          (focus
            obtain ⟨hcc, hff⟩ := bcellB (Below.undr hS')
            clear hS'
            go_simp
            exact hK)
          refine os_move rfl rfl rfl (Nat.le_of_ble_eq_true rfl) ?_
          apply Exists.intro
          refine ⟨fun w' K hK => ?_, ?_⟩
          (focus
            go_simp
            exact hK)
          refine os_move rfl rfl rfl (Nat.le_of_ble_eq_true rfl) ?_
          apply Exists.intro
          refine ⟨fun w' K hK => ?_, ?_⟩
          (focus
            go_simp
            exact hK)
          refine os_move rfl rfl rfl (Nat.le_of_ble_eq_true rfl) ?_
          apply Exists.intro
          refine ⟨fun w' K hK => ?_, ?_⟩
          (focus
            go_simp
            exact hK)
          refine os_move rfl rfl rfl (Nat.le_of_ble_eq_true rfl) ?_
          apply Exists.intro
          refine ⟨fun w' K hK => ?_, ?_⟩
          (focus
            go_simp
            exact hK)
          refine os_yld hS0 rfl rfl rfl (Nat.le_of_ble_eq_true rfl) ?_
          apply Exists.intro
          refine ⟨fun w' hS' K hK => ?_, ?_⟩
          (focus
            obtain ⟨hcc, hff⟩ := bcellB (Below.undr hS')
            clear hS'
            go_simp
            exact hK)
          refine os_move rfl rfl rfl (Nat.le_of_ble_eq_true rfl) ?_
          apply Exists.intro
          refine ⟨fun w' K hK => ?_, ?_⟩
          (focus
            go_simp
            exact hK)
          refine os_move rfl rfl rfl (Nat.le_of_ble_eq_true rfl) ?_
          apply Exists.intro
          refine ⟨fun w' K hK => ?_, ?_⟩
          (focus
            go_simp
            exact hK)
          refine os_run rfl rfl (fun K hK => ?_)
          go_wp2_with fail
          refine (Seal_any b F (fun j => wc.heap.size ≤ j ∧ j < w5.heap.size) (l.drop d) rows _ (P5.out.box.fr (Fr.of_below (M := NoB) (Below.undr hS0)) (fun _ _ e => e)) (keyOf [y.kb]) (nonceOf [y.nb]) rfl rfl _ _ _ y.hd (SH.out.belF (Below.undr hS0) (fun j hj => hj.2)) _ _ _ y.tx (ST.out.belF (Below.undr hS0) (fun j hj => hj.2)) (fun j hj => ⟨Nat.lt_of_lt_of_le hj.2 (Below.undr hS0).size, fun e => by have h1 := (LTP.out j (.inl e)).2; have h2 := ZC.out.2; have h3 := hj.1; omega⟩) (by omega) (by omega) (by have := RL.out; omega)).mono ?_
          rintro e w6 ⟨F', ga, ca, rfl, oa, bx, hF', hga, hf⟩
          have f6 : Hid (Fr F w5 w6) := Lib.hid ((Fr.of_below (Below.undr hS0)).trans hf (fun _ _ e => e))
          have OA : Hid (w6.ownsRow w5.heap.size 5 1 (.slice (some ⟨ga, 0, none⟩) (16 + txn) ca) (16 + txn) (bs (sealOf rows.length txn (l.drop d)))) := Lib.hid (own_mono oa (Below.undr hS0).size)
          have HF' : Hid (∀ j, F' j → F j ∨ w5.heap.size ≤ j) := Lib.hid (fun j hj => (hF' j hj).imp id (fun h => Nat.le_trans (Below.undr hS0).size h))
          have GA : Hid (w5.heap.size ≤ ga ∧ ga < w6.heap.size) := Lib.hid (OA.out.lt ga rfl)
          have BX := Lib.hid bx
          have HGA := Lib.hid hga
          clear oa bx hF' hga hf
          go_wp2_with fail
          refine ⟨fun _ hk => absurd hk List.not_mem_nil, ?_⟩
          refine os_move rfl rfl rfl (Nat.le_of_ble_eq_true rfl) ?_
          apply Exists.intro
          refine ⟨fun w' K hK => ?_, ?_⟩
          (focus
            go_simp
            exact hK)
          refine os_done ⟨rfl, ?_⟩
          replace OB := Lib.hid (OB.out.fr f6.out (fun j hj => .inl (LTP.out j (.inl hj))))
          have nFh : Hid (∀ j, wc.heap.size ≤ j → ¬ F j ∧ ¬ F2 j) := Lib.hid (fun j hj => ⟨fun e => by have h1 := (LTP.out j (.inl e)).2; have h2 := ZC.out.2; omega, fun e => by have h1 := (LTP.out j (.inr (.inl e))).2; have h2 := ZC.out.2; omega⟩)
          replace OH := Lib.hid (own_fr OH.out f6.out (fun j hj e => (nFh.out j (OH.out.lt j hj).1).1 e))
          replace OT := Lib.hid (own_fr OT.out f6.out (fun j hj e => (nFh.out j (Nat.le_trans Z4.out (OT.out.lt j hj).1)).1 e))
          have Z6 : Hid (w5.heap.size ≤ w6.heap.size) := f6.out.size
          clear c3 c4 lg r1 r2 l1 l2 SH ST
          have c3 := OB.out.c3
          have c4 := OB.out.c4
          have lg := OB.out.lg
          have r1 := OB.out.rk
          have r2 := OB.out.rn
          have l1 := OB.out.lgk
          have l2 := OB.out.lgn
          go_wp2_with (first
            | ((with_reducible refine lst_load_mid 38 (.tmp 13) rfl gk 0 rfl (bs (keyOf [y.kb])) _ r1.out uK.out rfl iK.out ?_ ?_)
               (focus rfl))
            | ((with_reducible refine lst_load_mid 40 (.tmp 14) rfl gn 0 rfl (bs (nonceOf [y.nb])) _ r2.out uN.out rfl iN.out ?_ ?_)
               (focus rfl))
            | fail)
          refine (RSeal_any b2 F2 (Old w) l d rows w6 (P5.out.rbox.fr f6.out (fun j hj e => P5.out.dis j e hj)) (keyOf [y.kb]) (nonceOf [y.nb]) rfl rfl _ _ _ y.hd OB.out.hd _ _ _ y.tx OB.out.tx (fun j hj => ⟨OB.out.old j hj, fun e => by have h1 := (LTP.out j (.inr (.inl e))).1; have h2 : j < w.heap.size := hj; omega⟩) (by omega) (by omega) (by have := RL.out; omega) (by omega)).mono ?_
          rintro e w7 ⟨F2', A7, c7, rfl, o7, rb7, hF2', hn7, hf7⟩
          have Q : Hid (PB w w7 b F' ((l.drop d).drop (8 + txn)) (rows ++ [⟨keyOf [y.kb], nonceOf [y.nb], y.hd, y.tx, sealOf rows.length txn (l.drop d)⟩]) b2 F2' l (d + (8 + txn)) AA k cc vs D outs) := Lib.hid (P5.out.seal BX.out HF'.out f6.out rb7 hF2' hf7 (by rw [List.drop_drop]) (P5.out.num.snoc _ _ _ _ _ _ (by have := OB.out.tx.len; omega)))
          have O7 := Lib.hid o7
          have HF2' := Lib.hid hF2'
          have HN7 := Lib.hid hn7
          replace OB := Lib.hid (OB.out.fr hf7 (fun j hj => .inl (LTP.out j (.inr (.inl hj)))))
          replace OH := Lib.hid (own_fr OH.out hf7 (fun j hj e => (nFh.out j (OH.out.lt j hj).1).2 e))
          replace OT := Lib.hid (own_fr OT.out hf7 (fun j hj e => (nFh.out j (Nat.le_trans Z4.out (OT.out.lt j hj).1)).2 e))
          replace OA := Lib.hid (own_fr OA.out hf7 (fun j hj e => by have h1 := OA.out.lt j hj; exact (nFh.out j (by have := Z4.out; have := Z5.out; omega)).2 e))
          have Z7 : Hid (w6.heap.size ≤ w7.heap.size) := hf7.size
          have LX : Hid ((sealOf rows.length txn (l.drop d)).length = 16 + txn) := Lib.hid (Sl.of_own o7).len
          have NPa : Hid (¬ F' ga ∧ ¬ F2' ga) := Lib.hid ⟨HGA.out, fun e => by
            have h1 := OA.out.lt ga rfl
            rcases hF2' ga e with h2 | h2
            · have h3 := (LTP.out ga (.inr (.inl h2))).2; have := ZC.out; have := Z4.out; have := Z5.out; omega
            · have h4 := GA.out; omega⟩
          clear c3 c4 lg r1 r2 l1 l2 o7 rb7 hF2' hn7 hf7 P5
          have NPt : Hid (¬ F' gt ∧ ¬ F2' gt) := Lib.hid (by
            have h4 := GT.out
            have h5 := nFh.out gt (Nat.le_trans Z4.out h4.1)
            refine ⟨fun e => ?_, fun e => ?_⟩
            · rcases HF'.out gt e with h2 | h2
              · exact h5.1 h2
              · omega
            · rcases HF2'.out gt e with h2 | h2
              · exact h5.2 h2
              · have := Z6.out; omega)
          have NPh : Hid (¬ F' gh ∧ ¬ F2' gh) := Lib.hid (by
            have h4 := GH.out
            have h5 := nFh.out gh h4.1
            refine ⟨fun e => ?_, fun e => ?_⟩
            · rcases HF'.out gh e with h2 | h2
              · exact h5.1 h2
              · have := Z5.out; omega
            · rcases HF2'.out gh e with h2 | h2
              · exact h5.2 h2
              · have := Z5.out; have := Z6.out; omega)
          have B67 : Hid (∀ j, F' j → j < w6.heap.size) := Lib.hid BX.out.1
          clear HF' HF2' HGA BX nFh f6
          go_wp2_with fail
          refine (Same_at ((Sl.of_own OA.out).mono (G := fun j => j < w7.heap.size) (fun j hj => hj.2.1)) ((Sl.of_own O7.out).mono (G := fun j => j < w7.heap.size) (fun j hj => hj.2.1)) (by omega) (by omega) true (by simp)).mono ?_
          rintro e w' ⟨rfl, x1, rfl⟩
          replace OB := Lib.hid (OB.out.bel (Below.drN w7 x1))
          replace OH := Lib.hid (own_fr OH.out (Fr.of_below (M := NoB) (Below.drN w7 x1)) (fun _ _ e => e))
          replace OT := Lib.hid (own_fr OT.out (Fr.of_below (M := NoB) (Below.drN w7 x1)) (fun _ _ e => e))
          replace OA := Lib.hid (own_fr OA.out (Fr.of_below (M := NoB) (Below.drN w7 x1)) (fun _ _ e => e))
          replace O7 := Lib.hid (own_fr O7.out (Fr.of_below (M := NoB) (Below.drN w7 x1)) (fun _ _ e => e))
          replace Q := Lib.hid (Q.out.old (Below.drN w7 x1))
          replace Z7 : Hid (w6.heap.size ≤ (w7.drewN x1).heap.size) := Z7.out
          generalize w7.drewN x1 = w8 at OB OH OT OA O7 Q Z7 ⊢
          have c4 := OB.out.c4
          have lg := OB.out.lg
          go_wp2_with fail
          refine (KeptBytes_sl ((Sl.of_own OT.out).mono (G := fun j => j < w8.heap.size) (fun j hj => hj.2.1)) (fun j hj => hj) OB.out.tx OB.out.old (by omega)).mono ?_
          rintro e w9 ⟨rfl, hb9⟩
          replace OB := Lib.hid (OB.out.bel hb9)
          replace OH := Lib.hid (own_fr OH.out (Fr.of_below (M := NoB) hb9) (fun _ _ e => e))
          replace OT := Lib.hid (own_fr OT.out (Fr.of_below (M := NoB) hb9) (fun _ _ e => e))
          replace OA := Lib.hid (own_fr OA.out (Fr.of_below (M := NoB) hb9) (fun _ _ e => e))
          replace O7 := Lib.hid (own_fr O7.out (Fr.of_below (M := NoB) hb9) (fun _ _ e => e))
          replace Q := Lib.hid (Q.out.old hb9)
          replace Z7 : Hid (w6.heap.size ≤ w9.heap.size) := Nat.le_trans Z7.out hb9.size
          have Z06 : Hid (w.heap.size ≤ w6.heap.size) := by have := ZC.out; have := Z4.out; have := Z5.out; have := Z6.out; show _ ≤ _; omega
          clear hb9 c4 lg
          have hk6 : k ≤ 1000000 := by omega
          have bq := Q.out.bel.size
          go_wp2_with (first
            | (at_builtin
               refine append_sl (v := .slice A7 (16 + txn) c7) (.tmp 114) (.tmp 116) rfl rfl w.heap.size AA k cc vs rfl w9 rfl rfl Q.out.own rfl hk6 bq ?_
               intro A8 c8 w10 ho hf hor
               have HO := Lib.hid ho; have HF10 := Lib.hid hf; have HOR := Lib.hid hor
               clear ho hf hor)
            | fail)
          have LT7 : Hid (∀ j, (Value.slice A7 (16 + txn) c7).ownBlock = some j → w6.heap.size ≤ j) := Lib.hid (fun j hj => (O7.out.lt j hj).1)
          have lto : ∀ j, some j = (Value.slice AA k cc).ownBlock → w.heap.size ≤ j ∧ j < wr.heap.size := fun j hj => LTP.out j (.inr (.inr (.inl hj.symm)))
          replace Q := Lib.hid (Q.out.push O7.out Z06.out (fun j hj => ⟨fun e => by
              have h1 := LT7.out j hj
              rcases e with e | e
              · have := B67.out j e; omega
              · exact HN7.out j hj e, fun e => by
              have h1 := LT7.out j hj
              have h2 := lto j e.symm
              have := ZC.out; have := Z4.out; have := Z5.out; have := Z6.out; omega⟩) (by have := LX.out; omega) HO.out HF10.out HOR.out)
          have HNX : Hid (∀ j, wc.heap.size ≤ j → j < w6.heap.size → ¬ F' j ∧ ¬ F2' j → ¬ PBf F' F2' A8 (k + 1) c8 (fun j => D j ∨ (Value.slice A7 (16 + txn) c7).ownBlock = some j) j) := Lib.hid (fun j h1 h2 h3 e => by
            rcases e with e | e | e | e | e
            · exact h3.1 e
            · exact h3.2 e
            · rcases HOR.out with h4 | h4
              · have := lto j (by rw [← h4]; exact e.symm); have := ZC.out; omega
              · have := h4 j e; have := Z7.out; omega
            · have := (LTP.out j (.inr (.inr (.inr e)))).2; have := ZC.out; omega
            · have := LT7.out j e; omega)
          have HNG := Lib.hid (HNX.out gh GH.out.1 (by have := GH.out; have := Z5.out; have := Z6.out; omega) NPh.out)
          have HNT := Lib.hid (HNX.out gt (by have := GT.out; have := Z4.out; omega) (by have := GT.out; have := Z6.out; omega) NPt.out)
          have HNA := Lib.hid (HNX.out ga (by have := GA.out; have := Z4.out; have := Z5.out; omega) GA.out.2 NPa.out)
          replace OB := Lib.hid (OB.out.fr HF10.out (fun j hj => .inl (lto j hj)))
          have nlo : ∀ j, wc.heap.size ≤ j → ¬ some j = (Value.slice AA k cc).ownBlock := fun j hj e => by have := lto j e; have := ZC.out; omega
          replace OH := Lib.hid (own_fr OH.out HF10.out (fun j hj => nlo j (OH.out.lt j hj).1))
          replace OT := Lib.hid (own_fr OT.out HF10.out (fun j hj => nlo j (Nat.le_trans Z4.out (OT.out.lt j hj).1)))
          replace OA := Lib.hid (own_fr OA.out HF10.out (fun j hj => nlo j (Nat.le_trans (Nat.le_trans Z4.out Z5.out) (OA.out.lt j hj).1)))
          clear HO HF10 HOR O7 lto nlo HNX NPa NPt NPh LT7 bq
          refine (SpoilBytes_any w5.heap.size (some ⟨ga, 0, none⟩) (16 + txn) ca (16 + txn) _ w10 OA.out (Nat.le_refl _) (by omega)).mono ?_
          rintro e w11 ⟨rfl, hg11⟩
          have hf11 := fr_grown hg11
          replace Q := Lib.hid (Q.out.fr_at hf11 (by have := GA.out; have := Z4.out; have := Z5.out; have := ZC.out; omega) HNA.out)
          replace OB := Lib.hid (OB.out.fr hf11 (fun j hj => .inr (by have := Option.some.inj hj; have := GA.out; have := Z4.out; have := Z5.out; omega)))
          replace OH := Lib.hid (own_fr OH.out hf11 (fun j hj e => by have := Option.some.inj (show some gh = some j from hj); have := Option.some.inj e; have := GA.out; have := GH.out; have := Z5.out; omega))
          replace OT := Lib.hid (own_fr OT.out hf11 (fun j hj e => by have := Option.some.inj (show some gt = some j from hj); have := Option.some.inj e; have := GA.out; have := GT.out; omega))
          clear hg11 hf11 OA HNA
          go_wp2_with fail
          refine (SpoilBytes_any w4.heap.size (some ⟨gt, 0, none⟩) (txn + 5) ct (txn + 5) _ w11 OT.out (Nat.le_refl _) (by omega)).mono ?_
          rintro e w12 ⟨rfl, hg12⟩
          have hf12 := fr_grown hg12
          replace Q := Lib.hid (Q.out.fr_at hf12 (by have := GT.out; have := Z4.out; have := ZC.out; omega) HNT.out)
          replace OB := Lib.hid (OB.out.fr hf12 (fun j hj => .inr (by have := Option.some.inj hj; have := GT.out; have := Z4.out; omega)))
          replace OH := Lib.hid (own_fr OH.out hf12 (fun j hj e => by have := Option.some.inj (show some gh = some j from hj); have := Option.some.inj e; have := GT.out; have := GH.out; omega))
          clear hg12 hf12 OT HNT
          have c3 := OB.out.c3
          have lg := OB.out.lg
          go_wp2_with fail
          refine (KeptBytes_sl ((Sl.of_own OH.out).mono (G := fun j => j < w12.heap.size) (fun j hj => hj.2.1)) (fun j hj => hj) OB.out.hd OB.out.old (by omega)).mono ?_
          rintro e wk ⟨rfl, hbk⟩
          replace OH := Lib.hid (own_fr OH.out (Fr.of_below (M := NoB) hbk) (fun _ _ e => e))
          replace Q := Lib.hid (Q.out.old hbk)
          clear hbk c3 lg
          go_wp2_with fail
          refine (SpoilBytes_any wc.heap.size (some ⟨gh, 0, none⟩) (hdn + 5) ch (hdn + 5) _ wk OH.out (Nat.le_refl _) (by omega)).mono ?_
          rintro e wl ⟨rfl, hgl⟩
          have P12 := Lib.hid (Q.out.fr_at (fr_grown hgl) (by have := GH.out; have := ZC.out; omega) HNG.out)
          clear hgl OH Q OB
          go_wp2_with fail
          go_roundw
          case rel => exact ⟨i + 1, k + 1, c8, d + (8 + txn), A8, F', _, _, F2', _, _, outs ++ [sealOf rows.length txn (l.drop d)], by omega, by omega, by omega, by omega, rfl, rfl, by go_num, Lib.hid ⟨P12.out, by rw [List.length_append, OK.out]; rfl, by rw [List.length_append]; have := RL.out; simp; omega⟩⟩
          case measure => simp [intOf]; omega
        | false =>
          have r0 := OB.out.ro
          have iy := iO.out y
          go_wp2_with (first
            | ((with_reducible refine lst_load_mid 35 (.tmp 12) rfl g12 0 rfl y.cells _ r0.out uO.out rfl iy ?_ ?_)
               (focus rfl))
            | fail)
          refine (sealed_any P4.out (by omega) OK.out y OB.out.ok (by rw [← OB.out.et]; omega) HWA.out HWT.out).mono ?_
          rintro e w5 ⟨As, ns, cs, rfl, ⟨S, hs⟩, hn5, hb5⟩
          replace OB := Lib.hid (OB.out.bel hb5)
          replace OH := Lib.hid (own_fr OH.out (Fr.of_below (M := NoB) hb5) (fun _ _ e => e))
          have SF : Hid (∀ j, (j < w.heap.size ∨ (w4.heap.size ≤ j ∧ j < w5.heap.size)) → j < w5.heap.size) := Lib.hid (fun j hj => by
            rcases hj with hj | hj
            · exact OB.out.old j hj
            · exact hj.2)
          have SS : Hid (Sl w5 (fun j => j < w5.heap.size) As ns cs S) := hs.mono SF.out
          have P5 := Lib.hid (P4.out.old hb5)
          have Z5 : Hid (w4.heap.size ≤ w5.heap.size) := hb5.size
          clear hs hb5 c0 c4 lg r0 iy SF P4
          go_wp2_with fail
          refine (LentBytes_sl SS.out (fun j hj => hj) (by omega)).mono ?_
          rintro e w6 ⟨gt, ct, rfl, ho6, hb6⟩
          have OT := Lib.hid ho6
          have GT : Hid (w5.heap.size ≤ gt ∧ gt < w6.heap.size) := Lib.hid (ho6.lt gt rfl)
          replace OB := Lib.hid (OB.out.bel hb6)
          replace OH := Lib.hid (own_fr OH.out (Fr.of_below (M := NoB) hb6) (fun _ _ e => e))
          have P6 := Lib.hid (P5.out.old hb6)
          have Z6 : Hid (w5.heap.size ≤ w6.heap.size) := hb6.size
          replace SS : Hid (Sl w6 (fun j => j < w6.heap.size) As ns cs S) := (SS.out.belF hb6 (fun j hj => hj)).mono (fun j hj => Nat.lt_of_lt_of_le hj hb6.size)
          have SH : Hid (Sl w6 (fun j => j < w6.heap.size) (some ⟨gh, 0, none⟩) hdn ch y.hd) := (Sl.take_ (Sl.of_own OH.out) OB.out.hd.len).mono (fun j hj => hj.2.1)
          have ST : Hid (Sl w6 (fun j => j < w6.heap.size) (some ⟨gt, 0, none⟩) ns ct S) := (Sl.take_ (Sl.of_own OT.out) SS.out.len).mono (fun j hj => hj.2.1)
          have hch : hdn ≤ ch := SH.out.cap
          have hct : ns ≤ ct := ST.out.cap
          clear ho6 hb6 P5
          go_wp2_with fail
          have c3 := OB.out.c3
          have lg := OB.out.lg
          have r1 := OB.out.rk
          have r2 := OB.out.rn
          have l1 := OB.out.lgk
          have l2 := OB.out.lgn
          obtain ⟨res, hres⟩ : ∃ res, openP rows (keyOf [y.kb]) (nonceOf [y.nb]) y.hd S = res := ⟨_, rfl⟩
          have hfo : findP rows (keyOf [y.kb]) (nonceOf [y.nb]) y.hd S = res := by rw [findP_openP P6.out.num (by have := RL.out; omega)]; exact hres
          have LR : Hid ((res.getD []).length ≤ 2048) := Lib.hid (by rw [← hfo]; exact findP_len P6.out.num _ _ _ _)
          have HRES := Lib.hid hres; have HFO := Lib.hid hfo
          clear hres hfo
          refine wp_calm ?_
          refine wp_region_oc (fun _ w' => Below (w6).drew.heap.size (w6).drew w') [1, 2, 5] [(12, 5, [7, 6])] (.move 0 (.take 1 (.take 2 (.move 3 (.move 4 (.take 5 (.move 6 (.move 7 (.move 8 (.move 9 (.move 10 (.move 11 (.run 12 [] (.move 13 (.move 14 (.move 15 (.move 16 (.move 17 .done)))))))))))))))))) (by kernel_rfl) (by kernel_rfl) (fun _ _ _ _ _ h => nomatch h.1) ?_
          have hS0 : Below (w6).drew.heap.size (w6).drew (w6).drew := Below.refl _ _
          refine os_move rfl rfl rfl (Nat.le_of_ble_eq_true rfl) ?_
          apply Exists.intro
          refine ⟨fun w' K hK => ?_, ?_⟩
          (focus
            go_simp
            exact hK)
          refine os_load_mid 38 (.tmp 13) (gk) (0) (bs (keyOf [y.kb])) _ hS0 rfl rfl rfl rfl rfl (uK.out) rfl (iK.out) (fun w' h => rangeAt_bel (range_dr (r1.out)) h l1) ⟨_, rfl, ?_⟩
          refine os_load_mid 40 (.tmp 14) (gn) (0) (bs (nonceOf [y.nb])) _ hS0 rfl rfl rfl rfl rfl (uN.out) rfl (iN.out) (fun w' h => rangeAt_bel (range_dr (r2.out)) h l2) ⟨_, rfl, ?_⟩
          refine os_move rfl rfl rfl (Nat.le_of_ble_eq_true rfl) ?_
          apply Exists.intro
          refine ⟨fun w' K hK => ?_, ?_⟩
          (focus
            go_simp
            exact hK)
          refine os_move rfl rfl rfl (Nat.le_of_ble_eq_true rfl) ?_
          apply Exists.intro
          refine ⟨fun w' K hK => ?_, ?_⟩
          (focus
            go_simp
            exact hK)
          refine os_yld hS0 rfl rfl rfl (Nat.le_of_ble_eq_true rfl) ?_
          apply Exists.intro
          refine ⟨fun w' hS' K hK => ?_, ?_⟩
          (focus
            obtain ⟨hcc, hff⟩ := bcellB (Below.undr hS')
            clear hS'
            go_simp
            exact hK)
          refine os_move rfl rfl rfl (Nat.le_of_ble_eq_true rfl) ?_
          apply Exists.intro
          refine ⟨fun w' K hK => ?_, ?_⟩
          (focus
            go_simp
            exact hK)
          refine os_move rfl rfl rfl (Nat.le_of_ble_eq_true rfl) ?_
          apply Exists.intro
          refine ⟨fun w' K hK => ?_, ?_⟩
          (focus
            go_simp
            exact hK)
          refine os_move rfl rfl rfl (Nat.le_of_ble_eq_true rfl) ?_
          apply Exists.intro
          refine ⟨fun w' K hK => ?_, ?_⟩
          (focus
            go_simp
            exact hK)
          refine os_move rfl rfl rfl (Nat.le_of_ble_eq_true rfl) ?_
          apply Exists.intro
          refine ⟨fun w' K hK => ?_, ?_⟩
          (focus
            go_simp
            exact hK)
          refine os_move rfl rfl rfl (Nat.le_of_ble_eq_true rfl) ?_
          apply Exists.intro
          refine ⟨fun w' K hK => ?_, ?_⟩
          (focus
            go_simp
            exact hK)
          refine os_move rfl rfl rfl (Nat.le_of_ble_eq_true rfl) ?_
          apply Exists.intro
          refine ⟨fun w' K hK => ?_, ?_⟩
          (focus
            go_simp
            exact hK)
          refine os_run rfl rfl (fun K hK => ?_)
          go_wp2_with fail
          refine (Open_any b F (fun j => j < w6.heap.size) (l.drop d) rows _ (P6.out.box.fr (Fr.of_below (M := NoB) (Below.undr hS0)) (fun _ _ e => e)) (keyOf [y.kb]) (nonceOf [y.nb]) rfl rfl _ _ _ y.hd (SH.out.belF (Below.undr hS0) (fun j hj => hj)) _ _ _ S (ST.out.belF (Below.undr hS0) (fun j hj => hj)) (fun j hj => Nat.lt_of_lt_of_le hj (Below.undr hS0).size) (by have := RL.out; omega) res HRES.out).mono ?_
          rintro e w7 ⟨A7, n7, c7, rfl, hb7, o7⟩
          have O7 : Hid (w7.ownsRow w6.heap.size 5 1 (.slice A7 n7 c7) n7 (bs (res.getD []))) := Lib.hid (own_mono o7 (Below.undr hS0).size)
          have B7 : Hid (Below w6.heap.size w6 w7) := Lib.hid (Below.tr (Below.undr hS0) hb7)
          clear o7
          go_wp2_with fail
          refine ⟨fun _ hk => absurd hk List.not_mem_nil, ?_⟩
          replace hS0 := Below.tr hS0 (hb7)
          refine os_move rfl rfl rfl (Nat.le_of_ble_eq_true rfl) ?_
          apply Exists.intro
          refine ⟨fun w' K hK => ?_, ?_⟩
          (focus
            go_simp
            exact hK)
          refine os_move rfl rfl rfl (Nat.le_of_ble_eq_true rfl) ?_
          apply Exists.intro
          refine ⟨fun w' K hK => ?_, ?_⟩
          (focus
            go_simp
            exact hK)
          refine os_move rfl rfl rfl (Nat.le_of_ble_eq_true rfl) ?_
          apply Exists.intro
          refine ⟨fun w' K hK => ?_, ?_⟩
          (focus
            go_simp
            exact hK)
          refine os_move rfl rfl rfl (Nat.le_of_ble_eq_true rfl) ?_
          apply Exists.intro
          refine ⟨fun w' K hK => ?_, ?_⟩
          (focus
            go_simp
            exact hK)
          refine os_move rfl rfl rfl (Nat.le_of_ble_eq_true rfl) ?_
          apply Exists.intro
          refine ⟨fun w' K hK => ?_, ?_⟩
          (focus
            go_simp
            exact hK)
          refine os_done ⟨rfl, ?_⟩
          replace OB := Lib.hid (OB.out.bel B7.out)
          replace OH := Lib.hid (own_fr OH.out (Fr.of_below (M := NoB) B7.out) (fun _ _ e => e))
          replace OT := Lib.hid (own_fr OT.out (Fr.of_below (M := NoB) B7.out) (fun _ _ e => e))
          have P7 := Lib.hid (P6.out.old B7.out)
          have Z7 : Hid (w6.heap.size ≤ w7.heap.size) := B7.out.size
          replace SS : Hid (Sl w7 (fun j => j < w7.heap.size) As ns cs S) := (SS.out.belF B7.out (fun j hj => hj)).mono (fun j hj => Nat.lt_of_lt_of_le hj B7.out.size)
          clear c3 lg r1 r2 l1 l2 SH ST B7 P6
          have c3 := OB.out.c3
          have lg := OB.out.lg
          have r1 := OB.out.rk
          have r2 := OB.out.rn
          have l1 := OB.out.lgk
          have l2 := OB.out.lgn
          go_wp2_with (first
            | ((with_reducible refine lst_load_mid 38 (.tmp 13) rfl gk 0 rfl (bs (keyOf [y.kb])) _ r1.out uK.out rfl iK.out ?_ ?_)
               (focus rfl))
            | ((with_reducible refine lst_load_mid 40 (.tmp 14) rfl gn 0 rfl (bs (nonceOf [y.nb])) _ r2.out uN.out rfl iN.out ?_ ?_)
               (focus rfl))
            | fail)
          have RO := ROpen_any b2 F2 (fun j => j < w7.heap.size) l d rows w7 P7.out.rbox (keyOf [y.kb]) (nonceOf [y.nb]) rfl rfl _ _ _ y.hd (OB.out.hd.mono OB.out.old) _ _ _ S SS.out (fun j hj => hj) (by have := RL.out; omega) (by omega) (by omega)
          rw [HFO.out] at RO
          refine RO.mono ?_
          clear RO
          rintro e w8 ⟨A8, n8, c8, rfl, hb8, o8⟩
          have O8 := Lib.hid o8
          replace OB := Lib.hid (OB.out.bel hb8)
          replace OH := Lib.hid (own_fr OH.out (Fr.of_below (M := NoB) hb8) (fun _ _ e => e))
          replace OT := Lib.hid (own_fr OT.out (Fr.of_below (M := NoB) hb8) (fun _ _ e => e))
          replace O7 := Lib.hid (own_fr O7.out (Fr.of_below (M := NoB) hb8) (fun _ _ e => e))
          have Q := Lib.hid (P7.out.old hb8)
          replace SS : Hid (Sl w8 (fun j => j < w8.heap.size) As ns cs S) := (SS.out.belF hb8 (fun j hj => hj)).mono (fun j hj => Nat.lt_of_lt_of_le hj hb8.size)
          clear c3 lg r1 r2 l1 l2 hb8 o8 P7
          go_wp2_with fail
          have N7 : n7 ≤ 2048 := by have := (Sl.of_own O7.out).len; have := LR.out; omega
          have N8 : n8 ≤ 2048 := by have := (Sl.of_own O8.out).len; have := LR.out; omega
          refine (Same_at ((Sl.of_own O7.out).mono (G := fun j => j < w8.heap.size) (fun j hj => hj.2.1)) ((Sl.of_own O8.out).mono (G := fun j => j < w8.heap.size) (fun j hj => hj.2.1)) (by omega) (by omega) true (by simp)).mono ?_
          rintro e w' ⟨rfl, x1, rfl⟩
          replace OB := Lib.hid (OB.out.bel (Below.drN w8 x1))
          replace OH := Lib.hid (own_fr OH.out (Fr.of_below (M := NoB) (Below.drN w8 x1)) (fun _ _ e => e))
          replace OT := Lib.hid (own_fr OT.out (Fr.of_below (M := NoB) (Below.drN w8 x1)) (fun _ _ e => e))
          replace O7 := Lib.hid (own_fr O7.out (Fr.of_below (M := NoB) (Below.drN w8 x1)) (fun _ _ e => e))
          replace Q := Lib.hid (Q.out.old (Below.drN w8 x1))
          replace SS : Hid (Sl (w8.drewN x1) (fun j => j < (w8.drewN x1).heap.size) As ns cs S) := SS.out.belF (Below.drN w8 x1) (fun j hj => hj)
          clear O8
          generalize w8.drewN x1 = w9 at OB OH OT O7 Q SS ⊢
          go_wp2_with fail
          refine (KeptBytes_sl ((Sl.of_own OT.out).mono (G := fun j => j < w9.heap.size) (fun j hj => hj.2.1)) (fun j hj => hj) SS.out (fun j hj => hj) (by omega)).mono ?_
          rintro e w10 ⟨rfl, hb10⟩
          replace OB := Lib.hid (OB.out.bel hb10)
          replace OH := Lib.hid (own_fr OH.out (Fr.of_below (M := NoB) hb10) (fun _ _ e => e))
          replace O7 := Lib.hid (own_fr O7.out (Fr.of_below (M := NoB) hb10) (fun _ _ e => e))
          replace Q := Lib.hid (Q.out.old hb10)
          clear hb10 SS OT
          go_wp2_with fail
          refine (SpoilBytes_any w6.heap.size A7 n7 c7 n7 _ w10 O7.out (Nat.le_refl _) (by omega)).mono ?_
          rintro e w11 ⟨rfl, hg11⟩
          have LT7 : Hid (∀ j, some j = (Value.slice A7 n7 c7).ownBlock → w6.heap.size ≤ j) := Lib.hid (fun j hj => (O7.out.lt j hj.symm).1)
          have hf11 : Fr (fun j => some j = (Value.slice A7 n7 c7).ownBlock) w10 w11 := Fr.of_grown hg11
          replace Q := Lib.hid (Q.out.fr hf11 (fun j hj e => by have h1 := (LTP.out j hj).2; have := LT7.out j e; have := ZC.out; have := Z4.out; have := Z5.out; have := Z6.out; omega) (fun j e => by have := LT7.out j e; have := ZC.out; have := Z4.out; have := Z5.out; have := Z6.out; omega))
          replace OB := Lib.hid (OB.out.fr hf11 (fun j hj => .inr (by have := LT7.out j hj; have := Z4.out; have := Z5.out; have := Z6.out; omega)))
          replace OH := Lib.hid (own_fr OH.out hf11 (fun j hj e => by have := Option.some.inj (show some gh = some j from hj); have := LT7.out j e; have := GH.out; have := Z5.out; have := Z6.out; omega))
          have HNG : Hid (¬ PBf F F2 AA k cc D gh) := Lib.hid (fun e => by have h1 := (LTP.out gh e).2; have := ZC.out; have := GH.out; omega)
          clear hg11 hf11 O7 LT7
          have c3 := OB.out.c3
          have lg := OB.out.lg
          go_wp2_with fail
          refine (KeptBytes_sl ((Sl.of_own OH.out).mono (G := fun j => j < w11.heap.size) (fun j hj => hj.2.1)) (fun j hj => hj) OB.out.hd OB.out.old (by omega)).mono ?_
          rintro e wk ⟨rfl, hbk⟩
          replace OH := Lib.hid (own_fr OH.out (Fr.of_below (M := NoB) hbk) (fun _ _ e => e))
          replace Q := Lib.hid (Q.out.old hbk)
          clear hbk c3 lg
          go_wp2_with fail
          refine (SpoilBytes_any wc.heap.size (some ⟨gh, 0, none⟩) (hdn + 5) ch (hdn + 5) _ wk OH.out (Nat.le_refl _) (by omega)).mono ?_
          rintro e wl ⟨rfl, hgl⟩
          have P12 := Lib.hid (Q.out.fr_at (fr_grown hgl) (by have := GH.out; have := ZC.out; omega) HNG.out)
          clear hgl OH Q OB
          go_wp2_with fail
          go_roundw
          case rel => exact ⟨i + 1, k, cc, d, AA, F, _, _, F2, _, _, outs, by omega, by omega, by omega, by omega, rfl, rfl, by go_num, Lib.hid ⟨P12.out, OK.out, by have := RL.out; omega⟩⟩
          case measure => simp [intOf]; omega
    · by_cases hl1 : i < n'
      · have hl2 : ¬ i < 60 := fun e => hlt ⟨hl1, e⟩
        have h1I : (i : Int) < (n' : Int) := by omega
        have h2I : ¬ (i : Int) < 60 := by omega
        clear hlt hl1 hl2
        go_wp2_with fail
        refine (KN.out _ P.out.bel).mono ?_
        rintro e w' ⟨rfl, hb⟩
        go_wp2_with fail
        go_ret
        exact ⟨rfl, hb⟩
      · have h1I : ¬ (i : Int) < (n' : Int) := by omega
        clear hlt hl1
        go_wp2_with fail
        refine (KN.out _ P.out.bel).mono ?_
        rintro e w' ⟨rfl, hb⟩
        go_wp2_with fail
        go_ret
        exact ⟨rfl, hb⟩
end Go.Proofs.Ytnejcciociinmaa
