/- Scan. -/
import Derived.Test.YtmdnlgfngpgfnaaDoorFrSc2
import Derived.Test.YtmdnlgfngpgfnaaDoorAgg
namespace Go.Proofs.YtmdnlgfngpgfnaaDoor
open Go.RowKit

/-- frames as cells; their bodies are rows of blocks of D -/
def FrsAt (w : World) (D : Nat → Prop) : List (Int × List UInt8) → List Value → Prop
  | [], cs => cs = []
  | f :: fs, cs => ∃ A n c rest, cs = .int .i64 f.1 :: .slice A n c :: rest ∧ w.ownsRow 0 5 1 (.slice A n c) n (bs f.2) ∧ (∀ j, (Value.slice A n c).ownBlock = some j → D j) ∧ FrsAt w D fs rest
theorem FrsAt.fr {w w' : World} {D M : Nat → Prop} (hf : Fr M w w') (hD : ∀ j, D j → ¬ M j) : ∀ {fs cs}, FrsAt w D fs cs → FrsAt w' D fs cs
  | [], _, h => h
  | _ :: _, _, ⟨A, n, c, rest, h1, h2, h3, h4⟩ => ⟨A, n, c, rest, h1, own_fr h2 hf (fun j hj => hD j (h3 j hj)), h3, FrsAt.fr hf hD h4⟩
theorem FrsAt.mono {w : World} {D D' : Nat → Prop} (h : ∀ j, D j → D' j) : ∀ {fs cs}, FrsAt w D fs cs → FrsAt w D' fs cs
  | [], _, h0 => h0
  | _ :: _, _, ⟨A, n, c, rest, h1, h2, h3, h4⟩ => ⟨A, n, c, rest, h1, h2, fun j hj => h j (h3 j hj), FrsAt.mono h h4⟩
theorem FrsAt.snoc {w : World} {D : Nat → Prop} {k : Int} {b : List UInt8} {A : Option Addr} {n c : Nat} (h2 : w.ownsRow 0 5 1 (.slice A n c) n (bs b)) (h3 : ∀ j, (Value.slice A n c).ownBlock = some j → D j) :
    ∀ {fs cs}, FrsAt w D fs cs → FrsAt w D (fs ++ [(k, b)]) (cs ++ [.int .i64 k, .slice A n c])
  | [], cs, h => by
    have : cs = [] := h
    subst this
    exact ⟨A, n, c, [], rfl, h2, h3, rfl⟩
  | _ :: _, _, ⟨A', n', c', rest, h1, g2, g3, h4⟩ => ⟨A', n', c', _, by rw [h1]; rfl, g2, g3, FrsAt.snoc h2 h3 h4⟩

theorem Tryd.infoFr : (Tryd.prog.info? 34).map (fun i => (i.zero, i.size, i.bytes)) = some (some (.agg #[.int .i64 0, .slice none 0 0]), 2, 32) := by kernel_rfl
def gotF (l : List UInt8) : List (Int × List UInt8) := (scanP l).map fun g => (g.k, g.body)

theorem append_fr {w : World} {ops : Array Oper} {rest : List Oper} {o : Oper} {a : Act} {Q : Exit → Act → World → Prop} (hgd : o.guard = none) (s x : Operand)
    (ho : o.op = .call { callee := .builtin .append, args := #[s, x], argTypes := #[42, 42] })
    (base : Nat) (A : Option Addr) (n c : Nat) (xs : List Value) (hs : a.eval s = .slice A n c) (hown : w.ownsRow base 34 2 (.slice A n c) n xs)
    (A2 : Option Addr) (c2 : Nat) (news : List Value) (hx : a.eval x = .slice A2 1 c2) (hl : news.length = 2) (hr : Rd w A2 news) (h1 : ∀ u ∈ news, u.oneCell' = true)
    (hb : n + 1 ≤ 10000001) (hbase : base ≤ w.heap.size)
    (hK : ∀ A' c' w', w'.ownsRow base 34 2 (.slice A' (n + 1) c') (n + 1) (xs ++ news) → w.grownBy w' (Value.slice A n c).ownBlock →
      ((Value.slice A' (n + 1) c').ownBlock = (Value.slice A n c).ownBlock ∨ (Value.slice A' (n + 1) c').ownBlock = some w.heap.size) → wpList Tryd.prog ops Q rest (a.put o.dst (.slice A' (n + 1) c')) w') : wpList Tryd.prog ops Q (o :: rest) a w := by
  obtain ⟨iF, hiF, hzz⟩ := Option.map_eq_some_iff.1 Tryd.infoFr
  simp only [Prod.mk.injEq] at hzz
  obtain ⟨hzF, hzF2, hzF3⟩ := hzz
  exact wpList_plain hgd fun _ hK' => wp_append_rd w s x 42 ho base 34 iF _ 2 32 Tryd.underlying42 hiF hzF hzF2 hzF3 rfl (by decide) _ n _ hs hown A2 1 c2 _ hx (by rw [hl]) hr h1 (by simp only [maxLen]; omega) (by omega) hbase
    (fun A' c' w' h2 h3 h4 => hK' _ _ (hK A' c' w' h2 h3 h4))
/-- between two rounds -/
def ScI (w : World) (l : List UInt8) (k : Nat) (W : World) : Prop :=
  ∃ A c cells D, Boxed W w.heap.size 42 (.slice A k c) ∧ Boxed W (w.heap.size + 1) 3 (.int .i64 (atF l k : Nat)) ∧ W.ownsRow (w.heap.size + 5) 34 2 (.slice A k c) k cells ∧
    FrsAt W D ((gotF l).take k) cells ∧ (∀ j, D j → w.heap.size + 5 ≤ j ∧ j < W.heap.size ∧ (Value.slice A k c).ownBlock ≠ some j) ∧ Below w.heap.size w W

theorem Boxed.fr {W W' : World} {B : Nat} {t : TypeId} {v : Value} {M : Nat → Prop} (h : Boxed W B t v) (hf : Fr M W W') (hM : ¬ M B) : Boxed W' B t v := (hf.block B h.lt hM).trans h
theorem ScI.fr {w : World} {l : List UInt8} {k : Nat} {W W' : World} (h : ScI w l k W) (hf : Fr (fun j => j = w.heap.size + 2 ∨ j = w.heap.size + 3 ∨ j = w.heap.size + 4) W W') : ScI w l k W' := by
  obtain ⟨A, c, cells, D, h1, h2, h3, h4, h5, h6⟩ := h
  refine ⟨A, c, cells, D, Boxed.fr h1 hf (by omega), Boxed.fr h2 hf (by omega), own_fr h3 hf (fun j hj => by have := (h3.lt j hj).1; omega), h4.fr hf (fun j hj => by have := (h5 j hj).1; omega), fun j hj => ?_, ?_⟩
  · have := h5 j hj
    have := hf.size
    exact ⟨by omega, by omega, (h5 j hj).2.2⟩
  · exact h6.trans ⟨hf.os, hf.tape, hf.output, hf.size, fun i hi => hf.block i (Nat.lt_of_lt_of_le hi h6.size) (by omega)⟩

theorem Fr.to_below' {M : Nat → Prop} {a b : World} {B : Nat} (h : Fr M a b) (hM : ∀ j, j < B → ¬ M j) (hB : B ≤ a.heap.size) : Below B a b := ⟨h.os, h.tape, h.output, h.size, fun i hi => h.block i (by omega) (hM i hi)⟩
theorem block_lt_of {w : World} {ad : Addr} {v : Value} (h : w.cell? ad = some v) : ad.block < w.heap.size := World.block_lt_of_cell? _ _ h
theorem cell_fr {w w' : World} {ad : Addr} {v : Value} {M : Nat → Prop} (h : w.cell? ad = some v) (hf : Fr M w w') (hM : ¬ M ad.block) : w'.cell? ad = some v := by
  rw [World.cell?_of_block (w := w) (hf.block _ (block_lt_of h) hM)]; exact h
attribute [local go_sem] Oper.semAt_some yld yldUpon_value
set_option maxRecDepth 100000 in
set_option maxHeartbeats 2000000 in
theorem Scan_any {w : World} (hS : Steps w) {F : Nat → Prop} {A : Option Addr} {n c : Nat} {l : List UInt8} (hs : Sl w F A n c l) (hF : ∀ k, F k → k < w.heap.size) (hn : n ≤ 10000000) :
    Calls Tryd.prog 24 #[.slice A n c] w fun e w' => ∃ A' c' cells D, e = .returned (.tuple #[.slice A' (scanP l).length c', .int .i64 (atF l (scanP l).length : Nat)]) ∧ w'.ownsRow w.heap.size 34 2 (.slice A' (scanP l).length c') (scanP l).length cells ∧
      FrsAt w' D (gotF l) cells ∧ (∀ j, D j → w.heap.size ≤ j ∧ j < w'.heap.size ∧ (Value.slice A' (scanP l).length c').ownBlock ≠ some j) ∧ Below w.heap.size w w' := by
  have HS := Lib.hid hS; have Hs := Lib.hid hs; have HF := Lib.hid hF
  clear hS hs hF
  refine calls_of_marks Tryd.func24 rfl ?_
  simp only [Tryd.ntmps24, List.size_toArray, List.length_cons, List.length_nil, Nat.reduceAdd, Nat.reduceSub, Array.replicate_succ, Array.replicate_zero, List.push_toArray, List.append_toArray, List.nil_append, List.cons_append]
  go_wp2_with (go_at_call 35; refine (frames_any A n c _).mono ?_; rintro e w' ⟨rfl, rfl⟩)
  obtain ⟨w3, hw3⟩ : ∃ w3, ((w.alloc (.cells #[.slice none 0 0] 42)).alloc (.cells #[.int .i64 0] 3)).alloc (.cells #[.slice A n c] 22) = w3 := ⟨_, rfl⟩
  have hb3 : Below w.heap.size w w3 := by rw [← hw3]; exact (((Below.refl _ w).alloc (Nat.le_refl _) _).alloc (by simp) _).alloc (by simp; omega) _
  have hsz : w3.heap.size = w.heap.size + 3 := by rw [← hw3]; simp
  have bx0 : Boxed w3 w.heap.size 42 (.slice none 0 0) := by rw [← hw3]; exact ((Boxed.new w _ _).alloc _).alloc _
  have bx1 : Boxed w3 (w.heap.size + 1) 3 (.int .i64 0) := by
    rw [← hw3]
    have := Boxed.new (w.alloc (.cells #[.slice none 0 0] 42)) 3 (.int .i64 0)
    rw [World.size_alloc] at this
    exact this.alloc _
  have bx2 : Boxed w3 (w.heap.size + 2) 22 (.slice A n c) := by
    rw [← hw3]
    have := Boxed.new ((w.alloc (.cells #[.slice none 0 0] 42)).alloc (.cells #[.int .i64 0] 3)) 22 (.slice A n c)
    rw [World.size_alloc, World.size_alloc] at this
    exact this
  rw [hw3]
  clear hw3
  have hs3 := Hs.out.fr (Fr.of_below (M := NoB) hb3) (fun k hk => ⟨HF.out k hk, id⟩)
  have hS3 := HS.out.below hb3 HS.out.pos
  have hposW := HS.out.pos
  have h0 : ScI w l 0 w3 := ⟨none, 0, [], NoB, bx0, bx1, World.ownsRow_nil _ _ _ _, rfl, fun _ h => h.elim, hb3⟩
  refine wp_range (gf := 37) (lb := #[.pointer (some ⟨w.heap.size + 2, 0, none⟩)]) rfl (enters_of Tryd.func37 (by kernel_rfl) rfl)
    (frames_iter hS3 (B := w.heap.size + 2) (by omega) hs3 (fun k hk => by have := HF.out k hk; omega) bx2 (by omega)) (by rintro j (h | h | h); omega; omega; have := HF.out j h; omega) (by intro j h; have h : j = w.heap.size + 2 := h; omega)
    (fun k W => Hid (ScI w l k W)) (fun _ _ => False)
    (fun k W1 W2 h hf => ScI.fr h.out (hf.mono fun j _ h => by omega)) (fun _ _ _ h _ => h) h0 (by rintro k W0 W1 args ⟨A2, n2, c2, rfl, _⟩; rfl) ?round (fun h => h.elim) ?done (fun _ _ h => h.elim)
  case round =>
    rintro k W0 W1 args hkN hi hsz0 hf0 ⟨A2, n2, c2, rfl, hown2⟩
    obtain ⟨A', c', cells, D, b1, b2, hown, hfr, hD, hbw⟩ := hi.out
    have hsz1 := hf0.size
    have Hf0 := Lib.hid hf0
    have Hown2 := Lib.hid hown2; have Hsz := Lib.hid hsz
    clear hown2 hi hf0 hs3 hS3 h0 hb3 bx0 bx1 bx2
    gi_wp2_with fail
    refine ⟨(Fr.refl _ _).alloc _, ?_⟩
    intro W3 hf3
    have hf13 : Fr (fun j => j = w.heap.size + 2 ∨ j = w.heap.size + 4) W0 W3 := ((Hf0.out.mono fun j _ h => .inl h).alloc (.cells #[.int .i64 (getP (restF l k)).k, .slice A2 n2 c2] 34)).trans hf3 (fun j _ h => by rw [Hsz.out] at h; omega)
    have hlo1 : Hid (∀ j, (Value.slice A' k c').ownBlock = some j → w.heap.size + 5 ≤ j ∧ j < W0.heap.size) := fun j hj => hown.lt j hj
    replace b1 := Boxed.fr b1 hf13 (by omega)
    replace b2 := Boxed.fr b2 hf13 (by omega)
    replace hown := own_fr hown hf13 (fun j hj => by have := (hlo1.out j hj).1; omega)
    replace hfr := hfr.fr hf13 (fun j hj => by have := (hD j hj).1; omega)
    replace hbw : Below w.heap.size w W3 := hbw.trans ⟨hf13.os, hf13.tape, hf13.output, hf13.size, fun i hi => hf13.block i (Nat.lt_of_lt_of_le hi hbw.size) (by omega)⟩
    clear hf13
    have hfb : Hid (W3.heap[W1.heap.size]? = some (.cells #[.int .i64 (getP (restF l k)).k, .slice A2 n2 c2] 34 (0, 0))) := (hf3.block _ (by simp) (by omega)).trans (heap_alloc_new W1 _)
    have Hown3 : Hid (W3.ownsRow W0.heap.size 5 1 (.slice A2 n2 c2) n2 (bs (getP (restF l k)).body)) := own_fr (Hown2.out.alloc _) hf3 (fun j hj => by have := (Hown2.out.lt j hj).1; omega)
    have hS : Hid (∀ w' : World, w'.heap = W3.heap → w'.cell? ⟨w.heap.size, 0, none⟩ = some (.slice A' k c') ∧ w'.heap[W1.heap.size]? = some (.cells #[.int .i64 (getP (restF l k)).k, .slice A2 n2 c2] 34 (0, 0)) ∧ w'.cell? ⟨w.heap.size + 1, 0, none⟩ = some (.int .i64 (atF l k : Nat))) := by
      intro w' hw'
      have e : ∀ ad, w'.cell? ad = W3.cell? ad := fun ad => by unfold World.cell?; rw [hw']
      exact ⟨by rw [e]; exact b1.cell, by rw [hw']; exact hfb.out, by rw [e]; exact b2.cell⟩
    have B1 := Lib.hid b1; have B2 := Lib.hid b2; have Hown := Lib.hid hown; have Hfr := Lib.hid hfr; have HD := Lib.hid hD; have Hbw := Lib.hid hbw; have Hf3 := Lib.hid hf3
    have hz3 := hf3.size
    clear b1 b2 hown hfr hD hbw hf3
    gi_wp2_with fail
    have hS0 := hS.out W3.drew rfl
    refine wpIn_region_os (by kernel_rfl) (fun ⟨_, _, h⟩ => h) (fun i w' => match i with | 0 => w'.cell? ⟨w.heap.size, 0, none⟩ = some (.slice A' k c') | 1 => w'.heap[W1.heap.size]? = some (.cells #[.int .i64 (getP (restF l k)).k, .slice A2 n2 c2] 34 (0, 0)) | 4 => w'.cell? ⟨w.heap.size + 1, 0, none⟩ = some (.int .i64 (atF l k : Nat)) | _ => True)
      [0, 1, 4] (.take 0 (.take 1 (.take 4 (.move 5 (.move 6 (.run 2 [0, 4] (.run 3 [1, 4] (.run 7 [4] (.run 8 [] .done))))))))) (by kernel_rfl) (by kernel_rfl) (fun _ _ _ _ _ h => h) ?_
    refine os_yld hS0.1 rfl rfl rfl (Nat.le_of_ble_eq_true rfl) ?_
    apply Exists.intro
    refine ⟨fun w' hS' K hK => ?_, ?_⟩
    (focus
      replace hS' : w'.cell? ⟨w.heap.size, 0, none⟩ = some (.slice A' k c') := hS'
      go_simp
      exact hK)
    refine os_yld hS0.2.1 rfl rfl rfl (Nat.le_of_ble_eq_true rfl) ?_
    apply Exists.intro
    refine ⟨fun w' hS' K hK => ?_, ?_⟩
    (focus
      have q0 : w'.cell? ⟨W1.heap.size, 0, none⟩ = some (.int .i64 (getP (restF l k)).k) := by rw [cell_of_row w' _ 0 _ _ _ hS']; rfl
      have q1 : w'.cell? ⟨W1.heap.size, 1, none⟩ = some (.slice A2 n2 c2) := by rw [cell_of_row w' _ 1 _ _ _ hS']; rfl
      go_simp
      exact hK)
    refine os_yld hS0.2.2 rfl rfl rfl (Nat.le_of_ble_eq_true rfl) ?_
    apply Exists.intro
    refine ⟨fun w' hS' K hK => ?_, ?_⟩
    (focus
      replace hS' : w'.cell? ⟨w.heap.size + 1, 0, none⟩ = some (.int .i64 (atF l k : Nat)) := hS'
      go_simp
      exact hK)
    refine os_move rfl rfl rfl (Nat.le_of_ble_eq_true rfl) ?_
    apply Exists.intro
    refine ⟨fun w' K hK => ?_, ?_⟩
    (focus
      go_simp
      exact hK)
    refine os_move rfl rfl rfl (Nat.le_of_ble_eq_true rfl) ?_
    apply Exists.intro
    refine ⟨fun w' K hK => ?_, ?_⟩
    (focus
      go_simp
      exact hK)
    have hkl : Hid ((gotF l).take (k + 1) = (gotF l).take k ++ [((getP (restF l k)).k, (getP (restF l k)).body)]) := by
      have hl : k < (gotF l).length := by unfold gotF; simpa using hkN
      show _ = _
      rw [List.take_succ_eq_append_getElem hl]
      congr 2
      simp only [gotF, List.getElem_map]
      rw [(scan_at l hkN).1]
    have hak : Hid (IntKind.i64.wrap ((atF l k : Int) + ((getP (restF l k)).n : Int)) = ((atF l (k + 1) : Nat) : Int)) := by
      have h1 := atF_succ l hkN
      rw [← (scan_at l hkN).1] at h1
      have h2 := (restF_drop l (k + 1) (by omega)).2
      have h3 := Hs.out.len
      show _ = _
      rw [IntKind.wrap_i64, h1]; omega
    have hkN2 : Hid (k ≤ 10000000) := by
      have h2 := scan_len l
      have h3 := Hs.out.len
      show _ ≤ _
      omega
    rw [hak.out]
    have Hz3 : Hid (w.heap.size + 5 ≤ W0.heap.size ∧ W0.heap.size ≤ W1.heap.size ∧ W1.heap.size < W3.heap.size ∧ w3.heap.size = w.heap.size + 3) := ⟨by omega, hsz1, by simp at hz3; omega, hsz⟩
    have Hpos := Lib.hid hposW
    clear hsz1 hz3 hsz hsz0 hkN hn hposW
    generalize (getP (restF l k)).k = gk at *
    generalize (getP (restF l k)).n = gn at *
    generalize (getP (restF l k)).body = gb at *
    obtain ⟨iF, hiF, hzz⟩ := Option.map_eq_some_iff.1 Tryd.infoFr
    simp only [Prod.mk.injEq] at hzz
    obtain ⟨hzF, hzF2, hzF3⟩ := hzz
    refine os_run rfl rfl (fun K hK => ?_)
    refine wp_buildSlice_one 42 34 (.tmp 11) iF _ (.agg #[.int .i64 gk, .slice A2 n2 c2]) rfl rfl Tryd.underlying42 hiF hzF (by rw [hzF2]; rfl) (by rw [hzF2]; rfl) (by omega) (by omega) ?_
    have hF4 : ∀ M, Fr M W3 (W3.drew.alloc (.cells #[.int .i64 gk, .slice A2 n2 c2] 34)) := fun M => (Fr.refl M W3).drew.alloc _
    have hnew4 := heap_alloc_new W3.drew (.cells #[.int .i64 gk, .slice A2 n2 c2] 34)
    refine hK _ _ ⟨?_, ?_⟩
    · intro i hi h
      simp only [List.mem_cons, List.not_mem_nil, or_false] at hi
      rcases hi with rfl | rfl
      · exact cell_fr (M := NoB) h ((Fr.refl _ _).alloc _) id
      · exact cell_fr (M := NoB) h ((Fr.refl _ _).alloc _) id
    clear hK
    show wpOS _ _ _ _ _ _ (W3.drew.alloc (.cells #[.int .i64 gk, .slice A2 n2 c2] 34))
    generalize hw4 : W3.drew.alloc (.cells #[.int .i64 gk, .slice A2 n2 c2] 34) = w4 at hF4 hnew4
    have hz4 : w4.heap.size = W3.heap.size + 1 := by rw [← hw4]; simp
    clear hw4
    have Hown4 : Hid (w4.ownsRow (w.heap.size + 5) 34 2 (.slice A' k c') k cells) := own_fr Hown.out (hF4 NoB) (fun _ _ h => h)
    refine os_run rfl rfl (fun K hK => ?_)
    refine wp_append_rd w4 (.tmp 10) (.tmp 12) 42 rfl (w.heap.size + 5) 34 iF _ 2 32 Tryd.underlying42 hiF hzF hzF2 hzF3 rfl (by decide) (.slice A' k c') k cells rfl Hown4.out
      (some ⟨W3.heap.size, 0, none⟩) 1 1 [.int .i64 gk, .slice A2 n2 c2] rfl rfl (Rd.of_block hnew4) (by intro u hu; simp at hu; rcases hu with rfl | rfl <;> rfl) (by have := hkN2.out; simp only [maxLen]; omega) (by have := hkN2.out; omega) (by have := Hz3.out; omega) ?_
    intro A5 c5 w5 hown5 hg5 hat5
    have hlo : ∀ j, (Value.slice A' k c').ownBlock = some j → w.heap.size + 5 ≤ j ∧ j < W3.heap.size := fun j hj => Hown.out.lt j hj
    have hF5 : Fr (fun j => some j = (Value.slice A' k c').ownBlock) W3 w5 := (hF4 _).trans (Fr.of_grown hg5) (fun _ _ h => h)
    refine hK _ _ ⟨?_, ?_⟩
    · intro i hi h
      simp only [List.mem_cons, List.not_mem_nil, or_false] at hi
      have hz := Hz3.out
      rcases hi with rfl | rfl
      · exact (hg5.block W1.heap.size (by omega) (fun e => by have := (hlo1.out _ e.symm).2; omega)).trans h
      · exact cell_fr h (Fr.of_grown hg5) (fun e => by have := (hlo _ e.symm).1; simp at this)
    clear hK hg5
    have B51 := Boxed.fr B1.out hF5 (fun e => by have := (hlo _ e.symm).1; omega)
    have B52 := Boxed.fr B2.out hF5 (fun e => by have := (hlo _ e.symm).1; omega)
    have B5c := B51.cell
    have B5f := B51.frozen
    refine os_run rfl rfl (fun K hK => ?_)
    go_wp2_with fail
    refine ⟨?_, ?_⟩
    · intro i hi h
      simp only [List.mem_cons, List.not_mem_nil, or_false] at hi
      subst hi
      exact cell_fr h (Fr.of_grown (grownBy_setCell' _ _ _)) (fun e => by simp at e)
    clear B5c B5f
    have B61 := Boxed.set (.slice A5 (k + 1) c5) B51
    have B62 := Boxed.other B52 (B' := w.heap.size) (by omega) (.slice A5 (k + 1) c5)
    have B6c := B62.cell
    have B6f := B62.frozen
    refine os_run rfl rfl (fun K hK => ?_)
    go_wp2_with fail
    refine ⟨fun i hi => (by cases hi), ?_⟩
    refine os_done ?_
    have hz := Hz3.out
    have hlt5 : ∀ j, (Value.slice A5 (k + 1) c5).ownBlock = some j → (Value.slice A' k c').ownBlock = some j ∨ W3.heap.size < j := fun j hj => by
      rcases hat5 with e | e
      · left; rw [← e]; exact hj
      · right; rw [e] at hj; injection hj with hj; omega
    have hset : Fr (fun j => j = w.heap.size ∨ j = w.heap.size + 1) w5 ((w5.setCell ⟨w.heap.size, 0, none⟩ (.slice A5 (k + 1) c5)).setCell ⟨w.heap.size + 1, 0, none⟩ (.int .i64 (atF l (k + 1) : Nat))) :=
      ((Fr.refl _ _).setCell (p := ⟨w.heap.size, 0, none⟩) (.inl (.inl rfl)) _).setCell (p := ⟨w.heap.size + 1, 0, none⟩) (.inl (.inr rfl)) _
    show Fr _ _ _ ∧ _
    refine ⟨?_, ?_⟩
    · refine (hF5.mono ?_).trans (hset.mono ?_) (fun _ _ h => h)
      · intro j _ hj
        have h1 := hlo1.out j hj.symm
        refine ⟨?_, by omega, by omega⟩
        rintro (h | h | h)
        · omega
        · omega
        · have := HF.out j h; omega
      · intro j _ hj
        have h2 := Hpos.out
        refine ⟨?_, by omega, by omega⟩
        rintro (h | h | h)
        · omega
        · omega
        · have := HF.out j h; omega
    · have hb2 : ∀ j, (Value.slice A2 n2 c2).ownBlock = some j → W0.heap.size ≤ j ∧ j < W3.heap.size := fun j hj => Hown3.out.lt j hj
      refine ⟨A5, c5, _, fun j => D j ∨ (Value.slice A2 n2 c2).ownBlock = some j, Boxed.other B61 (by omega) _, Boxed.set _ B62, own_fr hown5 hset (fun j hj => ?_), ?_, ?_, ?_⟩
      · rcases hlt5 j hj with h | h
        · have := hlo1.out j h; omega
        · omega
      · rw [hkl.out]
        refine FrsAt.snoc (own_mono (own_fr (own_fr Hown3.out hF5 (fun j hj e => ?_)) hset (fun j hj => ?_)) (Nat.zero_le _)) (fun j hj => .inr hj) (FrsAt.mono (fun j h => .inl h) (FrsAt.fr hset (fun j hj => ?_) (FrsAt.fr hF5 (fun j hj e => ?_) Hfr.out)))
        · have := hlo1.out j e.symm; have := hb2 j hj; omega
        · have := hb2 j hj; omega
        · have := HD.out j hj; omega
        · exact (HD.out j hj).2.2 e.symm
      · have hz5 := hF5.size
        have hz6 := hset.size
        rintro j (hj | hj)
        · have h1 := HD.out j hj
          refine ⟨h1.1, by omega, fun e => ?_⟩
          rcases hlt5 j e with h | h
          · exact h1.2.2 h
          · omega
        · have h1 := hb2 j hj
          refine ⟨by omega, by omega, fun e => ?_⟩
          rcases hlt5 j e with h | h
          · have := hlo1.out j h; omega
          · omega
      · exact Hbw.out.trans (Fr.to_below' ((hF5.mono fun j _ h => (by have := (hlo1.out j h.symm).1; show w.heap.size ≤ j; omega)).trans (hset.mono fun j _ h => by show w.heap.size ≤ j; omega) (fun _ _ h => h)) (fun j h => by omega) (by omega))
  case done =>
    intro W hi hDf
    obtain ⟨A', c', cells, D, b1, b2, hown, hfr, hD, hbw⟩ := hi.out
    have B1 := Lib.hid b1; have B2 := Lib.hid b2; have Hown := Lib.hid hown; have Hfr := Lib.hid hfr; have HD := Lib.hid hD; have Hbw := Lib.hid hbw; have Hsz := Lib.hid hsz; have HDf := Lib.hid hDf
    clear b1 b2 hown hfr hD hbw hi hs3 hS3 h0 hb3 bx0 bx1 bx2 hsz hDf
    go_wp2_with fail
    refine wp_calm ?_
    refine wp_region_os (fun i w' => match i with | 0 => w'.cell? ⟨w.heap.size, 0, none⟩ = some (.slice A' (scanP l).length c') | 1 => w'.cell? ⟨w.heap.size + 1, 0, none⟩ = some (.int .i64 (atF l (scanP l).length : Nat)) | _ => True)
      [0, 1] (.take 0 (.take 1 (.run 2 [1] (.run 3 [] .done)))) (by kernel_rfl) (by kernel_rfl) (fun _ _ _ _ _ h => nomatch h.1) ?_
    refine os_yld (show _ = _ from B1.out.cell) rfl rfl rfl (Nat.le_of_ble_eq_true rfl) ?_
    apply Exists.intro
    refine ⟨fun w' hS' K hK => ?_, ?_⟩
    (focus
      replace hS' : w'.cell? ⟨w.heap.size, 0, none⟩ = some (.slice A' (scanP l).length c') := hS'
      go_simp
      exact hK)
    refine os_yld (show _ = _ from B2.out.cell) rfl rfl rfl (Nat.le_of_ble_eq_true rfl) ?_
    apply Exists.intro
    refine ⟨fun w' hS' K hK => ?_, ?_⟩
    (focus
      replace hS' : w'.cell? ⟨w.heap.size + 1, 0, none⟩ = some (.int .i64 (atF l (scanP l).length : Nat)) := hS'
      go_simp
      exact hK)
    have c1 := B1.out.cell
    have f1 := B1.out.frozen
    refine os_run rfl rfl (fun K hK => ?_)
    go_wp2_with fail
    refine ⟨?_, ?_⟩
    · intro i hi h
      simp only [List.mem_cons, List.not_mem_nil, or_false] at hi
      subst hi
      exact cell_fr h (Fr.of_grown (grownBy_setCell' _ _ _)) (fun e => by simp at e)
    clear c1 f1
    have B61 := Boxed.set (.slice A' (scanP l).length c') B1.out
    have B62 := Boxed.other B2.out (B' := w.heap.size) (by omega) (.slice A' (scanP l).length c')
    have B6c := B62.cell
    have B6f := B62.frozen
    refine os_run rfl rfl (fun K hK => ?_)
    go_wp2_with fail
    refine ⟨fun i hi => (by cases hi), ?_⟩
    refine os_done ⟨rfl, ?_⟩
    clear B6c B6f
    go_wp2_with fail
    have hset : Fr (fun j => j = w.heap.size ∨ j = w.heap.size + 1 ∨ j = w3.heap.size) W ((((W.setCell ⟨w.heap.size, 0, none⟩ (.slice A' (scanP l).length c')).setCell ⟨w.heap.size + 1, 0, none⟩ (.int .i64 (atF l (scanP l).length : Nat))).drew).putObj w3.heap.size (.deferred none)) :=
      (((Fr.refl _ _).setCell (p := ⟨w.heap.size, 0, none⟩) (.inl (.inl rfl)) _).setCell (p := ⟨w.heap.size + 1, 0, none⟩) (.inl (.inr (.inl rfl))) _).drew.putObj (.inl (.inr (.inr rfl))) _
    have hK : (((W.setCell ⟨w.heap.size, 0, none⟩ (.slice A' (scanP l).length c')).setCell ⟨w.heap.size + 1, 0, none⟩ (.int .i64 (atF l (scanP l).length : Nat))).drew).heap[w3.heap.size]? = some (.deferred (some [])) := by
      have hf : Fr (fun j => j = w.heap.size ∨ j = w.heap.size + 1) W (((W.setCell ⟨w.heap.size, 0, none⟩ (.slice A' (scanP l).length c')).setCell ⟨w.heap.size + 1, 0, none⟩ (.int .i64 (atF l (scanP l).length : Nat))).drew) :=
        (((Fr.refl _ _).setCell (p := ⟨w.heap.size, 0, none⟩) (.inl (.inl rfl)) _).setCell (p := ⟨w.heap.size + 1, 0, none⟩) (.inl (.inr rfl)) _).drew
      exact (hf.block _ (Array.getElem?_eq_some_iff.1 HDf.out).1 (by have := Hsz.out; omega)).trans HDf.out
    have hz := Hsz.out
    have d0 : Boxed (((W.setCell ⟨w.heap.size, 0, none⟩ (.slice A' (scanP l).length c')).setCell ⟨w.heap.size + 1, 0, none⟩ (.int .i64 (atF l (scanP l).length : Nat))).drew) w.heap.size 42 (.slice A' (scanP l).length c') := Boxed.other B61 (by omega) _
    have d1 : Boxed (((W.setCell ⟨w.heap.size, 0, none⟩ (.slice A' (scanP l).length c')).setCell ⟨w.heap.size + 1, 0, none⟩ (.int .i64 (atF l (scanP l).length : Nat))).drew) (w.heap.size + 1) 3 (.int .i64 (atF l (scanP l).length : Nat)) := Boxed.set _ B62
    generalize ((W.setCell ⟨w.heap.size, 0, none⟩ (.slice A' (scanP l).length c')).setCell ⟨w.heap.size + 1, 0, none⟩ (.int .i64 (atF l (scanP l).length : Nat))).drew = W9 at hset hK d0 d1 ⊢
    have e0 := (Boxed.fr d0 ((Fr.refl (fun j => j = w3.heap.size) W9).putObj (r := w3.heap.size) (.inl rfl) (.deferred none)) (by omega)).cell
    have e1 := (Boxed.fr d1 ((Fr.refl (fun j => j = w3.heap.size) W9).putObj (r := w3.heap.size) (.inl rfl) (.deferred none)) (by omega)).cell
    refine ⟨by simp, .inl ⟨_, _, rfl, run_takeDeferred hK, ?_⟩⟩
    refine ⟨.tuple #[.slice A' (scanP l).length c', .int .i64 (atF l (scanP l).length : Nat)], by simp [results, Tryd.results24, go_sem, e0, e1]; try rfl, A', c', cells, D, rfl, own_mono (own_fr Hown.out hset (fun j hj => ?_)) (by omega), ?_, fun j hj => ?_, ?_⟩
    · have := (Hown.out.lt j hj).1; omega
    · have := Hfr.out
      rw [List.take_of_length_le (by unfold gotF; simp)] at this
      exact this.fr hset (fun j hj => by have := (HD.out j hj).1; omega)
    · have h1 := HD.out j hj
      have := hset.size
      exact ⟨by omega, by omega, h1.2.2⟩
    · exact Hbw.out.trans (Fr.to_below' hset (fun j hj => by omega) Hbw.out.size)
end Go.Proofs.YtmdnlgfngpgfnaaDoor
