/- The ring's short functions. -/
import Derived.Test.YtglbhoamknjdeaaRg1
namespace Go.Proofs.Ytglbhoamknjdeaa
open Go.RowKit
attribute [local go_sem] yld yldUpon_value

section
variable {P : Program} {ops : Array Oper} {rest : List Oper} {o : Oper} {a : Act} {w : World} {Q : Exit → Act → World → Prop} {K : Act → World → Prop}
theorem run_lookup_op (T : TypeId) (x y : Operand) (c : Bool) (ho : o.op = .lookup T x y c) (X Y V : Value) (hx : a.eval x = X) (hy : a.eval y = Y) (hr : (Instr.lookup T X Y c).run P w = .ok V w) :
    (execOp a.eval o).run P w = .ok (.value V) w := by
  unfold execOp
  simp only [ho, hx, hy, Sem.run_bind, hr, Result.andThen_ok, Sem.run_pure]
theorem wp_lookup (T : TypeId) (x y : Operand) (c : Bool) (ho : o.op = .lookup T x y c) (X Y V : Value) (hx : a.eval x = X) (hy : a.eval y = Y) (hr : (Instr.lookup T X Y c).run P w = .ok V w)
    (h : K (a.put o.dst V) w) : o.wp P a w K Q := by
  unfold Oper.wp
  rw [run_lookup_op T x y c ho X Y V hx hy hr]
  exact h
theorem lst_lookup (T : TypeId) (x y : Operand) (c : Bool) (ho : o.op = .lookup T x y c) (X Y V : Value) (hx : a.eval x = X) (hy : a.eval y = Y) (hr : (Instr.lookup T X Y c).run P w = .ok V w)
    (hw : Region.wanted o (yielded ops a.tmps) = true) (h : wpList P ops Q rest (a.put o.dst V) w) : wpList P ops Q (o :: rest) a w :=
  BigFrame.wpList_want hw fun _ hK => wp_lookup T x y c ho X Y V hx hy hr (hK _ _ h)
theorem os_lookup {S : Nat → World → Prop} {i d : Nat} {r : OS} (T : TypeId) (x y : Operand) {c : Bool} (X Y V : Value)
    (hS : S i w) (ho : ops.toList[i]? = some o) (hw : Region.wanted o (yielded ops a.tmps) = true) (hop : o.op = .lookup T x y c) (hd : o.dst = some d) (hx : a.eval x = X) (hy : a.eval y = Y)
    (hr : ∀ w', S i w' → (Instr.lookup T X Y c).run P w' = .ok V w')
    (h : ∃ a1, a.put (some d) V = a1 ∧ wpOS P ops Q S r a1 w) : wpOS P ops Q S (.take i r) a w := by
  obtain ⟨a1, ha, h⟩ := h
  exact ⟨hS, o, V, by simpa using ho, .inl ⟨hw, fun w' hS' => run_lookup_op T x y c hop X Y V hx hy (hr w' hS')⟩, by rw [hd, ha]; exact h⟩
theorem wp_update (T : TypeId) (x y z : Operand) (ho : o.op = .mapUpdate T x y z) (X Y Z : Value) (hx : a.eval x = X) (hy : a.eval y = Y) (hz : a.eval z = Z) (w' : World) (hr : (Instr.mapUpdate T X Y Z).run P w = .ok () w')
    (h : K (a.put o.dst undef) w') : o.wp P a w K Q := by
  unfold Oper.wp execOp
  simp only [ho, hx, hy, hz, Sem.run_bind, hr, Result.andThen_ok, Sem.run_pure]
  exact h
end

theorem New_any (w : World) : Calls Try.prog 8 #[] w fun e w' => ∃ b m, e = .returned (.pointer (some ⟨b, 0, none⟩)) ∧ RingAt w' b m [] ∧ Below w.heap.size w w' ∧ w.heap.size ≤ b ∧ w.heap.size ≤ m := by
  have hm : (Instr.makeMap 56 none).run Try.prog w = .ok (.map (some w.heap.size)) (w.alloc (.map #[] 0)) := by
    simp [Instr.makeMap]
  go_enter Try.func8, Try.ntmps8
  go_wp2
  go_ret
  refine ⟨w.heap.size + 1, w.heap.size, rfl, ⟨by omega, ?_, ⟨#[], 0, ?_, rfl, MapKept.stamped_empty 0⟩, by simp, by simp, by simp⟩, ?_, by omega, by omega⟩
  · exact heap_alloc2_new w _ _
  · exact heap_alloc2_old w _ _
  · exact ((Below.refl _ _).alloc (Nat.le_refl _) _).alloc (by simp) _

set_option maxRecDepth 100000 in
theorem Hold_any (w : World) (b m : Nat) (L : List (Wk × Hd)) (h : RingAt w b m L) (t s : ByteArray) (hk : Fits (t, s)) (r : Option Hd) (hr : look L (t, s) = r) :
    Calls Try.prog 11 #[.pointer (some ⟨b, 0, none⟩), .string t, .string s] w fun e w' => e = .returned (.tuple #[hV (r.getD hd0), .bool r.isSome]) ∧ Below w.heap.size w w' := by
  have H := Lib.hid h
  have c0 := h.cell
  have hlt := h.lt.1
  have HK := Lib.hid hk
  have Hr := Lib.hid hr
  clear h hk hr
  obtain ⟨v, hv⟩ : ∃ v, v = r.getD hd0 := ⟨_, rfl⟩
  obtain ⟨ok, hok⟩ : ∃ ok, ok = r.isSome := ⟨_, rfl⟩
  have hl : (Instr.lookup 56 (.map (some m)) (.agg #[.string t, .string s]) true).run Try.prog (w.alloc (.cells #[.int .i64 0, .int .i64 0, .bool false] 30)) =
      .ok (.tuple #[.agg #[.int .i64 v.slot, .int .i64 v.uses, .bool v.shred], .bool ok]) (w.alloc (.cells #[.int .i64 0, .int .i64 0, .bool false] 30)) := by
    have := run_lookup_ring (H.out.bel (Below.al w (.cells #[.int .i64 0, .int .i64 0, .bool false] 30))) (t, s) HK.out
    rw [Hr.out, ← hv, ← hok] at this
    exact this
  rw [← hv, ← hok]
  clear hv hok
  go_enter Try.func11, Try.ntmps11
  go_wp2
  refine bodyPost_ret (v := .tuple #[hV v, .bool ok]) (by simp [results, Try.results11, go_sem]; rfl) rfl ⟨rfl, ?_⟩
  exact (((Below.refl _ _).alloc (Nat.le_refl _) _).alloc (by simp) _)

theorem Try.infoH : (Try.prog.info? 30).map (fun i => (i.zero, i.size)) = some (some (hV hd0), 3) := by kernel_rfl
theorem Try.sizeH : (Try.prog.info? 30).map (·.size) = some 3 := by kernel_rfl
theorem Hold_at (w : World) (b m : Nat) (L : List (Wk × Hd)) (h : RingAt w b m L) (t s : ByteArray) (hk : Fits (t, s)) (r : Option Hd) (hr : look L (t, s) = r) (v : Hd) (hv : r.getD hd0 = v) (ok : Bool) (ho : r.isSome = ok) :
    Calls Try.prog 11 #[.pointer (some ⟨b, 0, none⟩), .string t, .string s] w fun e w' => e = .returned (.tuple #[.agg #[.int .i64 v.slot, .int .i64 v.uses, .bool v.shred], .bool ok]) ∧ Below w.heap.size w w' := by
  have := Hold_any w b m L h t s hk r hr
  rw [hv, ho] at this
  exact this

/-- what Use comes to -/
def useR (L : List (Wk × Hd)) (k : Wk) (n : Int) : Int × List (Wk × Hd) :=
  if n < 1 then (1, L) else match look L k with
    | none => (12, L)
    | some h => if h.shred then (17, L) else if 200 - h.uses < n then (16, L) else (0, putR L k ⟨h.slot, h.uses + n, h.shred⟩)

set_option maxRecDepth 100000 in
set_option maxHeartbeats 2000000 in
theorem Use_any (w : World) (b m : Nat) (L : List (Wk × Hd)) (h : RingAt w b m L) (t s : ByteArray) (hk : Fits (t, s)) (n : Int) (hn : (Lit.int .i64 n).wf = true) :
    Calls Try.prog 12 #[.pointer (some ⟨b, 0, none⟩), .string t, .string s, .int .i64 n] w fun e w' => e = .returned (.int .i64 (useR L (t, s) n).1) ∧ RingAt w' b m (useR L (t, s) n).2 ∧ Fr (fun j => j = m) w w' := by
  have H := Lib.hid h; have HK := Lib.hid hk; have Hn := Lib.hid hn
  clear h hk hn
  by_cases h1 : n < 1
  · have e1 : Hid (useR L (t, s) n = (1, L)) := by show _ = _; unfold useR; rw [if_pos h1]
    go_enter Try.func12, Try.ntmps12
    go_wp2_with (go_at_call 11; refine (Hold_at w b m L H.out t s HK.out _ rfl _ rfl _ rfl).mono ?_; rintro e w' ⟨rfl, hb⟩)
    go_ret
    rw [e1.out]
    exact ⟨rfl, (H.out.bel hb).bel (Below.al _ _), Fr.of_below (hb.alloc hb.size _)⟩
  · rcases hr : look L (t, s) with _ | v
    · have e1 : Hid (useR L (t, s) n = (12, L)) := by show _ = _; unfold useR; rw [if_neg h1, hr]
      have Hr := Lib.hid hr
      clear hr
      go_enter Try.func12, Try.ntmps12
      go_wp2_with (go_at_call 11; refine (Hold_at w b m L H.out t s HK.out none Hr.out _ rfl false rfl).mono ?_; rintro e w' ⟨rfl, hb⟩)
      go_ret
      rw [e1.out]
      exact ⟨rfl, (H.out.bel hb).bel (Below.al _ _), Fr.of_below (hb.alloc hb.size _)⟩
    · have hvo := H.out.okh _ (look_of hr)
      have Hr := Lib.hid hr
      obtain ⟨hv0, hv1⟩ := hvo
      simp only at hv0 hv1
      rcases hs : v.shred with _ | _
      · by_cases hu : 200 - v.uses < n
        · have e1 : Hid (useR L (t, s) n = (16, L)) := by show _ = _; unfold useR; rw [if_neg h1, hr]; simp only [hs]; rw [if_neg (by simp), if_pos hu]
          have Hs := Lib.hid hs
          clear hr hs
          go_enter Try.func12, Try.ntmps12
          go_wp2_with (go_at_call 11; refine (Hold_at w b m L H.out t s HK.out (some v) Hr.out v rfl true rfl).mono ?_; rintro e w' ⟨rfl, hb⟩; rw [Hs.out])
          go_ret
          rw [e1.out]
          exact ⟨rfl, (H.out.bel hb).bel (Below.al _ _), Fr.of_below (hb.alloc hb.size _)⟩
        · have e1 : Hid (useR L (t, s) n = (0, putR L (t, s) ⟨v.slot, v.uses + n, v.shred⟩)) := by show _ = _; unfold useR; rw [if_neg h1, hr]; simp only [hs]; rw [if_neg (by simp), if_neg hu]
          have Hs := Lib.hid hs
          clear hr hs
          go_enter Try.func12, Try.ntmps12
          go_wp2_with (go_at_call 11; refine (Hold_at w b m L H.out t s HK.out (some v) Hr.out v rfl true rfl).mono ?_; rintro e w' ⟨rfl, hb⟩; rw [Hs.out])
          have hR := (H.out.bel hb).bel (Below.al w' (.cells #[.int .i64 v.slot, .int .i64 (v.uses + n), .bool false] 30))
          have hB := hb.alloc hb.size (.cells #[.int .i64 v.slot, .int .i64 (v.uses + n), .bool false] 30)
          have hh := heap_alloc_new w' (.cells #[.int .i64 v.slot, .int .i64 (v.uses + n), .bool false] 30)
          generalize w'.alloc (.cells #[.int .i64 v.slot, .int .i64 (v.uses + n), .bool false] 30) = W at hR hB hh ⊢
          generalize w'.heap.size = g at hh ⊢
          have c0 := hR.cell
          have hlb := hR.lt.1
          have hlg : g < W.heap.size := (Array.getElem?_eq_some_iff.1 hh).1
          have g0 : W.cell? ⟨g, 0, none⟩ = some (.int .i64 v.slot) := by rw [cell_of_row W g 0 _ _ _ hh]; rfl
          have g1 : W.cell? ⟨g, 1, none⟩ = some (.int .i64 (v.uses + n)) := by rw [cell_of_row W g 1 _ _ _ hh]; rfl
          have g2 : W.cell? ⟨g, 2, none⟩ = some (.bool false) := by rw [cell_of_row W g 2 _ _ _ hh]; rfl
          obtain ⟨W2, hrun, hR2, hF2⟩ := run_update_ring (w := W.drew) (hR.bel (Below.dr1 _)) (t, s) HK.out ⟨v.slot, v.uses + n, false⟩ ⟨by show 0 ≤ v.uses + n; omega, by show v.uses + n ≤ 200; omega⟩
          have HR2 := Lib.hid hR2; have HF2 := Lib.hid hF2; have HB := Lib.hid hB; have Hrun := Lib.hid hrun
          clear hR hb hh hR2 hF2 hB hrun
          go_wp2_with fail
          refine wp_calm ?_
          refine wp_region_os (fun _ w' => Below (W).drew.heap.size (W).drew w') [3, 7] (.move 0 (.move 1 (.move 2 (.take 3 (.move 4 (.move 5 (.move 6 (.take 7 (.run 8 [] .done))))))))) (by kernel_rfl) (by kernel_rfl) (fun _ _ _ _ _ h => nomatch h.1) ?_
          have hS0 : Below (W).drew.heap.size (W).drew (W).drew := Below.refl _ _
          refine os_move rfl rfl rfl (Nat.le_of_ble_eq_true rfl) ?_
          apply Exists.intro
          refine ⟨fun w' K hK => ?_, ?_⟩
          (focus
            go_simp
            exact hK)
          refine os_move rfl rfl rfl (Nat.le_of_ble_eq_true rfl) ?_
          apply Exists.intro
          refine ⟨fun w' K hK => ?_, ?_⟩
          (focus
            go_simp
            exact hK)
          refine os_move rfl rfl rfl (Nat.le_of_ble_eq_true rfl) ?_
          apply Exists.intro
          refine ⟨fun w' K hK => ?_, ?_⟩
          (focus
            go_simp
            exact hK)
          refine os_yld hS0 rfl rfl rfl (Nat.le_of_ble_eq_true rfl) ?_
          apply Exists.intro
          refine ⟨fun w' hS' K hK => ?_, ?_⟩
          (focus
            obtain ⟨hcc, hff⟩ := bcellB (Below.undr hS')
            clear hS'
            go_simp
            exact hK)
          refine os_move rfl rfl rfl (Nat.le_of_ble_eq_true rfl) ?_
          apply Exists.intro
          refine ⟨fun w' K hK => ?_, ?_⟩
          (focus
            go_simp
            exact hK)
          refine os_move rfl rfl rfl (Nat.le_of_ble_eq_true rfl) ?_
          apply Exists.intro
          refine ⟨fun w' K hK => ?_, ?_⟩
          (focus
            go_simp
            exact hK)
          refine os_move rfl rfl rfl (Nat.le_of_ble_eq_true rfl) ?_
          apply Exists.intro
          refine ⟨fun w' K hK => ?_, ?_⟩
          (focus
            go_simp
            exact hK)
          refine os_yld hS0 rfl rfl rfl (Nat.le_of_ble_eq_true rfl) ?_
          apply Exists.intro
          refine ⟨fun w' hS' K hK => ?_, ?_⟩
          (focus
            obtain ⟨hcc, hff⟩ := bcellB (Below.undr hS')
            clear hS'
            go_simp
            exact hK)
          refine os_run rfl rfl (fun K hK => ?_)
          refine wp_update 56 (.tmp 41) (.tmp 44) (.tmp 45) rfl _ _ _ rfl rfl rfl W2 Hrun.out ?_
          refine hK _ _ ⟨fun _ hk => absurd hk List.not_mem_nil, ?_⟩
          clear hK
          refine os_done ⟨rfl, ?_⟩
          go_wp2_with fail
          go_ret
          rw [e1.out]
          exact ⟨rfl, by rw [Hs.out]; exact HR2.out, (Fr.of_below HB.out).tr (Fr.undr HF2.out)⟩
      · have e1 : Hid (useR L (t, s) n = (17, L)) := by show _ = _; unfold useR; rw [if_neg h1, hr]; simp [hs]
        have Hs := Lib.hid hs
        clear hr hs
        go_enter Try.func12, Try.ntmps12
        go_wp2_with (go_at_call 11; refine (Hold_at w b m L H.out t s HK.out (some v) Hr.out v rfl true rfl).mono ?_; rintro e w' ⟨rfl, hb⟩; rw [Hs.out])
        go_ret
        rw [e1.out]
        exact ⟨rfl, (H.out.bel hb).bel (Below.al _ _), Fr.of_below (hb.alloc hb.size _)⟩

/-- what Shred comes to -/
def shredR (L : List (Wk × Hd)) (k : Wk) : Int × List (Wk × Hd) :=
  match look L k with
    | none => (12, L)
    | some h => if h.shred then (17, L) else (0, putR L k ⟨h.slot, h.uses, true⟩)
set_option maxRecDepth 100000 in
set_option maxHeartbeats 2000000 in
theorem Shred_any (w : World) (b m : Nat) (L : List (Wk × Hd)) (h : RingAt w b m L) (t s : ByteArray) (hk : Fits (t, s)) :
    Calls Try.prog 10 #[.pointer (some ⟨b, 0, none⟩), .string t, .string s] w fun e w' => e = .returned (.int .i64 (shredR L (t, s)).1) ∧ RingAt w' b m (shredR L (t, s)).2 ∧ Fr (fun j => j = m) w w' := by
  have H := Lib.hid h; have HK := Lib.hid hk
  clear h hk
  rcases hr : look L (t, s) with _ | v
  · have e1 : Hid (shredR L (t, s) = (12, L)) := by show _ = _; unfold shredR; rw [hr]
    have Hr := Lib.hid hr
    clear hr
    go_enter Try.func10, Try.ntmps10
    go_wp2_with (go_at_call 11; refine (Hold_at w b m L H.out t s HK.out none Hr.out _ rfl false rfl).mono ?_; rintro e w' ⟨rfl, hb⟩)
    go_ret
    rw [e1.out]
    exact ⟨rfl, (H.out.bel hb).bel (Below.al _ _), Fr.of_below (hb.alloc hb.size _)⟩
  · have hvo := H.out.okh _ (look_of hr)
    have Hr := Lib.hid hr
    obtain ⟨hv0, hv1⟩ := hvo
    simp only at hv0 hv1
    rcases hs : v.shred with _ | _
    · have e1 : Hid (shredR L (t, s) = (0, putR L (t, s) ⟨v.slot, v.uses, true⟩)) := by show _ = _; unfold shredR; rw [hr]; simp [hs]
      have Hs := Lib.hid hs
      clear hr hs
      go_enter Try.func10, Try.ntmps10
      go_wp2_with (go_at_call 11; refine (Hold_at w b m L H.out t s HK.out (some v) Hr.out v rfl true rfl).mono ?_; rintro e w' ⟨rfl, hb⟩; rw [Hs.out])
      have hR := (H.out.bel hb).bel (Below.al w' (.cells #[.int .i64 v.slot, .int .i64 v.uses, .bool true] 30))
      have hB := hb.alloc hb.size (.cells #[.int .i64 v.slot, .int .i64 v.uses, .bool true] 30)
      have hh := heap_alloc_new w' (.cells #[.int .i64 v.slot, .int .i64 v.uses, .bool true] 30)
      generalize w'.alloc (.cells #[.int .i64 v.slot, .int .i64 v.uses, .bool true] 30) = W at hR hB hh ⊢
      generalize w'.heap.size = g at hh ⊢
      have c0 := hR.cell
      have hlb := hR.lt.1
      have hlg : g < W.heap.size := (Array.getElem?_eq_some_iff.1 hh).1
      have g0 : W.cell? ⟨g, 0, none⟩ = some (.int .i64 v.slot) := by rw [cell_of_row W g 0 _ _ _ hh]; rfl
      have g1 : W.cell? ⟨g, 1, none⟩ = some (.int .i64 v.uses) := by rw [cell_of_row W g 1 _ _ _ hh]; rfl
      have g2 : W.cell? ⟨g, 2, none⟩ = some (.bool true) := by rw [cell_of_row W g 2 _ _ _ hh]; rfl
      obtain ⟨W2, hrun, hR2, hF2⟩ := run_update_ring (w := W.drew) (hR.bel (Below.dr1 _)) (t, s) HK.out ⟨v.slot, v.uses, true⟩ ⟨hv0, hv1⟩
      have HR2 := Lib.hid hR2; have HF2 := Lib.hid hF2; have HB := Lib.hid hB; have Hrun := Lib.hid hrun
      clear hR hb hh hR2 hF2 hB hrun
      go_wp2_with fail
      refine wp_calm ?_
      refine wp_region_os (fun _ w' => Below (W).drew.heap.size (W).drew w') [3, 7] (.move 0 (.move 1 (.move 2 (.take 3 (.move 4 (.move 5 (.move 6 (.take 7 (.run 8 [] .done))))))))) (by kernel_rfl) (by kernel_rfl) (fun _ _ _ _ _ h => nomatch h.1) ?_
      have hS0 : Below (W).drew.heap.size (W).drew (W).drew := Below.refl _ _
      refine os_move rfl rfl rfl (Nat.le_of_ble_eq_true rfl) ?_
      apply Exists.intro
      refine ⟨fun w' K hK => ?_, ?_⟩
      (focus
        go_simp
        exact hK)
      refine os_move rfl rfl rfl (Nat.le_of_ble_eq_true rfl) ?_
      apply Exists.intro
      refine ⟨fun w' K hK => ?_, ?_⟩
      (focus
        go_simp
        exact hK)
      refine os_move rfl rfl rfl (Nat.le_of_ble_eq_true rfl) ?_
      apply Exists.intro
      refine ⟨fun w' K hK => ?_, ?_⟩
      (focus
        go_simp
        exact hK)
      refine os_yld hS0 rfl rfl rfl (Nat.le_of_ble_eq_true rfl) ?_
      apply Exists.intro
      refine ⟨fun w' hS' K hK => ?_, ?_⟩
      (focus
        obtain ⟨hcc, hff⟩ := bcellB (Below.undr hS')
        clear hS'
        go_simp
        exact hK)
      refine os_move rfl rfl rfl (Nat.le_of_ble_eq_true rfl) ?_
      apply Exists.intro
      refine ⟨fun w' K hK => ?_, ?_⟩
      (focus
        go_simp
        exact hK)
      refine os_move rfl rfl rfl (Nat.le_of_ble_eq_true rfl) ?_
      apply Exists.intro
      refine ⟨fun w' K hK => ?_, ?_⟩
      (focus
        go_simp
        exact hK)
      refine os_move rfl rfl rfl (Nat.le_of_ble_eq_true rfl) ?_
      apply Exists.intro
      refine ⟨fun w' K hK => ?_, ?_⟩
      (focus
        go_simp
        exact hK)
      refine os_yld hS0 rfl rfl rfl (Nat.le_of_ble_eq_true rfl) ?_
      apply Exists.intro
      refine ⟨fun w' hS' K hK => ?_, ?_⟩
      (focus
        obtain ⟨hcc, hff⟩ := bcellB (Below.undr hS')
        clear hS'
        go_simp
        exact hK)
      refine os_run rfl rfl (fun K hK => ?_)
      refine wp_update 56 (.tmp 26) (.tmp 29) (.tmp 30) rfl _ _ _ rfl rfl rfl W2 Hrun.out ?_
      refine hK _ _ ⟨fun _ hk => absurd hk List.not_mem_nil, ?_⟩
      clear hK
      refine os_done ⟨rfl, ?_⟩
      go_wp2_with fail
      go_ret
      rw [e1.out]
      exact ⟨rfl, HR2.out, (Fr.of_below HB.out).tr (Fr.undr HF2.out)⟩
    · have e1 : Hid (shredR L (t, s) = (17, L)) := by show _ = _; unfold shredR; rw [hr]; simp [hs]
      have Hs := Lib.hid hs
      clear hr hs
      go_enter Try.func10, Try.ntmps10
      go_wp2_with (go_at_call 11; refine (Hold_at w b m L H.out t s HK.out (some v) Hr.out v rfl true rfl).mono ?_; rintro e w' ⟨rfl, hb⟩; rw [Hs.out])
      go_ret
      rw [e1.out]
      exact ⟨rfl, (H.out.bel hb).bel (Below.al _ _), Fr.of_below (hb.alloc hb.size _)⟩

/-- what Make comes to -/
def makeR (L : List (Wk × Hd)) (k : Wk) (n : Int) : Int × List (Wk × Hd) :=
  if n < 1 ∨ 64 < n then (1, L) else match look L k with
    | some _ => (13, L)
    | none => (0, putR L k ⟨n, 0, false⟩)
set_option maxRecDepth 100000 in
set_option maxHeartbeats 4000000 in
theorem Make_any (w : World) (b m : Nat) (L : List (Wk × Hd)) (h : RingAt w b m L) (t s : ByteArray) (hk : Fits (t, s)) (n : Int) (hn : (Lit.int .i64 n).wf = true) :
    Calls Try.prog 9 #[.pointer (some ⟨b, 0, none⟩), .string t, .string s, .int .i64 n] w fun e w' => e = .returned (.int .i64 (makeR L (t, s) n).1) ∧ RingAt w' b m (makeR L (t, s) n).2 ∧ Fr (fun j => j = m) w w' := by
  have H := Lib.hid h; have HK := Lib.hid hk; have Hn := Lib.hid hn
  clear h hk hn
  obtain ⟨r, hr⟩ : ∃ r, look L (t, s) = r := ⟨_, rfl⟩
  have Hr := Lib.hid hr
  obtain ⟨v, hv⟩ : ∃ v, v = r.getD hd0 := ⟨_, rfl⟩
  obtain ⟨ok, hok⟩ : ∃ ok, ok = r.isSome := ⟨_, rfl⟩
  have Hv := Lib.hid hv; have Hok := Lib.hid hok
  clear hr hv hok
  have hR := H.out.bel (Below.al w (.cells #[.string t, .string s] 60))
  have hB := Below.al w (.cells #[.string t, .string s] 60)
  have hh := heap_alloc_new w (.cells #[.string t, .string s] 60)
  go_enter Try.func9, Try.ntmps9
  go_wp2_with fail
  generalize w.alloc (.cells #[.string t, .string s] 60) = W at hR hB hh ⊢
  generalize w.heap.size = g at hh ⊢
  have c0 := hR.cell
  have hlb := hR.lt.1
  have hlg : g < W.heap.size := (Array.getElem?_eq_some_iff.1 hh).1
  have g0 : W.cell? ⟨g, 0, none⟩ = some (.string t) := by rw [cell_of_row W g 0 _ _ _ hh]; rfl
  have g1 : W.cell? ⟨g, 1, none⟩ = some (.string s) := by rw [cell_of_row W g 1 _ _ _ hh]; rfl
  have HR := Lib.hid hR
  clear hR hh
  obtain ⟨ih, hih, zh⟩ := Option.map_eq_some_iff.1 Try.infoH
  simp only [Prod.mk.injEq] at zh
  have Hih := Lib.hid hih; have Hzh := Lib.hid zh.1
  clear hih zh
  refine wp_calm ?_
  refine wp_region_os (fun _ w' => Below (W).drew.heap.size (W).drew w') [3, 4, 5] (.move 0 (.move 1 (.move 2 (.take 3 (.take 4 (.take 5 (.move 6 (.move 7 (.move 8 (.run 9 [3, 4, 5] (.run 10 [] (.move 11 .done)))))))))))) (by kernel_rfl) (by kernel_rfl) (fun _ _ _ _ _ h => nomatch h.1) ?_
  have hS0 : Below (W).drew.heap.size (W).drew (W).drew := Below.refl _ _
  refine os_move rfl rfl rfl (Nat.le_of_ble_eq_true rfl) ?_
  apply Exists.intro
  refine ⟨fun w' K hK => ?_, ?_⟩
  (focus
    go_simp
    exact hK)
  refine os_move rfl rfl rfl (Nat.le_of_ble_eq_true rfl) ?_
  apply Exists.intro
  refine ⟨fun w' K hK => ?_, ?_⟩
  (focus
    go_simp
    exact hK)
  refine os_move rfl rfl rfl (Nat.le_of_ble_eq_true rfl) ?_
  apply Exists.intro
  refine ⟨fun w' K hK => ?_, ?_⟩
  (focus
    go_simp
    exact hK)
  refine os_yld hS0 rfl rfl rfl (Nat.le_of_ble_eq_true rfl) ?_
  apply Exists.intro
  refine ⟨fun w' hS' K hK => ?_, ?_⟩
  (focus
    obtain ⟨hcc, hff⟩ := bcellB (Below.undr hS')
    clear hS'
    go_simp
    exact hK)
  refine os_yld hS0 rfl rfl rfl (Nat.le_of_ble_eq_true rfl) ?_
  apply Exists.intro
  refine ⟨fun w' hS' K hK => ?_, ?_⟩
  (focus
    obtain ⟨hcc, hff⟩ := bcellB (Below.undr hS')
    clear hS'
    go_simp
    exact hK)
  refine os_lookup 56 (.tmp 19) (.tmp 20) (.map (some m)) (.agg #[.string t, .string s]) (.tuple #[.agg #[.int .i64 v.slot, .int .i64 v.uses, .bool v.shred], .bool ok]) hS0 rfl rfl rfl rfl rfl rfl (fun w' h => by have := run_lookup_ring (HR.out.bel (Below.undr h)) (t, s) HK.out; rw [Hr.out, ← Hv.out, ← Hok.out] at this; exact this) ⟨_, rfl, ?_⟩
  refine os_move rfl rfl rfl (Nat.le_of_ble_eq_true rfl) ?_
  apply Exists.intro
  refine ⟨fun w' K hK => ?_, ?_⟩
  (focus
    go_simp
    exact hK)
  refine os_move rfl rfl rfl (Nat.le_of_ble_eq_true rfl) ?_
  apply Exists.intro
  refine ⟨fun w' K hK => ?_, ?_⟩
  (focus
    go_simp
    exact hK)
  refine os_move rfl rfl rfl (Nat.le_of_ble_eq_true rfl) ?_
  apply Exists.intro
  refine ⟨fun w' K hK => ?_, ?_⟩
  (focus
    go_simp
    exact hK)
  refine os_run rfl rfl (fun K hK => ?_)
  refine wp_alloc_abs 30 rfl ih _ Hih.out Hzh.out ?_
  intro g2 w2 Hg2 Hh2 hb2
  refine hK _ _ ⟨fun _ _ h => Below.tr h (hb2), ?_⟩
  clear hK
  replace hS0 := Below.tr hS0 (hb2)
  refine os_run rfl rfl (fun K hK => ?_)
  refine wp_store_abs 30 (.tmp 10) (.tmp 22) rfl g2 30 _ #[.int .i64 v.slot, .int .i64 v.uses, .bool v.shred] rfl rfl Hh2.out Try.sizeH rfl (all_oneCell_toArray (by intro u hu; simp at hu; rcases hu with rfl | rfl | rfl <;> rfl)) ?_
  intro w3 Hh3 hg3
  have hB3 : Below W.heap.size W w3 := (Below.tr (Below.dr1 W) hb2).grown hg3 (Below.tr (Below.dr1 W) hb2).size (fun j hj => by injection hj with hj; have := Hg2.out.1; have e : W.drew.heap.size = W.heap.size := rfl; omega)
  refine hK _ _ ⟨fun _ hk => absurd hk List.not_mem_nil, ?_⟩
  clear hK
  refine os_move rfl rfl rfl (Nat.le_of_ble_eq_true rfl) ?_
  apply Exists.intro
  refine ⟨fun w' K hK => ?_, ?_⟩
  (focus
    go_simp
    exact hK)
  refine os_done ⟨rfl, ?_⟩
  clear Hh2 Hh3 hg3 hb2 Hg2
  replace g0 := cell_bel g0 hB3
  replace g1 := cell_bel g1 hB3
  replace HR := Lib.hid (HR.out.bel hB3)
  replace hB := Lib.hid (Below.tr hB hB3)
  replace c0 := HR.out.cell
  replace hlb := HR.out.lt.1
  replace hlg : g < w3.heap.size := block_lt_of g0
  clear hB3 hS0
  by_cases h1 : n < 1 ∨ 64 < n
  · have e1 : Hid (makeR L (t, s) n = (1, L)) := by show _ = _; unfold makeR; rw [if_pos h1]
    rcases h1 with h1 | h1
    · go_wp2_with fail
      go_ret
      rw [e1.out]
      exact ⟨rfl, HR.out, Fr.of_below hB.out⟩
    · have h0 : ¬ n < 1 := by omega
      go_wp2_with fail
      go_ret
      rw [e1.out]
      exact ⟨rfl, HR.out, Fr.of_below hB.out⟩
  · have h2 : ¬ n < 1 := by omega
    have h3 : ¬ 64 < n := by omega
    have H1 := Lib.hid h1
    clear h1
    cases r with
    | some v0 =>
      have e1 : Hid (makeR L (t, s) n = (13, L)) := by show _ = _; unfold makeR; rw [if_neg H1.out, Hr.out]
      obtain rfl : ok = true := Hok.out
      go_wp2_with fail
      go_ret
      rw [e1.out]
      exact ⟨rfl, HR.out, Fr.of_below hB.out⟩
    | none =>
      have e1 : Hid (makeR L (t, s) n = (0, putR L (t, s) ⟨n, 0, false⟩)) := by show _ = _; unfold makeR; rw [if_neg H1.out, Hr.out]
      obtain rfl : ok = false := Hok.out
      obtain ⟨W2, hrun, hR2, hF2⟩ := run_update_ring (w := w3.drew) (HR.out.bel (Below.dr1 _)) (t, s) HK.out ⟨n, 0, false⟩ ⟨by show (0 : Int) ≤ 0; omega, by show (0 : Int) ≤ 200; omega⟩
      have HR2 := Lib.hid hR2; have HF2 := Lib.hid hF2; have Hrun := Lib.hid hrun
      clear hR2 hF2 hrun
      go_wp2_with fail
      refine wp_calm ?_
      refine wp_region_os (fun _ w' => Below (w3).drew.heap.size (w3).drew w') [3, 4] (.move 0 (.move 1 (.move 2 (.take 3 (.take 4 (.move 5 (.move 6 (.run 7 [] .done)))))))) (by kernel_rfl) (by kernel_rfl) (fun _ _ _ _ _ h => nomatch h.1) ?_
      have hS0 : Below (w3).drew.heap.size (w3).drew (w3).drew := Below.refl _ _
      refine os_move rfl rfl rfl (Nat.le_of_ble_eq_true rfl) ?_
      apply Exists.intro
      refine ⟨fun w' K hK => ?_, ?_⟩
      (focus
        go_simp
        exact hK)
      refine os_move rfl rfl rfl (Nat.le_of_ble_eq_true rfl) ?_
      apply Exists.intro
      refine ⟨fun w' K hK => ?_, ?_⟩
      (focus
        go_simp
        exact hK)
      refine os_move rfl rfl rfl (Nat.le_of_ble_eq_true rfl) ?_
      apply Exists.intro
      refine ⟨fun w' K hK => ?_, ?_⟩
      (focus
        go_simp
        exact hK)
      refine os_yld hS0 rfl rfl rfl (Nat.le_of_ble_eq_true rfl) ?_
      apply Exists.intro
      refine ⟨fun w' hS' K hK => ?_, ?_⟩
      (focus
        obtain ⟨hcc, hff⟩ := bcellB (Below.undr hS')
        clear hS'
        go_simp
        exact hK)
      refine os_yld hS0 rfl rfl rfl (Nat.le_of_ble_eq_true rfl) ?_
      apply Exists.intro
      refine ⟨fun w' hS' K hK => ?_, ?_⟩
      (focus
        obtain ⟨hcc, hff⟩ := bcellB (Below.undr hS')
        clear hS'
        go_simp
        exact hK)
      refine os_move rfl rfl rfl (Nat.le_of_ble_eq_true rfl) ?_
      apply Exists.intro
      refine ⟨fun w' K hK => ?_, ?_⟩
      (focus
        go_simp
        exact hK)
      refine os_move rfl rfl rfl (Nat.le_of_ble_eq_true rfl) ?_
      apply Exists.intro
      refine ⟨fun w' K hK => ?_, ?_⟩
      (focus
        go_simp
        exact hK)
      refine os_run rfl rfl (fun K hK => ?_)
      refine wp_update 56 (.tmp 36) (.tmp 37) (.tmp 39) rfl _ _ _ rfl rfl rfl W2 Hrun.out ?_
      refine hK _ _ ⟨fun _ hk => absurd hk List.not_mem_nil, ?_⟩
      clear hK
      refine os_done ⟨rfl, ?_⟩
      go_wp2_with fail
      go_ret
      rw [e1.out]
      exact ⟨rfl, HR2.out, (Fr.of_below hB.out).tr (Fr.undr HF2.out)⟩
end Go.Proofs.Ytglbhoamknjdeaa
