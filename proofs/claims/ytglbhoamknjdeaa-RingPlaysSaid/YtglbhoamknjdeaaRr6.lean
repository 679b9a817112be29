/- RingPlays: both told alike. -/
import Derived.Test.YtglbhoamknjdeaaRr5
namespace Go.Proofs.Ytglbhoamknjdeaa
open Go.RowKit
attribute [local go_sem] yld yldUpon_value

theorem rLive_any {w : World} {lo g : Nat} {A : Option Addr} {n c : Nat} {L : List (Wk × Hd)} (h : RefAt w lo g A n c L) (hn : n ≤ 10000) :
    Calls Try.prog 26 #[.pointer (some ⟨g, 0, none⟩)] w fun e w' => ∃ A' n' c', e = .returned (.slice A' n' c') ∧ w'.ownsRow w.heap.size 3 1 (.slice A' n' c') n' ((slotsL L false).map (Value.int .i64)) ∧ Below w.heap.size w w' := by
  go_enter Try.func26, Try.ntmps26
  go_wp2_with fail
  refine (rSlots_any h hn false).mono ?_
  rintro e w1 ⟨A, n, c, rfl, ho, hb⟩
  go_wp2_with fail
  go_ret
  exact ⟨A, n, c, rfl, ho, hb⟩
theorem rDead_any {w : World} {lo g : Nat} {A : Option Addr} {n c : Nat} {L : List (Wk × Hd)} (h : RefAt w lo g A n c L) (hn : n ≤ 10000) :
    Calls Try.prog 27 #[.pointer (some ⟨g, 0, none⟩)] w fun e w' => ∃ A' n' c', e = .returned (.slice A' n' c') ∧ w'.ownsRow w.heap.size 3 1 (.slice A' n' c') n' ((slotsL L true).map (Value.int .i64)) ∧ Below w.heap.size w w' := by
  go_enter Try.func27, Try.ntmps27
  go_wp2_with fail
  refine (rSlots_any h hn true).mono ?_
  rintro e w1 ⟨A, n, c, rfl, ho, hb⟩
  go_wp2_with fail
  go_ret
  exact ⟨A, n, c, rfl, ho, hb⟩
theorem slotsL_wf (L : List (Wk × Hd)) (sh : Bool) : ∀ x ∈ slotsL L sh, (Lit.int .i64 x).wf = true := slK_wf L sh 64 (by decide)
/-- three cells of a block that was there -/
theorem cell_bl {w w' : World} {g i : Nat} {cs : Array Value} {T : TypeId} (h : w.heap[g]? = some (.cells cs T (0, 0))) (hb : Below w.heap.size w w') {v : Value} (hv : cs[i]? = some v) : w'.cell? ⟨g, i, none⟩ = some v := by
  rw [cell_of_row w' g i _ _ _ (heap_bel h hb)]; exact hv
set_option maxRecDepth 100000 in
set_option maxHeartbeats 8000000 in
theorem alike_any {w : World} {lo b m g : Nat} {A : Option Addr} {n c : Nat} {L : List (Wk × Hd)} (h : BothAt w lo b m g A n c L) (kd v : Int) (t s : ByteArray) (hk : Fits (t, s)) :
    Calls Try.prog 16 #[.pointer (some ⟨b, 0, none⟩), .pointer (some ⟨g, 0, none⟩), .agg #[.int .i64 kd, .int .i64 v, .string t, .string s]] w fun e w' => e = .returned (.bool true) ∧ Below w.heap.size w w' := by
  have H := Lib.hid h; have HK := Lib.hid hk
  clear h hk
  obtain ⟨r, hr⟩ : ∃ r, look L (t, s) = r := ⟨_, rfl⟩
  obtain ⟨⟨v1, v2, v3⟩, hv⟩ : ∃ v, r.getD hd0 = v := ⟨_, rfl⟩
  obtain ⟨ok, hok⟩ : ∃ ok, r.isSome = ok := ⟨_, rfl⟩
  have HR := Lib.hid hr; have HVv := Lib.hid hv; have HO := Lib.hid hok
  clear hr hv hok
  go_enter Try.func16, Try.ntmps16
  go_wp2_with fail
  obtain ⟨w0, hw0⟩ : ∃ w0, w0 = w.alloc (.cells #[.int .i64 kd, .int .i64 v, .string t, .string s] 48) := ⟨_, rfl⟩
  have hh : w0.heap[w.heap.size]? = some (.cells #[.int .i64 kd, .int .i64 v, .string t, .string s] 48 (0, 0)) := by rw [hw0]; exact heap_alloc_new w _
  have HH := Lib.hid hh
  have B0 : Hid (Below w.heap.size w w0) := by rw [hw0]; exact Below.al w _
  rw [← hw0]
  clear hw0 hh
  refine (Hold_at _ b m L (H.out.bel B0.out).ring t s HK.out r HR.out ⟨v1, v2, v3⟩ HVv.out ok HO.out).mono ?_
  rintro e w1 ⟨rfl, hb1⟩
  have B1 := Lib.hid (Below.tr hb1 (Below.al w1 (.cells #[.int .i64 v1, .int .i64 v2, .bool v3] 30)))
  have h7 := heap_alloc_new w1 (.cells #[.int .i64 v1, .int .i64 v2, .bool v3] 30)
  have H7 := Lib.hid h7
  have c2 := cell_bl (i := 2) HH.out B1.out rfl
  have c3 := cell_bl (i := 3) HH.out B1.out rfl
  clear hb1 h7
  go_wp2_with fail
  generalize w1.alloc (.cells #[.int .i64 v1, .int .i64 v2, .bool v3] 30) = w2 at B1 H7 c2 c3 ⊢
  have X2 := Lib.hid ((H.out.bel B0.out).bel B1.out)
  clear c2 c3
  refine (rHold_any X2.out.rf X2.out.n t s ⟨v1, v2, v3⟩ (by rw [HR.out]; exact HVv.out) ok (by rw [HR.out]; exact HO.out)).mono ?_
  rintro e w3 ⟨rfl, hb3⟩
  have B3 := Lib.hid (Below.tr hb3 (Below.al w3 (.cells #[.int .i64 v1, .int .i64 v2, .bool v3] 30)))
  have H9 := Lib.hid (heap_alloc_new w3 (.cells #[.int .i64 v1, .int .i64 v2, .bool v3] 30))
  clear hb3
  go_wp2_with fail
  generalize w3.alloc (.cells #[.int .i64 v1, .int .i64 v2, .bool v3] 30) = w4 at B3 H9 ⊢
  have X4 := Lib.hid (X2.out.bel B3.out)
  have H7b := Lib.hid (heap_bel H7.out B3.out)
  refine (Live_any w4 b m L X4.out.ring (Nat.le_trans X4.out.len (by decide)) X4.out.slots).mono ?_
  rintro e w5 ⟨A5, n5, c5, rfl, ho5, hb5⟩
  have O5 := Lib.hid ho5; have B5 := Lib.hid hb5
  have X5 := Lib.hid (X4.out.bel hb5)
  clear ho5 hb5
  go_wp2_with fail
  refine (Dead_any w5 b m L X5.out.ring (Nat.le_trans X5.out.len (by decide)) X5.out.slots).mono ?_
  rintro e w6 ⟨A6, n6, c6, rfl, ho6, hb6⟩
  have O6 := Lib.hid ho6; have B6 := Lib.hid hb6
  have X6 := Lib.hid (X5.out.bel hb6)
  have B46 := Lib.hid (Below.tr B5.out hb6)
  have d0 := cell_bl (i := 0) H7b.out B46.out rfl
  have d1 := cell_bl (i := 1) H7b.out B46.out rfl
  have d2 := cell_bl (i := 2) H7b.out B46.out rfl
  have f0 := cell_bl (i := 0) H9.out B46.out rfl
  have f1 := cell_bl (i := 1) H9.out B46.out rfl
  have f2 := cell_bl (i := 2) H9.out B46.out rfl
  clear ho6 hb6
  go_wp2_with fail
  clear d0 d1 d2 f0 f1 f2
  have l5 := Lib.hid (row_len O5.out (by rw [List.length_map]))
  have l6 := Lib.hid (row_len O6.out (by rw [List.length_map]))
  refine (rLive_any X6.out.rf X6.out.n).mono ?_
  rintro e w7 ⟨A7, n7, c7, rfl, ho7, hb7⟩
  have l7 := Lib.hid (row_len ho7 (by rw [List.length_map]))
  have I5 := Lib.hid ((IntSl.of_own O5.out (slotsL_wf L false)).belF (Below.tr B6.out hb7) (fun _ h => h.2.1))
  have I7 := Lib.hid (IntSl.of_own ho7 (slotsL_wf L false))
  have B7 := Lib.hid hb7
  clear ho7 hb7
  go_wp2_with fail
  refine (SameInts_at I5.out I7.out (by have := slotsL_le L false; have := l5.out; omega) (by have := slotsL_le L false; have := l7.out; omega) true (by simp)).mono ?_
  rintro e w8 ⟨rfl, x, rfl⟩
  have B8 := Lib.hid (Below.tr B7.out (Below.drN w7 x))
  generalize w7.drewN x = w8 at B8 ⊢
  clear I5 I7 B7
  have X8 := Lib.hid (X6.out.bel B8.out)
  go_wp2_with fail
  refine (rDead_any X8.out.rf X8.out.n).mono ?_
  rintro e w9 ⟨A9, n9, c9, rfl, ho9, hb9⟩
  have l9 := Lib.hid (row_len ho9 (by rw [List.length_map]))
  have I6 := Lib.hid ((IntSl.of_own O6.out (slotsL_wf L true)).belF (Below.tr B8.out hb9) (fun _ h => h.2.1))
  have I9 := Lib.hid (IntSl.of_own ho9 (slotsL_wf L true))
  have B9 := Lib.hid (Below.tr B8.out hb9)
  clear ho9 hb9
  go_wp2_with fail
  refine (SameInts_at I6.out I9.out (by have := slotsL_le L true; have := l6.out; omega) (by have := slotsL_le L true; have := l9.out; omega) true (by simp)).mono ?_
  rintro e w10 ⟨rfl, x2, rfl⟩
  have B10 := Lib.hid (Below.tr B9.out (Below.drN w9 x2))
  generalize w9.drewN x2 = w10 at B10 ⊢
  clear I6 I9 B9 B8 X8
  have P5 := Lib.hid (own_fr O5.out (Fr.of_below (M := NoB) (Below.tr B6.out B10.out)) (fun _ _ e => e))
  have P6 := Lib.hid (own_fr O6.out (Fr.of_below (M := NoB) B10.out) (fun _ _ e => e))
  go_wp2_with fail
  refine (SpoilInts_any w4.heap.size A5 n5 c5 n5 _ w10 P5.out (Nat.le_refl _) (by have := slotsL_le L false; have := l5.out; omega)).mono ?_
  rintro e w11 ⟨rfl, hg11⟩
  have Q6 := Lib.hid (own_fr P6.out (Fr.of_grown hg11) (fun k hk e => by
    have h1 := (O6.out.lt k hk).1
    have h2 := (O5.out.lt k e.symm).2
    omega))
  have G11 := Lib.hid hg11
  clear hg11
  go_wp2_with fail
  refine (SpoilInts_any w5.heap.size A6 n6 c6 n6 _ w11 Q6.out (Nat.le_refl _) (by have := slotsL_le L true; have := l6.out; omega)).mono ?_
  rintro e w12 ⟨rfl, hg12⟩
  have G12 := Lib.hid hg12
  clear hg12
  go_wp2_with fail
  go_ret
  have Ba := Below.tr (Below.tr (Below.tr (Below.tr (Below.tr B0.out B1.out) B3.out) B5.out) B6.out) B10.out
  have z5 : w.heap.size ≤ w4.heap.size := (Below.tr (Below.tr B0.out B1.out) B3.out).size
  have z6 : w4.heap.size ≤ w5.heap.size := B5.out.size
  have Bb := Ba.grown G11.out Ba.size (fun j hj => by have := (O5.out.lt j hj).1; omega)
  exact ⟨rfl, Bb.grown G12.out Bb.size (fun j hj => by have := (O6.out.lt j hj).1; omega)⟩
end Go.Proofs.Ytglbhoamknjdeaa
