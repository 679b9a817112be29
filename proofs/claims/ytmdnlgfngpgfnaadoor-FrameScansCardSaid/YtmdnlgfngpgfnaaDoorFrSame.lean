/- Lists of frames: held against one another, written over. -/
import Derived.Test.YtmdnlgfngpgfnaaDoorFrForm
import Derived.Test.YtmdnlgfngpgfnaaDoorKit3
namespace Go.Proofs.YtmdnlgfngpgfnaaDoor
open Go.RowKit

theorem Same_q {F G : Nat → Prop} {A A' : Option Addr} {n n' c c' : Nat} {l l' : List UInt8} {w : World} (h : Sl w F A n c l) (h' : Sl w G A' n' c' l') (hl : n ≤ 9223372036854775807) (hl' : n' ≤ 9223372036854775807) (r : Bool) (hr : (l == l') = r) (m : Nat) :
    Calls Tryd.prog 15 #[.slice A n c, .slice A' n' c'] (w.drewN m) fun e w' => e = .returned (.bool r) ∧ ∃ k, w' = w.drewN k :=
  (Same_at (w := w.drewN m) (h.drewN_ m) (h'.drewN_ m) hl hl' r hr).mono fun _ _ ⟨he, k, hk⟩ => ⟨he, m + k, by rw [hk, World.drewN_drewN]⟩

theorem Same_q2 {F G : Nat → Prop} {A A' : Option Addr} {n n' c c' : Nat} {l l' : List UInt8} {w : World} (h : Sl w F A n c l) (h' : Sl w G A' n' c' l') (hl : n ≤ 9223372036854775807) (hl' : n' ≤ 9223372036854775807) (r : Bool) (hr : (l == l') = r) (m x : Nat) :
    Calls Tryd.prog 15 #[.slice A n c, .slice A' n' c'] (w.drewN (m + x)) fun e w' => e = .returned (.bool r) ∧ ∃ k, w' = w.drewN (m + k) :=
  (Same_at (w := w.drewN (m + x)) (h.drewN_ _) (h'.drewN_ _) hl hl' r hr).mono fun _ _ ⟨he, k, hk⟩ => ⟨he, x + k, by rw [hk, World.drewN_drewN, Nat.add_assoc]⟩

set_option maxRecDepth 100000 in
set_option maxHeartbeats 1000000 in
theorem SameFrames_any {w : World} {b1 b2 : Nat} {A1 A2 : Option Addr} {n c1 c2 : Nat} {cs1 cs2 : List Value} {D1 D2 : Nat → Prop} {fs : List (Int × List UInt8)}
    (h1 : w.ownsRow b1 34 2 (.slice A1 n c1) n cs1) (f1 : FrsAt w D1 fs cs1) (h2 : w.ownsRow b2 34 2 (.slice A2 n c2) n cs2) (f2 : FrsAt w D2 fs cs2) (hn : fs.length = n)
    (hb : ∀ f ∈ fs, f.2.length ≤ 140737488355328) (hn2 : n ≤ 140737488355328) :
    Calls Tryd.prog 26 #[.slice A1 n c1, .slice A2 n c2] w fun e w' => e = .returned (.bool true) ∧ ∃ k, w' = w.drewN k := by
  have H1 := Lib.hid h1; have F1 := Lib.hid f1; have H2 := Lib.hid h2; have F2 := Lib.hid f2; have Hn := Lib.hid hn; have Hb := Lib.hid hb
  clear h1 f1 h2 f2 hn hb
  have hne : ((n : Int) != (n : Int)) = false := by simp
  go_enter Tryd.func26, Tryd.ntmps26
  go_wp2_with fail
  clear hne
  go_loopw [5] (fun i w' => ∃ k m : Nat, k ≤ n ∧ i = .int .i64 (k : Nat) ∧ w' = w.drewN m) (fun i _ => n - (intOf i).toNat)
  case atStart => exact ⟨0, 0, Nat.zero_le _, rfl, rfl⟩
  case round =>
    obtain ⟨k, m, hk, rfl, rfl⟩ := hrel
    by_cases hlt : k < n
    · have hkf : k < fs.length := by have := Hn.out; omega
      obtain ⟨B1, m1, d1, g1, g2, g3, _⟩ := F1.out.get k hkf
      obtain ⟨B2, m2, d2, k1, k2, k3, _⟩ := F2.out.get k hkf
      have hbd := Hb.out _ (List.getElem_mem hkf)
      generalize fs[k] = f at *
      obtain ⟨fk, fb⟩ := f
      obtain ⟨x1, cap1, hv, _, _⟩ := H1.out.form (by omega)
      injection hv with e1 _ e2
      subst e1 e2
      obtain ⟨x2, cap2, hv, _, _⟩ := H2.out.form (by omega)
      injection hv with e1 _ e2
      subst e1 e2
      simp only at g1 g3 k1 k3 hbd
      have hc1 : w.cell? ⟨x1, k * 2, none⟩ = some (.int .i64 fk) := by rw [H1.out.cellAt (k * 2) (by omega), Nat.mul_comm]; exact g1
      have hc2 : w.cell? ⟨x1, k * 2 + 1, none⟩ = some (.slice B1 m1 d1) := by rw [H1.out.cellAt (k * 2 + 1) (by omega), Nat.mul_comm]; exact g2
      have hc3 : w.cell? ⟨x2, k * 2, none⟩ = some (.int .i64 fk) := by rw [H2.out.cellAt (k * 2) (by omega), Nat.mul_comm]; exact k1
      have hc4 : w.cell? ⟨x2, k * 2 + 1, none⟩ = some (.slice B2 m2 d2) := by rw [H2.out.cellAt (k * 2 + 1) (by omega), Nat.mul_comm]; exact k2
      have s1 := Lib.hid (Sl.of_own g3)
      have s2 := Lib.hid (Sl.of_own k3)
      have hm1 : Hid (m1 ≤ 9223372036854775807 ∧ m2 ≤ 9223372036854775807) := by have := s1.out.len; have := s2.out.len; exact ⟨by omega, by omega⟩
      clear g1 g2 g3 k1 k2 k3 hbd
      have hkI : (k : Int) < (n : Int) := by omega
      have hk0 : (0 : Int) ≤ (k : Int) := by omega
      have hfk : ((fk : Int) == fk) = true := by simp
      go_wp2_with fail
      go_quiet ((go_at_call 15; exact Same_q2 s1.out s2.out hm1.out.1 hm1.out.2 true (by simp) _ _))
      go_wp2_with fail
      go_roundw
      case rel => exact ⟨k + 1, m + nq, by omega, by go_num, rfl⟩
      case measure => simp [intOf]; omega
    · go_wp2_with fail
      go_ret
      exact ⟨rfl, m, rfl⟩

theorem mark_fr (i : Int) (w : World) (h0 : 0 ≤ i) (h1 : i ≤ 1000000000000000) :
    Calls Tryd.prog 38 #[.int .i64 i] w fun e w' => e = .returned (.agg #[.int .i64 (-9 - i), .slice none 0 0]) ∧ Below w.heap.size w w' := by
  go_enter Tryd.func38, Tryd.ntmps38
  go_wp2_with fail
  (try simp only [Exit.inBlock, Exit.then])
  refine bodyPost_ret (v := .agg #[.int .i64 (-9 - i), .slice none 0 0]) (by simp [results, Tryd.results38, go_sem]; try rfl) rfl ⟨rfl, ?_⟩
  exact (Below.refl _ _).alloc (Nat.le_refl _) _

set_option maxRecDepth 100000 in
set_option maxHeartbeats 1000000 in
theorem SpoilFrames_any {w : World} {base : Nat} {A : Option Addr} {n c : Nat} {cs : List Value} (h : w.ownsRow base 34 2 (.slice A n c) n cs) (hn : n ≤ 100000000000000) :
    Calls Tryd.prog 36 #[.slice A n c] w fun e w' => e = .returned (.tuple #[]) ∧ Fr (fun j => some j = (Value.slice A n c).ownBlock) w w' := by
  have H := Lib.hid h; clear h
  go_enter Tryd.func36, Tryd.ntmps36
  go_wp2_with fail
  go_loopw [2] (fun i wr => ∃ k : Nat, k ≤ n ∧ i = .int .i64 (k : Nat) ∧ Hid (∃ ys, wr.ownsRow base 34 2 (.slice A n c) n ys) ∧ Hid (Fr (fun j => some j = (Value.slice A n c).ownBlock) w wr)) (fun i _ => n - (intOf i).toNat)
  case atStart => exact ⟨0, by omega, rfl, ⟨_, H.out⟩, Fr.refl _ _⟩
  case round =>
    obtain ⟨k, hk, rfl, Hex, Hf⟩ := hrel
    obtain ⟨ys, hown⟩ := Hex.out
    by_cases hlt : k < n
    · obtain ⟨g, cap, hv, _, _⟩ := hown.form (by omega)
      injection hv with hA1 _ hc1
      subst hA1 hc1
      have Hown := Lib.hid hown
      have hkI : (0 : Int) ≤ (k : Int) := by omega
      have hknI : (k : Int) < (n : Int) := by omega
      clear hown
      go_wp2_with (go_at_call 38; refine (mark_fr _ _ (by omega) (by omega)).mono ?_; rintro e w2 ⟨rfl, hb2⟩
                   have hown2 : w2.ownsRow base 34 2 (.slice (some ⟨g, 0, none⟩) n c) n ys := own_fr Hown.out (Fr.of_below (M := NoB) hb2) (fun _ _ e => e)
                   have hyl : ys.length = n * 2 := hown2.1
                   have hcell : w2.cell? ⟨g, k * 2, none⟩ = some (ys[k * 2]'(by omega)) := by rw [hown2.cellAt (k * 2) (by omega)]; exact List.getElem?_eq_getElem _
                   have hcell2 : w2.cell? ⟨g, k * 2 + 1, none⟩ = some (ys[k * 2 + 1]'(by omega)) := by rw [hown2.cellAt (k * 2 + 1) (by omega)]; exact List.getElem?_eq_getElem _
                   have hfz := hown2.frozenAt (k * 2)
                   have hfz2 := hown2.frozenAt (k * 2 + 1))
      obtain ⟨s1, s2⟩ := hown2.stored (k * 2) (.int .i64 (-9 - ((k : Int) + 7)))
      obtain ⟨s3, s4⟩ := s1.stored (k * 2 + 1) (.slice none 0 0)
      go_roundw
      case rel => exact ⟨k + 1, by omega, by go_num, ⟨_, s3⟩, ((Hf.out.trans_below hb2).trans (Fr.of_grown s2) (fun _ _ h => h)).trans (Fr.of_grown s4) (fun _ _ h => h)⟩
      case measure => simp [intOf]; omega
    · go_wp2_with fail
      go_end0
      exact ⟨rfl, Hf.out⟩
set_option maxRecDepth 100000 in
set_option maxHeartbeats 1000000 in
theorem SpoilFramesDeep_any {w : World} {base : Nat} {A : Option Addr} {n c : Nat} {cs : List Value} {D : Nat → Prop} {fs : List (Int × List UInt8)} (h : w.ownsRow base 34 2 (.slice A n c) n cs) (hf : FrsAt w D fs cs) (hfl : fs.length = n)
    (hD : ∀ j, D j → (Value.slice A n c).ownBlock ≠ some j) (hb : ∀ f ∈ fs, f.2.length ≤ 140737488355328) (hn : n ≤ 100000000000000) :
    Calls Tryd.prog 27 #[.slice A n c] w fun e w' => e = .returned (.tuple #[]) ∧ Fr (fun j => D j ∨ some j = (Value.slice A n c).ownBlock) w w' := by
  have H := Lib.hid h; have HFs := Lib.hid hf; have HD := Lib.hid hD; have Hb := Lib.hid hb; have Hfl := Lib.hid hfl
  clear h hf hD hb hfl
  go_enter Tryd.func27, Tryd.ntmps27
  go_wp2_with fail
  go_loopw [2] (fun i wr => ∃ k : Nat, k ≤ n ∧ i = .int .i64 (k : Nat) ∧ Hid (KeepOwn w wr) ∧ Hid (Fr D w wr)) (fun i _ => n - (intOf i).toNat)
  case atStart => exact ⟨0, by omega, rfl, KeepOwn.refl _, Fr.refl _ _⟩
  case round =>
    obtain ⟨k, hk, rfl, Hko, Hf⟩ := hrel
    have Hown : Hid (wr.ownsRow base 34 2 (.slice A n c) n cs) := own_fr H.out Hf.out (fun j hj e => HD.out j e hj)
    by_cases hlt : k < n
    · have hkf : k < fs.length := by have := Hfl.out; omega
      obtain ⟨B1, m1, d1, g1, g2, g3, g4⟩ := HFs.out.get k hkf
      have hbd := Hb.out _ (List.getElem_mem hkf)
      obtain ⟨x1, cap1, hv, _, _⟩ := Hown.out.form (by omega)
      injection hv with e1 _ e2
      subst e1 e2
      have hc2 : wr.cell? ⟨x1, k * 2 + 1, none⟩ = some (.slice B1 m1 d1) := by rw [Hown.out.cellAt (k * 2 + 1) (by omega), Nat.mul_comm]; exact g2
      have hlen := g3.1
      rw [bs_length] at hlen
      obtain ⟨ys, hys⟩ := Hko.out _ _ _ _ _ ⟨_, g3⟩
      have Hys := Lib.hid hys; have G4 := Lib.hid g4
      have hm1 : m1 ≤ 140737488355328 := by omega
      clear g1 g2 g3 g4 hys hlen hbd
      have hkI : (0 : Int) ≤ (k : Int) := by omega
      have hknI : (k : Int) < (n : Int) := by omega
      go_wp2_with (go_at_call 18; refine (SpoilBytes_keep 0 B1 m1 d1 m1 ys _ Hys.out (Nat.le_refl _) hm1).mono ?_; rintro e w2 ⟨rfl, hg2, hko2⟩)
      go_roundw
      case rel => exact ⟨k + 1, by omega, by go_num, Hko.out.trans hko2, Hf.out.trans (Fr.of_grown hg2) (fun j _ e => G4.out j e.symm)⟩
      case measure => simp [intOf]; omega
    · go_wp2_with fail
      refine (SpoilFrames_any Hown.out hn).mono ?_
      rintro e w2 ⟨rfl, hf2⟩
      go_wp2_with fail
      go_end0
      exact ⟨rfl, (Hf.out.mono fun _ _ h => .inl h).trans (hf2.mono fun _ _ h => .inr h) (fun _ _ h => h)⟩
end Go.Proofs.YtmdnlgfngpgfnaaDoor
