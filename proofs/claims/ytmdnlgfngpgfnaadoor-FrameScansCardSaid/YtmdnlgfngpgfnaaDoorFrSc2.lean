/- frames, and what it hands back, as an iterator. -/
import Derived.Test.YtmdnlgfngpgfnaaDoorFrSc1
import Derived.Test.YtmdnlgfngpgfnaaDoorRgF
namespace Go.Proofs.YtmdnlgfngpgfnaaDoor
open Go.RowKit

attribute [local go_sem] Oper.semAt_some

theorem frames_any (A : Option Addr) (n c : Nat) (w : World) :
    Calls Tryd.prog 35 #[.slice A n c] w fun e w' => e = .returned (.func (.func 37) #[] #[.pointer (some ⟨w.heap.size, 0, none⟩)]) ∧ w' = w.alloc (.cells #[.slice A n c] 22) := by
  go_enter Tryd.func35, Tryd.ntmps35
  go_wp2
  go_ret
  exact ⟨rfl, rfl⟩

/-- what a round is handed -/
def ArgF (l : List UInt8) (k : Nat) (W0 W1 : World) (args : Array Value) : Prop :=
  ∃ A n c, args = #[.int .i64 (getP (restF l k)).n, .agg #[.int .i64 (getP (restF l k)).k, .slice A n c]] ∧ W1.ownsRow W0.heap.size 5 1 (.slice A n c) n (bs (getP (restF l k)).body)

def lenAt (B : Nat) (w : World) : Nat := match w.cell? ⟨B, 0, none⟩ with | some (.slice _ n _) => n | _ => 0

set_option maxRecDepth 100000 in
set_option maxHeartbeats 2000000 in
theorem frames_iter {w0 : World} (hS : Steps w0) {B : Nat} (hB0 : B ≠ 0) {F : Nat → Prop} {A : Option Addr} {n c : Nat} {l : List UInt8} (hs : Sl w0 F A n c l) (hF : ∀ k, F k → k < w0.heap.size ∧ k ≠ B)
    (hb : w0.heap[B]? = some (.cells #[.slice A n c] 22 (0, 0))) (hn : n ≤ 140737488355000) :
    Iter Tryd.prog 37 #[.pointer (some ⟨B, 0, none⟩)] (fun j => j = B ∨ j = 0 ∨ F j) (fun j => j = B) (scanP l).length (ArgF l) False w0 := by
  intro lp J Jx W hW hJ hJx hY _ h0
  have HS := Lib.hid hS; have Hs := Lib.hid hs; have HF := Lib.hid hF; have Hb := Lib.hid hb; have HW := Lib.hid hW; have HJ := Lib.hid hJ; have HJx := Lib.hid hJx; have HY := Lib.hid hY; have H0 := Lib.hid h0
  clear hS hs hF hb hW hJ hJx hY h0
  refine callsIn_of_wp Tryd.func37 rfl trivial ?_ rfl
  simp only [Tryd.ntmps37, List.size_toArray, List.length_cons, List.length_nil, Nat.reduceAdd, Nat.reduceSub, Array.replicate_succ, Array.replicate_zero, List.push_toArray, List.append_toArray, List.nil_append, List.cons_append]
  gi_wp2_with fail
  gi_loopw [3, 4, 5] (fun _ _ _ wr => ∃ (k : Nat) (A' : Option Addr) (n' c' : Nat), k ≤ (scanP l).length ∧ Hid (wr.heap[B]? = some (.cells #[.slice A' n' c'] 22 (0, 0))) ∧ Hid (Sl wr F A' n' c' (restF l k)) ∧ n' ≤ 140737488355000 ∧ Hid (J k wr) ∧ Hid (Fr (fun j => ¬ (j = B ∨ j = 0 ∨ F j) ∨ j = B) W wr))
    (fun _ _ _ wr => lenAt B wr)
  case atStart =>
    have hB := (Array.getElem?_eq_some_iff.1 Hb.out).1
    exact ⟨0, A, n, c, Nat.zero_le _, (HW.out.block B hB id).trans Hb.out, Hs.out.fr HW.out (fun k hk => ⟨(HF.out k hk).1, id⟩), hn, H0.out, Fr.refl _ _⟩
  case round =>
    obtain ⟨k, A', n', c', hk, Hb', Hs', hn', Hj, Hf⟩ := hrel
    have hcB : wr.cell? ⟨B, 0, none⟩ = some (.slice A' n' c') := by rw [cell_of_row wr B 0 _ _ _ Hb'.out]; rfl
    have hBlt : B < wr.heap.size := (Array.getElem?_eq_some_iff.1 Hb'.out).1
    have Hsz : Hid (w0.heap.size ≤ wr.heap.size) := Nat.le_trans HW.out.size Hf.out.size
    have HSr : Hid (Steps wr) := (HS.out.fr HW.out id).fr Hf.out (by rintro (h | h); exact h (.inr (.inl rfl)); exact hB0 h.symm)
    have HFr : Hid (∀ k, F k → k < wr.heap.size) := fun k hk => Nat.lt_of_lt_of_le (HF.out k hk).1 Hsz.out
    have Hg : Hid (∀ h : k < (scanP l).length, (getP (restF l k)).e = 0 ∧ (getP (restF l k)).n ≤ (restF l k).length ∧ 9 ≤ (getP (restF l k)).n) := fun h => by
      obtain ⟨h1, h2⟩ := scan_at l h
      have := getP_fit (restF l k) (by rw [h1]; exact h2)
      exact ⟨by rw [h1]; exact h2, this.1, this.2.1⟩
    have HYk := Lib.hid (HY.out k)
    have Hlen' := Lib.hid Hs'.out.len
    by_cases hkN : k < (scanP l).length
    · obtain ⟨hg0, hg1, hg2⟩ := Hg.out hkN
      have HkN := Lib.hid hkN
      have Hrest : Hid (restF l (k + 1) = (restF l k).drop (getP (restF l k)).n) := rfl
      generalize hG : getP (restF l k) = G at hg0 hg1 hg2 Hrest
      have HG := Lib.hid hG
      obtain ⟨Ge, Gk, Gb, Gn⟩ := G
      have hg0 : Ge = 0 := hg0
      subst hg0
      have hg1 : Gn ≤ n' := by have := Hlen'.out; simp only at hg1; omega
      have hg1' : (Gn : Int) ≤ (n' : Int) := by omega
      have Hg2 : Hid (9 ≤ Gn) := hg2
      clear hg2 hG hkN Hg
      gi_wp2_with fail
      refine ⟨trivial, rfl, (callsIn_wide.2 (Get_any HSr.out Hs'.out HFr.out (by omega) _ HG.out)).mono ?_⟩
      rintro e w1 ⟨A6, n6, c6, rfl, hown6, hb6⟩
      unfold gotV
      have hcB1 : (w1.alloc (.cells #[.int .i64 Gk, .slice A6 n6 c6] 34)).cell? ⟨B, 0, none⟩ = some (.slice A' n' c') := by
        rw [(hb6.alloc hb6.size _).cell hBlt]; exact hcB
      obtain ⟨fn, tmps, assign, body, hy, hR⟩ := HYk.out wr (w1.alloc (.cells #[.int .i64 Gk, .slice A6 n6 c6] 34)) #[.int .i64 Gn, .agg #[.int .i64 Gk, .slice A6 n6 c6]] HkN.out Hj.out
        (Fr.of_below (hb6.alloc hb6.size _)) ⟨A6, n6, c6, by rw [HG.out], by rw [HG.out]; exact hown6.alloc _⟩
      have Hb6 := Lib.hid (hb6.alloc hb6.size (.cells #[.int .i64 Gk, .slice A6 n6 c6] 34))
      clear hown6 hb6
      gi_wp2_with fail
      refine ⟨rfl, hR.mono ?_⟩
      rintro e W3 (⟨rfl, hJ3, hk3⟩ | ⟨rfl, hJx3⟩)
      · have hb3 : Hid (W3.heap[B]? = some (.cells #[.slice A' n' c'] 22 (0, 0))) :=
          (hk3.block B (Nat.lt_of_lt_of_le hBlt Hb6.out.size) (fun e => e (.inl rfl))).trans ((Hb6.out.block B hBlt).trans Hb'.out)
        have hcB3 : W3.cell? ⟨B, 0, none⟩ = some (.slice A' n' c') := by rw [cell_of_row W3 B 0 _ _ _ hb3.out]; rfl
        have hfB3 : W3.frozen? ⟨B, 0, none⟩ = false := frozen_of_row W3 B 0 _ _ hb3.out
        have hcap := Hs'.out.cap
        have hs3 : Hid (Sl W3 F A' n' c' (restF l k)) := (Hs'.out.fr (Fr.of_below (M := NoB) Hb6.out) (fun k hk => ⟨HFr.out k hk, id⟩)).fr hk3 (fun k hk => ⟨Nat.lt_of_lt_of_le (HFr.out k hk) Hb6.out.size, fun e => e (.inr (.inr hk))⟩)
        have Hfr3 : Hid (Fr (fun j => ¬ (j = B ∨ j = 0 ∨ F j) ∨ j = B) W W3) := (Hf.out.trans_below Hb6.out).trans (hk3.mono fun _ _ h => .inl h) (fun _ _ h => h)
        have HJ3 := Lib.hid hJ3
        have hBW : Hid (B < W.heap.size) := Nat.lt_of_lt_of_le (Array.getElem?_eq_some_iff.1 Hb.out).1 HW.out.size
        obtain ⟨ad, rfl⟩ : ∃ ad, A' = some ad := by
          cases A' with
          | some ad => exact ⟨ad, rfl⟩
          | none => have := (Hs'.out.zero rfl).1; have := Hg2.out; omega
        have hgc : (Gn : Int) ≤ (c' : Int) := by omega
        have hrel : Hid (∀ A2 n2 c2, ((A2 = some ad ∧ c' = Gn) ∨ A2 = (some ad).map (·.add Gn)) → n2 = n' - Gn → c2 = c' - Gn →
            Hid ((W3.setCell ⟨B, 0, none⟩ (.slice A2 n2 c2)).heap[B]? = some (.cells #[.slice A2 n2 c2] 22 (0, 0))) ∧ Hid (Sl (W3.setCell ⟨B, 0, none⟩ (.slice A2 n2 c2)) F A2 n2 c2 (restF l (k + 1))) ∧ n2 ≤ 140737488355000 ∧
            Hid (J (k + 1) (W3.setCell ⟨B, 0, none⟩ (.slice A2 n2 c2))) ∧ Hid (Fr (fun j => ¬ (j = B ∨ j = 0 ∨ F j) ∨ j = B) W (W3.setCell ⟨B, 0, none⟩ (.slice A2 n2 c2))) ∧
            lenAt B (W3.setCell ⟨B, 0, none⟩ (.slice A2 n2 c2)) < lenAt B wr) := by
          intro A2 n2 c2 hA2 hn2 hc2
          subst hn2 hc2
          have hset := Boxed.set (.slice A2 (n' - Gn) (c' - Gn)) (show Boxed W3 B _ _ from hb3.out)
          have hs4 := (hs3.out.drop_ (m := Gn) (A' := A2) hg1 (hA2.imp (fun h => h) id)).fr (Fr.of_grown (grownBy_setCell' W3 B (.slice A2 (n' - Gn) (c' - Gn)))) (fun k hk => ⟨Nat.lt_of_lt_of_le (Nat.lt_of_lt_of_le (HFr.out k hk) Hb6.out.size) hk3.size, fun e => (HF.out k hk).2 (by injection e)⟩)
          refine ⟨hset, by rw [Hrest.out]; exact hs4, by omega, HJ.out _ _ _ HJ3.out (Fr.of_grown (grownBy_setCell' W3 B _) |>.mono fun j _ e => by injection e), Hfr3.out.setCell (p := ⟨B, 0, none⟩) (.inl (.inr rfl)) _, ?_⟩
          have e1 : lenAt B (W3.setCell ⟨B, 0, none⟩ (.slice A2 (n' - Gn) (c' - Gn))) = n' - Gn := by unfold lenAt; rw [hset.cell]
          have e2 : lenAt B wr = n' := by unfold lenAt; rw [hcB]
          rw [e1, e2]
          have := Hg2.out; omega
        clear hcB1 hy hR hk3 hJ3 hcB
        by_cases hcc : c' = Gn
        · subst hcc
          have hnG : n' = c' := by omega
          subst hnG
          gi_wp2_with fail
          obtain ⟨g1, g2, g3, g4, g5, g6⟩ := hrel.out (some ad) 0 0 (by simp) (by omega) (by omega)
          go_roundw
          case rel => exact ⟨k + 1, some ad, 0, 0, HkN.out, g1, g2, g3, g4, g5⟩
          case measure => exact g6
        · gi_wp2_with fail
          obtain ⟨g1, g2, g3, g4, g5, g6⟩ := hrel.out (some (ad.add Gn)) (n' - Gn) (c' - Gn) (.inr rfl) rfl rfl
          go_roundw
          case rel => exact ⟨k + 1, some (ad.add Gn), n' - Gn, c' - Gn, HkN.out, g1, g2, g3, g4, g5⟩
          case measure => exact g6
      · gi_wp2_with fail
        refine bodyPost_ret (results_none rfl _ _ _) rfl ?_
        exact ⟨⟨_, rfl⟩, .inr hJx3⟩
    · obtain rfl : k = (scanP l).length := by omega
      have hne := scan_end l
      have HJk := Lib.hid (HJ.out (scanP l).length wr)
      generalize hG : getP (restF l (scanP l).length) = G at hne
      have HG := Lib.hid hG
      obtain ⟨Ge, Gk, Gb, Gn⟩ := G
      have hneB : (Ge != 0) = true := by simpa using hne
      clear hne hG Hg HYk hkN
      gi_wp2_with fail
      refine ⟨trivial, rfl, (callsIn_wide.2 (Get_any HSr.out Hs'.out HFr.out (by omega) _ HG.out)).mono ?_⟩
      rintro e w1 ⟨A6, n6, c6, rfl, hown6, hb6⟩
      unfold gotV
      have Hb6 := Lib.hid (hb6.alloc hb6.size (.cells #[.int .i64 Gk, .slice A6 n6 c6] 34))
      clear hown6 hb6
      gi_wp2_with fail
      refine ⟨fun _ h => (by cases h), ?_⟩
      gi_wp2_with fail
      refine bodyPost_ret (results_none rfl _ _ _) rfl ?_
      exact ⟨⟨_, rfl⟩, .inl (HJk.out _ Hj.out (Fr.of_below Hb6.out))⟩
end Go.Proofs.YtmdnlgfngpgfnaaDoor
