/- The reference: Block. -/
import Derived.Test.YtobbcnajmocpfaaCh17
import Derived.Test.YtobbcnajmocpfaaCh12
namespace Go.Proofs.Ytobbcnajmocpfaa
open Go.RowKit
attribute [local go_sem] yld yldUpon_value

theorem pl_period (n i : Nat) : plA (8 * n + i) = plA i ∧ plB (8 * n + i) = plB i ∧ plC (8 * n + i) = plC i ∧ plD (8 * n + i) = plD i := by
  have h1 : (8 * n + i) % 4 = i % 4 := by omega
  have h2 : (8 * n + i) / 4 % 2 = i / 4 % 2 := by omega
  simp [plA, plB, plC, plD, h1, h2]
theorem pl_lt (t : Nat) : plA t < 16 ∧ plB t < 16 ∧ plC t < 16 ∧ plD t < 16 := by unfold plA plB plC plD; omega

/-- what the reference's Block holds while it turns its words -/
structure QInv (w w' : World) (g6 gf cf gl cl gp : Nat) (B S : List (BitVec 32)) : Prop where
  o : w'.heap[g6]? = some (.cells (bs (List.replicate 64 0)).toArray 27 (0, 0))
  f : SqB w' 24 gf 16 cf B
  l : SqB w' 24 gl 16 cl S
  p : PlOk w' gp (gl + 1)
  ord : w.heap.size ≤ g6 ∧ g6 < gf ∧ gf < gl
  lt : gl < w'.heap.size
  fr : Below w.heap.size w w'
theorem QInv.step {w w' w2 : World} {g6 gf cf gl cl gp : Nat} {B S S2 : List (BitVec 32)} (h : QInv w w' g6 gf cf gl cl gp B S) (h2 : SqB w2 24 gl 16 cl S2) (hf : Fr (fun k => k = gl) w' w2) : QInv w w2 g6 gf cf gl cl gp B S2 := by
  have ho := h.ord
  have hl := h.lt
  have hz := hf.size
  refine ⟨(hf.block _ (by omega) (by omega)).trans h.o, h.f.fr hf (by omega) (by decide), h2, h.p.below hf (fun j hj _ e => by omega), h.ord, by omega, ?_⟩
  exact ((Fr.of_below h.fr).trans hf (fun _ _ h => h)).to_below (fun i hi e => by omega)

/-- while it writes its bytes -/
structure WInv (w w' : World) (g6 gf cf gl cl g9 : Nat) (B S : List (BitVec 32)) (L : List UInt8) (j : Nat) : Prop where
  o : w'.heap[g6]? = some (.cells (bs (List.replicate 64 0)).toArray 27 (0, 0))
  f : SqB w' 24 gf 16 cf B
  l : SqB w' 24 gl 16 cl S
  out : ByB w' 27 g9 64 (partB L j)
  ord : w.heap.size ≤ g6 ∧ g6 < gf ∧ gf < gl ∧ gl < g9
  lt : g9 < w'.heap.size
  fr : Below w.heap.size w w'
theorem WInv.step {w w' : World} {g6 gf cf gl cl g9 : Nat} {B S : List (BitVec 32)} {L : List UInt8} {j : Nat} (h : WInv w w' g6 gf cf gl cl g9 B S L j) (hL : L.length = 64) (hj : j < 64) (v : Value) (hv : v = bv L[j]) : WInv w (w'.setCell ⟨g9, j, none⟩ v) g6 gf cf gl cl g9 B S L (j + 1) := by
  subst hv
  have hf : Fr (fun k => k = g9) w' (w'.setCell ⟨g9, j, none⟩ (bv L[j])) := (Fr.refl (fun k => k = g9) w').setCell (p := ⟨g9, j, none⟩) (.inl rfl) _
  have hz := hf.size
  have hl := h.lt
  have ho := h.ord
  refine ⟨(hf.block _ (by omega) (by omega)).trans h.o, h.f.fr hf (by omega) (by decide), h.l.fr hf (by omega) (by decide), ?_, h.ord, by omega, ?_⟩
  · rw [← partB_set L hL j hj]; exact h.out.set j _
  · exact ((Fr.of_below h.fr).trans hf (fun i _ h => h)).to_below (fun i hi => by omega)
theorem WInv.drewN {w w' : World} {g6 gf cf gl cl g9 : Nat} {B S : List (BitVec 32)} {L : List UInt8} {j : Nat} (h : WInv w w' g6 gf cf gl cl g9 B S L j) (k : Nat) : WInv w (w'.drewN k) g6 gf cf gl cl g9 B S L j :=
  ⟨h.o, h.f, h.l, h.out, h.ord, h.lt, below_drewN h.fr k⟩

set_option maxRecDepth 100000 in
set_option maxHeartbeats 8000000 in
theorem RefBlock_any (w : World) (key nonce : List UInt8) (ctr : BitVec 32) (hk : key.length = 32) (hn : nonce.length = 12) :
    Calls Try.prog 10 #[.agg (bs key).toArray, .int .u32 (wv ctr), .agg (bs nonce).toArray] w fun e w' => e = .returned (.agg (bs (blockP key ctr nonce)).toArray) ∧ Below w.heap.size w w' := by
  have Hk := Lib.hid hk; have Hn := Lib.hid hn
  obtain ⟨io, hio, hzo, hso, _⟩ := info_parts Try.infoO
  have Hio := Lib.hid hio; have Hzo := Lib.hid hzo
  have u1 := Lib.hid Try.underlying23
  have u2 := Lib.hid Try.underlying26
  have i1 : Hid ((Try.prog.info? 23).map (·.size) = some (bs key).length) := by rw [bs_length, hk]; exact Try.sizeK
  have i2 : Hid ((Try.prog.info? 26).map (·.size) = some (bs nonce).length) := by rw [bs_length, hn]; exact Try.sizeN
  clear hio hzo hk hn
  have X2 := Lib.hid (RB.start w key nonce)
  go_enter Try.func10, Try.ntmps10
  go_wp2_with (first
    | ((with_reducible refine lst_alloc_d 6 rfl 27 rfl io _ Hio.out Hzo.out ?_ ?_)
       (focus rfl)
       intro g6 w1 Hg6 Hh6 hb1
       have X1 : Hid (RB w w1 key nonce) := X2.out.frm (Fr.of_below (M := NoB) hb1) (fun j e => e.elim)
       have Hg6' : Hid (w.heap.size ≤ g6 ∧ g6 < w1.heap.size) := by
         have := Hg6.out; have := X2.out.sz
         show _ ∧ _
         omega
       have O1 : Hid (w1.heap[g6]? = some (.cells (bs (List.replicate 64 0)).toArray 27 (0, 0))) := Hh6
       have r1 : Hid (w1.rangeAt w.heap.size 0 (bs key)) := range_block X1.out.k
       have r2 : Hid (w1.rangeAt (w.heap.size + 1) 0 (bs nonce)) := range_block X1.out.n
       clear hb1 Hg6 Hh6)
    | ((with_reducible refine lst_load_mid 23 (.tmp 3) rfl w.heap.size 0 rfl (bs key) _ r1.out u1.out rfl i1.out ?_ ?_)
       (focus rfl))
    | ((with_reducible refine lst_load_mid 26 (.tmp 5) rfl (w.heap.size + 1) 0 rfl (bs nonce) _ r2.out u2.out rfl i2.out ?_ ?_)
       (focus rfl)))
  refine (Square_any w1 key nonce ctr Hk.out Hn.out).mono ?_
  rintro e w3 ⟨gf, cf, rfl, hgf, hgfl, hf3, hb3⟩
  obtain ⟨B, hB⟩ : ∃ B, B = beginP key ctr nonce := ⟨_, rfl⟩
  rw [← hB] at hf3
  have HB := Lib.hid hB
  have X3 : Hid (RB w w3 key nonce) := X1.out.frm (Fr.of_below (M := NoB) hb3) (fun j e => e.elim)
  have O3 : Hid (w3.heap[g6]? = some (.cells (bs (List.replicate 64 0)).toArray 27 (0, 0))) := (hb3.block _ Hg6'.out.2).trans O1.out
  have r3 : Hid (w3.rangeAt w.heap.size 0 (bs key)) := range_block X3.out.k
  have r4 : Hid (w3.rangeAt (w.heap.size + 1) 0 (bs nonce)) := range_block X3.out.n
  have F3 := Lib.hid hf3
  have G3 : Hid (w.heap.size ≤ g6 ∧ g6 < gf ∧ gf < w3.heap.size) := by have := Hg6'.out; show _ ∧ _ ∧ _; omega
  clear hB hf3 hb3 hgf hgfl O1 r1 r2 X1 Hg6' X2
  go_wp2_with (first
    | ((with_reducible refine lst_load_mid 23 (.tmp 3) rfl w.heap.size 0 rfl (bs key) _ r3.out u1.out rfl i1.out ?_ ?_)
       (focus rfl))
    | ((with_reducible refine lst_load_mid 26 (.tmp 5) rfl (w.heap.size + 1) 0 rfl (bs nonce) _ r4.out u2.out rfl i2.out ?_ ?_)
       (focus rfl)))
  refine (Square_any w3 key nonce ctr Hk.out Hn.out).mono ?_
  rintro e w4 ⟨gl, cl, rfl, hgl, hgll, hf4, hb4⟩
  rw [← HB.out] at hf4
  have O4 : Hid (w4.heap[g6]? = some (.cells (bs (List.replicate 64 0)).toArray 27 (0, 0))) := (hb4.block _ (by have := G3.out; omega)).trans O3.out
  have F4 : Hid (SqB w4 24 gf 16 cf B) := F3.out.fr (Fr.of_below (M := NoB) hb4) id (by decide)
  have L4 := Lib.hid hf4
  have B4 : Hid (Below w.heap.size w w4) := X3.out.fr.trans (hb4.mono X3.out.fr.size)
  have G4 : Hid (gf < gl ∧ gl < w4.heap.size) := by have := G3.out; show _ ∧ _; omega
  clear hf4 hb4 hgl hgll O3 F3 r3 r4 X3 u1 u2 i1 i2
  go_wp2_with fail
  refine (Places_any w4).mono ?_
  rintro e w5 ⟨gp, rfl, hp5, hb5⟩
  have hz5 := hb5.size
  have I5 : Hid (QInv w w5 g6 gf cf gl cl gp B (turns B 0)) := by
    have g3 := G3.out; have g4 := G4.out
    refine ⟨(hb5.block _ (by omega)).trans O4.out, F4.out.fr (Fr.of_below (M := NoB) hb5) id (by decide), L4.out.fr (Fr.of_below (M := NoB) hb5) id (by decide), ?_, ⟨g3.1, g3.2.1, g4.1⟩, by omega, B4.out.trans (hb5.mono B4.out.size)⟩
    exact ⟨by have := hp5.lo; omega, hp5.hi, fun i hi => by
      obtain ⟨gi, q1, q2⟩ := hp5.row i hi
      exact ⟨gi, by omega, q2⟩⟩
  clear O4 F4 L4 B4 G3 G4 hp5 hb5 hz5
  go_wp2_with fail
  go_loopw [10] (fun v wr => ∃ n : Nat, n ≤ 10 ∧ v = .int .i64 (n : Nat) ∧ Hid (QInv w wr g6 gf cf gl cl gp B (turns B (8 * n)))) (fun v _ => 10 - (intOf v).toNat)
  case atStart => exact ⟨0, Nat.zero_le _, rfl, I5.out⟩
  case round =>
    obtain ⟨n, hn, rfl, I⟩ := hrel
    by_cases hlt : n < 10
    · have hnI : (n : Int) < 10 := by omega
      go_wp2_with fail
      go_loopw [11] (fun v wr => ∃ i : Nat, i ≤ 8 ∧ v = .int .i64 (i : Nat) ∧ Hid (QInv w wr g6 gf cf gl cl gp B (turns B (8 * n + i)))) (fun v _ => 8 - (intOf v).toNat)
      case atStart => exact ⟨0, Nat.zero_le _, rfl, I.out⟩
      case round =>
        obtain ⟨i, hi, rfl, I⟩ := hrel
        by_cases hlt2 : i < 8
        · have hiI : (i : Int) < 8 := by omega
          have hi0 : (0 : Int) ≤ (i : Int) := by omega
          have Id : Hid (QInv w wr.drew g6 gf cf gl cl gp B (turns B (8 * n + i))) :=
            ⟨I.out.o, I.out.f, I.out.l, I.out.p.below ((Fr.refl NoB wr).drew) (fun _ _ _ => id), I.out.ord, I.out.lt, ⟨I.out.fr.os, I.out.fr.tape, I.out.fr.output, I.out.fr.size, I.out.fr.block⟩⟩
          obtain ⟨gi, q1, q2, c, c0, c1, c2, c3⟩ := Id.out.p.row i hlt2
          have Q := Lib.hid (And.intro q1 q2)
          have hpl := pl_period n i
          have hpb := pl_lt i
          have Hpl := Lib.hid hpl; have Hpb := Lib.hid hpb
          have Hc := Lib.hid c; have H0 := Lib.hid c0; have H1 := Lib.hid c1; have H2 := Lib.hid c2; have H3 := Lib.hid c3
          clear q1 q2 c c0 c1 c2 c3 hpl hpb I
          go_wp2_with fail
          refine wp_calm ?_
          refine wp_region_os (fun j w' => match j with
            | 4 => w'.cell? ⟨gp, i, none⟩ = some (.slice (some ⟨gi, 0, none⟩) 4 4)
            | 6 => w'.cell? ⟨gi, 0, none⟩ = some (.int .i64 (plA i : Nat))
            | 10 => w'.cell? ⟨gp, i, none⟩ = some (.slice (some ⟨gi, 0, none⟩) 4 4)
            | 12 => w'.cell? ⟨gi, 1, none⟩ = some (.int .i64 (plB i : Nat))
            | 16 => w'.cell? ⟨gp, i, none⟩ = some (.slice (some ⟨gi, 0, none⟩) 4 4)
            | 18 => w'.cell? ⟨gi, 2, none⟩ = some (.int .i64 (plC i : Nat))
            | 22 => w'.cell? ⟨gp, i, none⟩ = some (.slice (some ⟨gi, 0, none⟩) 4 4)
            | 24 => w'.cell? ⟨gi, 3, none⟩ = some (.int .i64 (plD i : Nat))
            | _ => True) [4, 6, 10, 12, 16, 18, 22, 24]
            (.move 0 (.move 1 (.move 2 (.move 3 (.take 4 (.move 5 (.take 6 (.move 7 (.move 8 (.move 9 (.take 10 (.move 11 (.take 12 (.move 13 (.move 14 (.move 15 (.take 16 (.move 17 (.take 18 (.move 19 (.move 20 (.move 21 (.take 22 (.move 23 (.take 24 (.run 25 [4, 6, 10, 12, 16, 18, 22, 24] .done)))))))))))))))))))))))))) (by kernel_rfl) (by kernel_rfl) (fun _ _ _ _ _ h => nomatch h.1) ?_
          iterate 4 (
            refine os_move rfl rfl rfl (Nat.le_of_ble_eq_true rfl) ?_
            apply Exists.intro
            refine ⟨fun w' K hK => ?_, ?_⟩
            (focus
              go_simp
              exact hK))
          refine os_yld Hc.out rfl rfl rfl (Nat.le_of_ble_eq_true rfl) ?_
          apply Exists.intro
          refine ⟨fun w' hS' K hK => ?_, ?_⟩
          (focus
            have hS2 : (fun w' => w'.cell? ⟨gp, i, none⟩ = some (.slice (some ⟨gi, 0, none⟩) 4 4)) w' := hS'
            clear hS'
            try dsimp only at hS2
            go_simp
            exact hK)
          refine os_move rfl rfl rfl (Nat.le_of_ble_eq_true rfl) ?_
          apply Exists.intro
          refine ⟨fun w' K hK => ?_, ?_⟩
          (focus
            go_simp
            exact hK)
          refine os_yld H0.out rfl rfl rfl (Nat.le_of_ble_eq_true rfl) ?_
          apply Exists.intro
          refine ⟨fun w' hS' K hK => ?_, ?_⟩
          (focus
            have hS2 : (fun w' => w'.cell? ⟨gi, 0, none⟩ = some (.int .i64 (plA i : Nat))) w' := hS'
            clear hS'
            try dsimp only at hS2
            go_simp
            exact hK)
          iterate 3 (
            refine os_move rfl rfl rfl (Nat.le_of_ble_eq_true rfl) ?_
            apply Exists.intro
            refine ⟨fun w' K hK => ?_, ?_⟩
            (focus
              go_simp
              exact hK))
          refine os_yld Hc.out rfl rfl rfl (Nat.le_of_ble_eq_true rfl) ?_
          apply Exists.intro
          refine ⟨fun w' hS' K hK => ?_, ?_⟩
          (focus
            have hS2 : (fun w' => w'.cell? ⟨gp, i, none⟩ = some (.slice (some ⟨gi, 0, none⟩) 4 4)) w' := hS'
            clear hS'
            try dsimp only at hS2
            go_simp
            exact hK)
          refine os_move rfl rfl rfl (Nat.le_of_ble_eq_true rfl) ?_
          apply Exists.intro
          refine ⟨fun w' K hK => ?_, ?_⟩
          (focus
            go_simp
            exact hK)
          refine os_yld H1.out rfl rfl rfl (Nat.le_of_ble_eq_true rfl) ?_
          apply Exists.intro
          refine ⟨fun w' hS' K hK => ?_, ?_⟩
          (focus
            have hS2 : (fun w' => w'.cell? ⟨gi, 1, none⟩ = some (.int .i64 (plB i : Nat))) w' := hS'
            clear hS'
            try dsimp only at hS2
            go_simp
            exact hK)
          iterate 3 (
            refine os_move rfl rfl rfl (Nat.le_of_ble_eq_true rfl) ?_
            apply Exists.intro
            refine ⟨fun w' K hK => ?_, ?_⟩
            (focus
              go_simp
              exact hK))
          refine os_yld Hc.out rfl rfl rfl (Nat.le_of_ble_eq_true rfl) ?_
          apply Exists.intro
          refine ⟨fun w' hS' K hK => ?_, ?_⟩
          (focus
            have hS2 : (fun w' => w'.cell? ⟨gp, i, none⟩ = some (.slice (some ⟨gi, 0, none⟩) 4 4)) w' := hS'
            clear hS'
            try dsimp only at hS2
            go_simp
            exact hK)
          refine os_move rfl rfl rfl (Nat.le_of_ble_eq_true rfl) ?_
          apply Exists.intro
          refine ⟨fun w' K hK => ?_, ?_⟩
          (focus
            go_simp
            exact hK)
          refine os_yld H2.out rfl rfl rfl (Nat.le_of_ble_eq_true rfl) ?_
          apply Exists.intro
          refine ⟨fun w' hS' K hK => ?_, ?_⟩
          (focus
            have hS2 : (fun w' => w'.cell? ⟨gi, 2, none⟩ = some (.int .i64 (plC i : Nat))) w' := hS'
            clear hS'
            try dsimp only at hS2
            go_simp
            exact hK)
          iterate 3 (
            refine os_move rfl rfl rfl (Nat.le_of_ble_eq_true rfl) ?_
            apply Exists.intro
            refine ⟨fun w' K hK => ?_, ?_⟩
            (focus
              go_simp
              exact hK))
          refine os_yld Hc.out rfl rfl rfl (Nat.le_of_ble_eq_true rfl) ?_
          apply Exists.intro
          refine ⟨fun w' hS' K hK => ?_, ?_⟩
          (focus
            have hS2 : (fun w' => w'.cell? ⟨gp, i, none⟩ = some (.slice (some ⟨gi, 0, none⟩) 4 4)) w' := hS'
            clear hS'
            try dsimp only at hS2
            go_simp
            exact hK)
          refine os_move rfl rfl rfl (Nat.le_of_ble_eq_true rfl) ?_
          apply Exists.intro
          refine ⟨fun w' K hK => ?_, ?_⟩
          (focus
            go_simp
            exact hK)
          refine os_yld H3.out rfl rfl rfl (Nat.le_of_ble_eq_true rfl) ?_
          apply Exists.intro
          refine ⟨fun w' hS' K hK => ?_, ?_⟩
          (focus
            have hS2 : (fun w' => w'.cell? ⟨gi, 3, none⟩ = some (.int .i64 (plD i : Nat))) w' := hS'
            clear hS'
            try dsimp only at hS2
            go_simp
            exact hK)
          refine os_run rfl rfl (fun K hK => ?_)
          go_wp2_with fail
          refine (Quarter_any wr.drew gl cl (turns B (8 * n + i)) Id.out.l (plA i) (plB i) (plC i) (plD i) Hpb.out.1 Hpb.out.2.1 Hpb.out.2.2.1 Hpb.out.2.2.2).mono ?_
          rintro e w7 ⟨rfl, h7, f7⟩
          have I7 : Hid (QInv w w7 g6 gf cf gl cl gp B (turns B (8 * n + (i + 1)))) := by
            have h := Id.out.step h7 f7
            have e : quarterP (turns B (8 * n + i)) (plA i) (plB i) (plC i) (plD i) = turns B (8 * n + (i + 1)) := by
              show _ = quarterP (turns B (8 * n + i)) (plA (8 * n + i)) (plB (8 * n + i)) (plC (8 * n + i)) (plD (8 * n + i))
              rw [Hpl.out.1, Hpl.out.2.1, Hpl.out.2.2.1, Hpl.out.2.2.2]
            rw [e] at h; exact h
          have hlo := Id.out.p.lo
          have hq1 := Q.out.1
          have N1 : ¬ (gp = gl) := by omega
          have N2 : ¬ (gi = gl) := by omega
          have hkeep : Hid (∀ k ∈ [4, 6, 10, 12, 16, 18, 22, 24], (match k with
            | 4 => wr.drew.cell? ⟨gp, i, none⟩ = some (.slice (some ⟨gi, 0, none⟩) 4 4)
            | 6 => wr.drew.cell? ⟨gi, 0, none⟩ = some (.int .i64 (plA i : Nat))
            | 10 => wr.drew.cell? ⟨gp, i, none⟩ = some (.slice (some ⟨gi, 0, none⟩) 4 4)
            | 12 => wr.drew.cell? ⟨gi, 1, none⟩ = some (.int .i64 (plB i : Nat))
            | 16 => wr.drew.cell? ⟨gp, i, none⟩ = some (.slice (some ⟨gi, 0, none⟩) 4 4)
            | 18 => wr.drew.cell? ⟨gi, 2, none⟩ = some (.int .i64 (plC i : Nat))
            | 22 => wr.drew.cell? ⟨gp, i, none⟩ = some (.slice (some ⟨gi, 0, none⟩) 4 4)
            | 24 => wr.drew.cell? ⟨gi, 3, none⟩ = some (.int .i64 (plD i : Nat))
            | _ => True) → (match k with
            | 4 => w7.cell? ⟨gp, i, none⟩ = some (.slice (some ⟨gi, 0, none⟩) 4 4)
            | 6 => w7.cell? ⟨gi, 0, none⟩ = some (.int .i64 (plA i : Nat))
            | 10 => w7.cell? ⟨gp, i, none⟩ = some (.slice (some ⟨gi, 0, none⟩) 4 4)
            | 12 => w7.cell? ⟨gi, 1, none⟩ = some (.int .i64 (plB i : Nat))
            | 16 => w7.cell? ⟨gp, i, none⟩ = some (.slice (some ⟨gi, 0, none⟩) 4 4)
            | 18 => w7.cell? ⟨gi, 2, none⟩ = some (.int .i64 (plC i : Nat))
            | 22 => w7.cell? ⟨gp, i, none⟩ = some (.slice (some ⟨gi, 0, none⟩) 4 4)
            | 24 => w7.cell? ⟨gi, 3, none⟩ = some (.int .i64 (plD i : Nat))
            | _ => True)) := by
            intro k hk h
            simp only [List.mem_cons, List.not_mem_nil, or_false] at hk
            rcases hk with rfl | rfl | rfl | rfl | rfl | rfl | rfl | rfl
            · exact cell_fr h f7 N1
            · exact cell_fr h f7 N2
            · exact cell_fr h f7 N1
            · exact cell_fr h f7 N2
            · exact cell_fr h f7 N1
            · exact cell_fr h f7 N2
            · exact cell_fr h f7 N1
            · exact cell_fr h f7 N2
          clear h7 f7 Id Q Hpl Hpb Hc H0 H1 H2 H3 hlo hq1 N1 N2
          go_wp2_with fail
          refine ⟨hkeep.out, ?_⟩
          clear hkeep
          refine os_done ⟨rfl, ?_⟩
          go_wp2_with fail
          go_roundw
          case rel => exact ⟨i + 1, by omega, by go_num, I7.out⟩
          case measure => simp [intOf]; omega
        · have hiI : decide ((i : Int) < 8) = false := decide_eq_false (by omega)
          have hi8 : i = 8 := by omega
          rw [hi8] at I
          clear hi8 hlt2 hi
          go_wp2_with fail
          go_roundw
          case rel => exact ⟨n + 1, by omega, by go_num, I.out⟩
          case measure => simp [intOf]; omega
    · have hnI : decide ((n : Int) < 10) = false := decide_eq_false (by omega)
      have hn10 : n = 10 := by omega
      rw [hn10] at I
      clear hn10 hlt hn I5
      go_wp2_with (first
        | ((with_reducible refine lst_alloc_d 12 rfl 27 rfl io _ Hio.out Hzo.out ?_ ?_)
           (focus rfl)
           intro g9 w8 Hg9 Hh9 hb8
           have Hb8 := Lib.hid hb8
           clear hb8))
      clear hnI
      obtain ⟨S, hS⟩ : ∃ S, S = turns B 80 := ⟨_, rfl⟩
      obtain ⟨L, hL⟩ : ∃ L, L = outP S B := ⟨_, rfl⟩
      have I8 : Hid (WInv w w8 g6 gf cf gl cl g9 B S L 0) := by
        have e1 := Hg9.out; have ho := I.out.ord; have hl := I.out.lt
        have hIl := I.out.l
        rw [show turns B (8 * 10) = S from hS.symm] at hIl
        exact ⟨(Hb8.out.block _ (by omega)).trans I.out.o, I.out.f.fr (Fr.of_below (M := NoB) Hb8.out) id (by decide), hIl.fr (Fr.of_below (M := NoB) Hb8.out) id (by decide), ByB.of_block Hh9.out rfl rfl (by decide), ⟨ho.1, ho.2.1, ho.2.2, by omega⟩, by omega, I.out.fr.trans (Hb8.out.mono I.out.fr.size)⟩
      have HS := Lib.hid hS; have HL := Lib.hid hL
      have HLL : Hid (L.length = 64) := by rw [hL]; exact outP_len _ _
      clear hS hL I Hg9 Hh9 Hb8 Hio Hzo
      go_loopw [13] (fun v wr => ∃ i : Nat, i ≤ 64 ∧ v = .int .i64 (i : Nat) ∧ Hid (WInv w wr g6 gf cf gl cl g9 B S L i)) (fun v _ => 64 - (intOf v).toNat)
      case atStart => exact ⟨0, Nat.zero_le _, rfl, I8.out⟩
      case round =>
        clear I8
        obtain ⟨i, hi, rfl, I⟩ := hrel
        by_cases hlt : i < 64
        · have hiI : (i : Int) < 64 := by omega
          have hi0 : (0 : Int) ≤ (i : Int) := by omega
          obtain ⟨q, hq⟩ : ∃ q, q = i / 4 := ⟨_, rfl⟩
          obtain ⟨r, hr⟩ : ∃ r, r = i % 4 := ⟨_, rfl⟩
          have hq16 : q < 16 := by omega
          have hqI : (i : Int) / 4 = (q : Int) := by omega
          have hrI : (i : Int) % 4 = (r : Int) := by omega
          have hqt : (i : Int).tdiv 4 = (q : Int) := by rw [Int.tdiv_eq_ediv_of_nonneg hi0]; exact hqI
          have hqw : IntKind.i64.wrap (q : Int) = (q : Int) := wrap64_id _ (by omega) (by omega)
          have hql : (q : Int) < 16 := by omega
          have hq0 : (0 : Int) ≤ (q : Int) := by omega
          have hr4 : (r : Int) < 4 := by omega
          have hr0 : (0 : Int) ≤ (r : Int) := by omega
          have cl1 := I.out.l.cell (i := q) hq16
          have cf1 := I.out.f.cell (i := q) hq16
          have hsum : IntKind.u32.wrap (wv (gw S q) + wv (gw B q)) = wv (gw S q + gw B q) := by rw [wrap_u32]; exact add32 _ _
          have Hir : Hid (i = 4 * q + r ∧ q < 16 ∧ r < 4) := by show _ ∧ _ ∧ _; omega
          clear hq hr
          go_wp2_with fail
          go_quiet (fail)
          go_wp2_with fail
          obtain ⟨X, hX⟩ : ∃ X, X = gw S q + gw B q := ⟨_, rfl⟩
          rw [← hX]
          have HX := Lib.hid hX
          have Iq := Lib.hid (I.out.drewN nq)
          clear hX hsum cl1 cf1 hqw hqt hqI hql hq0 hq16 I
          go_loopw [14, 15] (fun xv v w2 => ∃ (k x : Nat), k ≤ r ∧ v = .int .i64 (k : Nat) ∧ xv = .int .u32 (x : Int) ∧ Hid (x = X.toNat / 2 ^ (8 * k)) ∧ Hid (WInv w w2 g6 gf cf gl cl g9 B S L i)) (fun _ v _ => r - (intOf v).toNat)
          case atStart => exact ⟨0, X.toNat, Nat.zero_le _, rfl, rfl, (by show _ = _; simp), Iq.out⟩
          case round =>
            clear Iq
            obtain ⟨k, x, hk, rfl, rfl, Hx, I⟩ := hrel
            have hx0 : (0 : Int) ≤ (x : Int) := by omega
            have hx1 : (x : Int) < 4294967296 := by
              have h1 : X.toNat < 4294967296 := X.isLt
              have h2 : X.toNat / 2 ^ (8 * k) ≤ X.toNat := Nat.div_le_self _ _
              have := Hx.out; omega
            by_cases hlt2 : k < r
            · have hkI : (k : Int) < (r : Int) := by omega
              have hk0 : (0 : Int) ≤ (k : Int) := by omega
              have Hxn : Hid (x / 256 = X.toNat / 2 ^ (8 * (k + 1))) := by
                show _ = _
                rw [Hx.out, Nat.div_div_eq_div_mul, show (256 : Nat) = 2 ^ 8 from rfl, ← Nat.pow_add]
                congr 2
              go_wp2_with fail
              go_roundw
              case rel => exact ⟨k + 1, x / 256, by omega, by go_num, rfl, Hxn.out, I.out⟩
              case measure => simp [intOf]; omega
            · have hkI : decide ((k : Int) < (r : Int)) = false := decide_eq_false (by omega)
              have hkr : k = r := by omega
              have hiL : i < L.length := by rw [HLL.out]; exact hlt
              obtain ⟨y, hy⟩ : ∃ y, y = L[i] := ⟨_, rfl⟩
              have hye : y = byteOf X r := by
                have h := outP_get S B q r Hir.out.2.1 Hir.out.2.2 (by rw [outP_len]; have := Hir.out; omega)
                rw [HX.out, ← h, hy]
                have e : L[i]? = (outP S B)[4 * q + r]? := by rw [HL.out, Hir.out.1]
                rw [List.getElem?_eq_getElem hiL, List.getElem?_eq_getElem (by rw [outP_len]; have := Hir.out; omega)] at e
                exact Option.some.inj e
              have hxm : (x : Int) % 256 = (y.toNat : Int) := by
                have e2 : (byteOf X r).toNat = X.toNat / 2 ^ (8 * r) % 256 := UInt8.toNat_ofNat'
                rw [hye, e2]
                have := Hx.out
                rw [hkr] at this
                rw [← this]; omega
              have hc := I.out.out.cell (i := i) (by rw [partB_len L HLL.out _ (by omega)]; omega)
              have hz := World.ownsRow.frozenAt I.out.out i
              have Hy := Lib.hid hy
              clear hkr hye hy
              go_wp2_with fail
              have hs := Lib.hid (I.out.step HLL.out hlt (.int .u8 (y.toNat : Int)) (by rw [Hy.out]; rfl))
              go_roundw
              case rel => exact ⟨i + 1, by omega, by go_num, hs.out⟩
              case measure => simp [intOf]; omega
        · have hiI : decide ((i : Int) < 64) = false := decide_eq_false (by omega)
          have hi64 : i = 64 := by omega
          rw [hi64] at I
          clear hi64 hlt hi
          have hout : Hid (wr.rangeAt g9 0 (bs L)) := by
            have e : partB L 64 = L := by unfold partB; rw [List.take_of_length_le (by rw [HLL.out]; decide)]; simp
            have h := I.out.out
            rw [e] at h
            exact h.range
          have uO := Lib.hid Try.underlying27
          have iO : Hid ((Try.prog.info? 27).map (·.size) = some (bs L).length) := by rw [bs_length, HLL.out]; exact Try.sizeO
          go_wp2_with (first
            | ((with_reducible refine lst_load_mid 27 (.tmp 12) rfl g9 0 rfl (bs L) _ hout.out uO.out rfl iO.out ?_ ?_)
               (focus rfl))
            | ((with_reducible refine lst_store_abs 27 (.tmp 6) (.tmp 89) rfl g6 27 (bs (List.replicate 64 0)).toArray (bs L).toArray rfl rfl I.out.o (by simpa using iO.out) (by simp [bs_length, HLL.out]) (by simp; exact bs_oneCell _) ?_ ?_)
               (focus rfl)
               intro w10 Hh10 hg10))
          refine bodyPost_ret (v := .agg (bs L).toArray) ?_ rfl ⟨by rw [HL.out, HS.out, HB.out]; rfl, ?_⟩
          · exact results_cell Try.results10 rfl (run_loadVar_mid w10 g6 0 27 (bs L) _ (range_block Hh10.out) uO.out rfl iO.out)
          · exact I.out.fr.grown hg10 I.out.fr.size (fun j hj => by injection hj with hj; have := I.out.ord; omega)
end Go.Proofs.Ytobbcnajmocpfaa
