/- The square that a block begins with. -/
import Derived.Test.YtklclbppdoahjaaCh3
namespace Go.Proofs.Ytklclbppdoahjaa
set_option maxRecDepth 100000
open Go.RowKit
attribute [local go_sem] yld yldUpon_value

def sigma : List UInt8 := [101, 120, 112, 97, 110, 100, 32, 51, 50, 45, 98, 121, 116, 101, 32, 107]
def beginP (key : List UInt8) (ctr : BitVec 32) (nonce : List UInt8) : List (BitVec 32) :=
  [leAt sigma 0, leAt sigma 4, leAt sigma 8, leAt sigma 12,
   leAt key 0, leAt key 4, leAt key 8, leAt key 12, leAt key 16, leAt key 20, leAt key 24, leAt key 28,
   ctr, leAt nonce 0, leAt nonce 4, leAt nonce 8]
/-- its first j words -/
def partP (B : List (BitVec 32)) (j : Nat) : List (BitVec 32) := B.take j ++ List.replicate (16 - j) 0
theorem partP_set (B : List (BitVec 32)) (hB : B.length = 16) (j : Nat) (hj : j < 16) (x : BitVec 32) (hx : gw B j = x) : (partP B j).set j x = partP B (j + 1) := by
  subst hx
  rw [gw_eq (by omega)]
  unfold partP
  rw [List.set_append_right _ _ (by simp; omega)]
  rw [show j - (B.take j).length = 0 by simp; omega]
  rw [show 16 - j = (16 - (j + 1)) + 1 by omega, List.replicate_succ, List.set_cons_zero]
  rw [List.take_succ_eq_append_getElem (i := j) (by omega)]
  rw [List.append_assoc]
  simp [show 16 - (j + 1) = 15 - j by omega]
theorem Try.infoSq : (Try.prog.info? 91).map (fun i => (i.zero, i.size)) = some (some (.agg (wl (List.replicate 16 0)).toArray), 16) := by kernel_rfl

/-- what begins holds -/
structure BInv (w w' : World) (gk gn gr gs : Nat) (key nonce : List UInt8) (s : List (BitVec 32)) : Prop where
  old : w.heap.size ≤ gk ∧ w.heap.size ≤ gr ∧ w.heap.size ≤ gs
  ne : gs ≠ gk ∧ gs ≠ gn ∧ gs ≠ gr
  lt : gk < w'.heap.size ∧ gn < w'.heap.size ∧ gr < w'.heap.size ∧ gs < w'.heap.size
  k : Sl w' (fun k => k = gk) (some ⟨gk, 0, none⟩) 32 32 key
  n : Sl w' (fun k => k = gn) (some ⟨gn, 0, none⟩) 12 12 nonce
  r : w'.heap[gr]? = some (.cells (wl (List.replicate 16 0)).toArray 91 (0, 0))
  s : SqB w' 91 gs 16 16 s
  fr : Below w.heap.size w w'
theorem BInv.below {w w' w2 : World} {gk gn gr gs : Nat} {key nonce : List UInt8} {s : List (BitVec 32)} (h : BInv w w' gk gn gr gs key nonce s) (hb : Below w'.heap.size w' w2) : BInv w w2 gk gn gr gs key nonce s := by
  have hz := hb.size
  have hl := h.lt
  have hw := h.fr.size
  have hb2 := h.fr.trans (hb.mono hw)
  exact ⟨h.old, h.ne, by omega, h.k.fr (Fr.of_below (M := NoB) hb) (fun k hk => ⟨by omega, id⟩), h.n.fr (Fr.of_below (M := NoB) hb) (fun k hk => ⟨by omega, id⟩),
    by rw [hb.block _ (by omega)]; exact h.r, h.s.fr (Fr.of_below (M := NoB) hb) id (by decide), hb2⟩
theorem BInv.step {w w' : World} {gk gn gr gs : Nat} {key nonce : List UInt8} {s : List (BitVec 32)} (h : BInv w w' gk gn gr gs key nonce s) (j : Nat) (x : BitVec 32) : BInv w (w'.setCell ⟨gs, j, none⟩ (.int .u32 (wv x))) gk gn gr gs key nonce (s.set j x) := by
  have hf : Fr (fun k => k = gs) w' (w'.setCell ⟨gs, j, none⟩ (.int .u32 (wv x))) := (Fr.refl (fun k => k = gs) w').setCell (p := ⟨gs, j, none⟩) (.inl rfl) _
  have hz := hf.size
  have hl := h.lt
  have ho := h.old
  have hne := h.ne
  refine ⟨h.old, h.ne, by omega, h.k.fr hf (fun k hk => ⟨by omega, by omega⟩), h.n.fr hf (fun k hk => ⟨by omega, by omega⟩),
    by rw [hf.block _ (by omega) (by omega)]; exact h.r, h.s.set j x, ?_⟩
  have hfw : Fr (fun k => k = gs) w (w'.setCell ⟨gs, j, none⟩ (.int .u32 (wv x))) := (Fr.of_below h.fr).trans hf (fun i _ h => h)
  exact hfw.to_below (fun i hi => by omega)
theorem BInv.start (w : World) (key nonce : List UInt8) (hk : key.length = 32) (hn : nonce.length = 12) (B : List (BitVec 32)) (hB : partP B 0 = List.replicate 16 0) :
    BInv w (((w.alloc (.cells (bs key).toArray 23)).alloc (.cells (bs nonce).toArray 25)).alloc (.cells (wl (List.replicate 16 0)).toArray 91) |>.alloc (.cells (wl (List.replicate 16 0)).toArray 91))
      w.heap.size (w.heap.size + 1) (w.heap.size + 1 + 1) (w.heap.size + 1 + 1 + 1) key nonce (partP B 0) := by
  rw [hB]
  have a1 := heap_alloc_new w (.cells (bs key).toArray 23)
  generalize hw1 : w.alloc (.cells (bs key).toArray 23) = w1 at a1 ⊢
  have z1 : w1.heap.size = w.heap.size + 1 := by subst hw1; simp
  have b1 : Below w.heap.size w w1 := by subst hw1; exact (Below.refl _ _).alloc (Nat.le_refl _) _
  have a2 := heap_alloc_new w1 (.cells (bs nonce).toArray 25)
  generalize hw2 : w1.alloc (.cells (bs nonce).toArray 25) = w2 at a2 ⊢
  have z2 : w2.heap.size = w1.heap.size + 1 := by subst hw2; simp
  have b2 : Below w1.heap.size w1 w2 := by subst hw2; exact (Below.refl _ _).alloc (Nat.le_refl _) _
  have a3 := heap_alloc_new w2 (.cells (wl (List.replicate 16 0)).toArray 91)
  generalize hw3 : w2.alloc (.cells (wl (List.replicate 16 0)).toArray 91) = w3 at a3 ⊢
  have z3 : w3.heap.size = w2.heap.size + 1 := by subst hw3; simp
  have b3 : Below w2.heap.size w2 w3 := by subst hw3; exact (Below.refl _ _).alloc (Nat.le_refl _) _
  have a4 := heap_alloc_new w3 (.cells (wl (List.replicate 16 0)).toArray 91)
  generalize hw4 : w3.alloc (.cells (wl (List.replicate 16 0)).toArray 91) = w4 at a4 ⊢
  have z4 : w4.heap.size = w3.heap.size + 1 := by subst hw4; simp
  have b4 : Below w3.heap.size w3 w4 := by subst hw4; exact (Below.refl _ _).alloc (Nat.le_refl _) _
  have b24 : Below w2.heap.size w2 w4 := b3.trans (b4.mono (by omega))
  have b14 : Below w1.heap.size w1 w4 := b2.trans (b24.mono (by omega))
  have e2 : w.heap.size + 1 + 1 = w2.heap.size := by omega
  have e3 : w.heap.size + 1 + 1 + 1 = w3.heap.size := by omega
  have e1 : w.heap.size + 1 = w1.heap.size := by omega
  rw [e1] at e2 e3 ⊢
  rw [e2] at e3 ⊢
  rw [e3]
  exact ⟨by omega, by omega, by omega,
    (Sl.of_block a1 rfl 32 hk).fr (Fr.of_below (M := NoB) b14) (fun k hk => ⟨by omega, id⟩),
    (Sl.of_block a2 rfl 12 hn).fr (Fr.of_below (M := NoB) b24) (fun k hk => ⟨by omega, id⟩),
    by rw [b4.block _ (by omega)]; exact a3,
    ⟨rfl, .inr ⟨_, 16, _, rfl, Nat.le_refl _, a4, Nat.le_refl _, by decide, rfl, rfl⟩⟩,
    b1.trans (b14.mono (by omega))⟩

set_option maxRecDepth 100000 in
set_option maxHeartbeats 4000000 in
theorem begins_any (w : World) (key nonce : List UInt8) (ctr : BitVec 32) (hk : key.length = 32) (hn : nonce.length = 12) :
    Calls Try.prog 56 #[.agg (bs key).toArray, .int .u32 (wv ctr), .agg (bs nonce).toArray] w fun e w' => e = .returned (.agg (wl (beginP key ctr nonce)).toArray) ∧ Below w.heap.size w w' := by
  have Hk := Lib.hid hk; have Hn := Lib.hid hn
  clear hk hn
  go_enter Try.func56, Try.ntmps56
  go_wp2_with fail
  have hf : Hid (BInv w ((((w.alloc (.cells (bs key).toArray 23)).alloc (.cells (bs nonce).toArray 25)).alloc (.cells #[.int .u32 0, .int .u32 0, .int .u32 0, .int .u32 0, .int .u32 0, .int .u32 0, .int .u32 0, .int .u32 0, .int .u32 0, .int .u32 0, .int .u32 0, .int .u32 0, .int .u32 0, .int .u32 0, .int .u32 0, .int .u32 0] 91)).alloc (.cells #[.int .u32 0, .int .u32 0, .int .u32 0, .int .u32 0, .int .u32 0, .int .u32 0, .int .u32 0, .int .u32 0, .int .u32 0, .int .u32 0, .int .u32 0, .int .u32 0, .int .u32 0, .int .u32 0, .int .u32 0, .int .u32 0] 91))
      w.heap.size (w.heap.size + 1) (w.heap.size + 1 + 1) (w.heap.size + 1 + 1 + 1) key nonce (partP (beginP key ctr nonce) 0)) := BInv.start w key nonce Hk.out Hn.out _ rfl
  generalize (((w.alloc (.cells (bs key).toArray 23)).alloc (.cells (bs nonce).toArray 25)).alloc (.cells #[.int .u32 0, .int .u32 0, .int .u32 0, .int .u32 0, .int .u32 0, .int .u32 0, .int .u32 0, .int .u32 0, .int .u32 0, .int .u32 0, .int .u32 0, .int .u32 0, .int .u32 0, .int .u32 0, .int .u32 0, .int .u32 0] 91)).alloc (.cells #[.int .u32 0, .int .u32 0, .int .u32 0, .int .u32 0, .int .u32 0, .int .u32 0, .int .u32 0, .int .u32 0, .int .u32 0, .int .u32 0, .int .u32 0, .int .u32 0, .int .u32 0, .int .u32 0, .int .u32 0, .int .u32 0] 91) = w0 at hf ⊢
  generalize w.heap.size + 1 + 1 + 1 = gs at hf ⊢
  generalize w.heap.size + 1 + 1 = gr at hf ⊢
  generalize w.heap.size + 1 = gn at hf ⊢
  obtain ⟨B, hB⟩ : ∃ B, B = beginP key ctr nonce := ⟨_, rfl⟩
  rw [← hB] at hf
  have HB := Lib.hid hB; clear hB
  have HL : Hid (B.length = 16) := by rw [HB.out]; rfl
  go_loopw [11] (fun i w' => ∃ k : Nat, k ≤ 4 ∧ i = .int .i64 (k : Nat) ∧ Hid (BInv w w' w.heap.size gn gr gs key nonce (partP B k))) (fun i _ => 4 - (intOf i).toNat)
  case atStart => exact ⟨0, Nat.zero_le _, rfl, hf.out⟩
  case round =>
    obtain ⟨k, hk, rfl, hI⟩ := hrel
    clear hf
    by_cases hlt : k < 4
    · have hkI : (k : Int) < 4 := by omega
      have hk0 : (0 : Int) ≤ (k : Int) := by omega
      have q22 := Lib.run_convert_bytes_const (P := Try.prog) wr 26 5 #[.int .u8 101, .int .u8 120, .int .u8 112, .int .u8 97, .int .u8 110, .int .u8 100, .int .u8 32, .int .u8 51, .int .u8 50, .int .u8 45, .int .u8 98, .int .u8 121, .int .u8 116, .int .u8 101, .int .u8 32, .int .u8 107] 16 16 Try.underlying26 Try.underlying5
      go_wp2_with fail
      clear q22
      have hs1 := Sl.of_block (l := sigma) (heap_alloc_new wr (.cells #[.int .u8 101, .int .u8 120, .int .u8 112, .int .u8 97, .int .u8 110, .int .u8 100, .int .u8 32, .int .u8 51, .int .u8 50, .int .u8 45, .int .u8 98, .int .u8 121, .int .u8 116, .int .u8 101, .int .u8 32, .int .u8 107] 5 (16, 17))) rfl 16 rfl
      have hb1 : Hid (BInv w (wr.alloc (.cells #[.int .u8 101, .int .u8 120, .int .u8 112, .int .u8 97, .int .u8 110, .int .u8 100, .int .u8 32, .int .u8 51, .int .u8 50, .int .u8 45, .int .u8 98, .int .u8 121, .int .u8 116, .int .u8 101, .int .u8 32, .int .u8 107] 5 (16, 17))) w.heap.size gn gr gs key nonce (partP B k)) := hI.out.below ((Below.refl _ _).alloc (Nat.le_refl _) _)
      generalize (wr.alloc (.cells #[.int .u8 101, .int .u8 120, .int .u8 112, .int .u8 97, .int .u8 110, .int .u8 100, .int .u8 32, .int .u8 51, .int .u8 50, .int .u8 45, .int .u8 98, .int .u8 121, .int .u8 116, .int .u8 101, .int .u8 32, .int .u8 107] 5 (16, 17))) = w1 at hs1 hb1 ⊢
      clear hI
      refine (at_at hs1 _ (4 * k) (by omega) (by omega) (by decide)).mono ?_
      rintro e w2 ⟨rfl, x, rfl⟩
      have hb2 : Hid (BInv w (w1.drewN x) w.heap.size gn gr gs key nonce (partP B k)) := hb1.out.below (below_drewN (Below.refl _ _) _)
      generalize w1.drewN x = w2 at hb2 ⊢
      clear hs1 hb1
      have hc := hb2.out.s.cell (i := k) (by omega)
      have hz := hb2.out.s.frz k
      have k16 : (k : Int) < 16 := by omega
      go_wp2_with fail
      have hb3 := Lib.hid (hb2.out.step k (leAt sigma (4 * k)))
      go_roundw
      case rel => exact ⟨k + 1, by omega, by go_num, by rw [← partP_set B HL.out k (by omega) (leAt sigma (4 * k)) (by rw [HB.out]; match k, hlt with | 0, _ => rfl | 1, _ => rfl | 2, _ => rfl | 3, _ => rfl)]; exact hb3.out⟩
      case measure => simp [intOf]; omega
    · have hkI : decide ((k : Int) < 4) = false := decide_eq_false (by omega)
      have hk4 : k = 4 := by omega
      rw [hk4] at hI
      clear hlt hk hk4
      go_wp2_with fail
      clear hkI
      go_loopw [22] (fun i w' => ∃ k : Nat, k ≤ 8 ∧ i = .int .i64 (k : Nat) ∧ Hid (BInv w w' w.heap.size gn gr gs key nonce (partP B (4 + k)))) (fun i _ => 8 - (intOf i).toNat)
      case atStart => exact ⟨0, Nat.zero_le _, rfl, hI.out⟩
      case round =>
        obtain ⟨k, hk, rfl, hI⟩ := hrel
        by_cases hlt : k < 8
        · have hkI : (k : Int) < 8 := by omega
          have hk0 : (0 : Int) ≤ (k : Int) := by omega
          go_wp2_with fail
          refine (at_at hI.out.k _ (4 * k) (by omega) (by omega) (by decide)).mono ?_
          rintro e w2 ⟨rfl, x, rfl⟩
          have hb2 : Hid (BInv w (wr.drewN x) w.heap.size gn gr gs key nonce (partP B (4 + k))) := hI.out.below (below_drewN (Below.refl _ _) _)
          generalize wr.drewN x = w2 at hb2 ⊢
          clear hI
          have hc := hb2.out.s.cell (i := 4 + k) (by omega)
          have hz := hb2.out.s.frz (4 + k)
          have k16 : 4 + (k : Int) < 16 := by omega
          go_wp2_with fail
          have hb3 := Lib.hid (hb2.out.step (4 + k) (leAt key (4 * k)))
          go_roundw
          case rel => exact ⟨k + 1, by omega, by go_num, by
            show BInv _ _ _ _ _ _ _ _ (partP B ((4 + k) + 1))
            rw [← partP_set B HL.out (4 + k) (by omega) (leAt key (4 * k)) (by rw [HB.out]; match k, hlt with | 0, _ => rfl | 1, _ => rfl | 2, _ => rfl | 3, _ => rfl | 4, _ => rfl | 5, _ => rfl | 6, _ => rfl | 7, _ => rfl)]; exact hb3.out⟩
          case measure => simp [intOf]; omega
        · have hkI : decide ((k : Int) < 8) = false := decide_eq_false (by omega)
          have hk4 : k = 8 := by omega
          rw [hk4] at hI
          have hc := hI.out.s.cell (i := 12) (by omega)
          have hz := hI.out.s.frz 12
          clear hlt hk hk4
          go_wp2_with fail
          clear hkI
          have hb3 : Hid (BInv w (wr.setCell ⟨gs, 12, none⟩ (.int .u32 (wv ctr))) w.heap.size gn gr gs key nonce (partP B 13)) := by
            rw [← partP_set B HL.out 12 (by omega) ctr (by rw [HB.out]; rfl)]; exact hI.out.step 12 ctr
          clear hI hc hz
          go_loopw [35] (fun i w' => ∃ k : Nat, k ≤ 3 ∧ i = .int .i64 (k : Nat) ∧ Hid (BInv w w' w.heap.size gn gr gs key nonce (partP B (13 + k)))) (fun i _ => 3 - (intOf i).toNat)
          case atStart => exact ⟨0, Nat.zero_le _, rfl, hb3.out⟩
          case round =>
            obtain ⟨k, hk, rfl, hI⟩ := hrel
            clear hb3
            by_cases hlt : k < 3
            · have hkI : (k : Int) < 3 := by omega
              have hk0 : (0 : Int) ≤ (k : Int) := by omega
              go_wp2_with fail
              refine (at_at hI.out.n _ (4 * k) (by omega) (by omega) (by decide)).mono ?_
              rintro e w2 ⟨rfl, x, rfl⟩
              have hb2 : Hid (BInv w (wr.drewN x) w.heap.size gn gr gs key nonce (partP B (13 + k))) := hI.out.below (below_drewN (Below.refl _ _) _)
              generalize wr.drewN x = w2 at hb2 ⊢
              clear hI
              have hc := hb2.out.s.cell (i := 13 + k) (by omega)
              have hz := hb2.out.s.frz (13 + k)
              have k16 : 13 + (k : Int) < 16 := by omega
              go_wp2_with fail
              have hb3 := Lib.hid (hb2.out.step (13 + k) (leAt nonce (4 * k)))
              go_roundw
              case rel => exact ⟨k + 1, by omega, by go_num, by
                show BInv _ _ _ _ _ _ _ _ (partP B ((13 + k) + 1))
                rw [← partP_set B HL.out (13 + k) (by omega) (leAt nonce (4 * k)) (by rw [HB.out]; match k, hlt with | 0, _ => rfl | 1, _ => rfl | 2, _ => rfl)]; exact hb3.out⟩
              case measure => simp [intOf]; omega
            · have hkI : decide ((k : Int) < 3) = false := decide_eq_false (by omega)
              have hk4 : k = 3 := by omega
              rw [hk4] at hI
              clear hlt hk hk4
              have hu : ∃ d, Try.prog.underlying 91 = some d ∧ d.isRow = true := ⟨_, Try.underlying91, rfl⟩
              obtain ⟨d, hu, hd⟩ := hu
              have hi : Hid ((Try.prog.info? 91).map (·.size) = some (wl B).length) := by
                rw [wl_length, HL.out]; exact (by kernel_rfl : (Try.prog.info? 91).map (·.size) = some 16)
              have hr : Hid (wr.rangeAt gs 0 (wl B)) := by
                have e16 : partP B (13 + 3) = B := by unfold partP; rw [List.take_of_length_le (by rw [HL.out]; decide)]; simp
                have h := hI.out.s
                rw [e16] at h
                intro j v hv
                have hj : j < (wl B).length := (List.getElem?_eq_some_iff.1 hv).1
                rw [wl_length, HL.out] at hj
                rw [Nat.zero_add, World.ownsRow.cellAt h j (by omega)]; exact hv
              have Hu := Lib.hid hu
              clear hu
              go_wp2_with (first
                | ((with_reducible refine lst_load_mid 91 (.tmp 7) rfl gs 0 rfl (wl B) d hr.out Hu.out hd hi.out ?_ ?_)
                   (focus rfl))
                | ((with_reducible refine lst_store_abs 91 (.tmp 6) (.tmp 46) rfl gr 91 (wl (List.replicate 16 0)).toArray (wl B).toArray rfl rfl hI.out.r (by simpa using hi.out) (by simp [wl_length, HL.out]) (by simp; exact wl_oneCell _) ?_ ?_)
                   (focus rfl)
                   intro w4 Hh4 hg4))
              refine bodyPost_ret (v := .agg (wl B).toArray) ?_ rfl ⟨by rw [HB.out], ?_⟩
              · have h4 : w4.rangeAt gr 0 (wl B) := by
                  intro j v hv
                  rw [Nat.zero_add, cell_of_row w4 gr j _ _ _ Hh4.out]; simpa using hv
                have hl := run_loadVar_mid w4 gr 0 91 (wl B) d h4 Hu.out hd hi.out
                exact results_cell Try.results56 rfl hl
              · exact hI.out.fr.grown hg4 hI.out.fr.size (fun j hj => by injection hj with hj; have := hI.out.old; omega)
end Go.Proofs.Ytklclbppdoahjaa
