/- chacha.Block. -/
import Derived.Test.YtklclbppdoahjaaCh5
namespace Go.Proofs.Ytklclbppdoahjaa
set_option maxRecDepth 100000
open Go.RowKit
attribute [local go_sem] yld yldUpon_value

/-- what Block holds while it writes its bytes -/
structure KInv (w w' : World) (g1 g7 g9 : Nat) (B : List (BitVec 32)) (L : List UInt8) (j : Nat) : Prop where
  lt : g1 < w'.heap.size ∧ g7 < w'.heap.size ∧ g9 < w'.heap.size
  ne : g1 ≠ g9 ∧ g7 ≠ g9
  old : w.heap.size ≤ g9
  o : w'.heap[g1]? = some (.cells (bs (List.replicate 64 0)).toArray 61 (0, 0))
  b : SqB w' 91 g7 16 16 B
  out : ByB w' 61 g9 64 (partB L j)
  fr : Below w.heap.size w w'
theorem KInv.step {w w' : World} {g1 g7 g9 : Nat} {B : List (BitVec 32)} {L : List UInt8} {j : Nat} (h : KInv w w' g1 g7 g9 B L j) (hL : L.length = 64) (hj : j < 64) (v : Value) (hv : v = bv L[j]) : KInv w (w'.setCell ⟨g9, j, none⟩ v) g1 g7 g9 B L (j + 1) := by
  subst hv
  have hf : Fr (fun k => k = g9) w' (w'.setCell ⟨g9, j, none⟩ (bv L[j])) := (Fr.refl (fun k => k = g9) w').setCell (p := ⟨g9, j, none⟩) (.inl rfl) _
  have hz := hf.size
  have hl := h.lt
  have ho := h.old
  have hne := h.ne
  refine ⟨by omega, h.ne, h.old, by rw [hf.block _ (by omega) (by omega)]; exact h.o, h.b.fr hf (by omega) (by decide), ?_, ?_⟩
  · rw [← partB_set L hL j hj]; exact h.out.set j _
  · exact ((Fr.of_below h.fr).trans hf (fun i _ h => h)).to_below (fun i hi => by omega)

set_option maxRecDepth 100000 in
set_option maxHeartbeats 4000000 in
theorem Block_any (w : World) (key nonce : List UInt8) (ctr : BitVec 32) (hk : key.length = 32) (hn : nonce.length = 12) :
    Calls Try.prog 38 #[.agg (bs key).toArray, .int .u32 (wv ctr), .agg (bs nonce).toArray] w fun e w' => e = .returned (.agg (bs (blockP key ctr nonce)).toArray) ∧ Below w.heap.size w w' := by
  have Hk := Lib.hid hk; have Hn := Lib.hid hn
  obtain ⟨io, hio, hzo, hso, _⟩ := info_parts Try.infoO
  obtain ⟨is_, his, hzs, hss, _⟩ := info_parts Try.infoS
  have Hio := Lib.hid hio; have Hzo := Lib.hid hzo; have His := Lib.hid his; have Hzs := Lib.hid hzs
  have u1 := Lib.hid Try.underlying23
  have u2 := Lib.hid Try.underlying25
  have i1 : Hid ((Try.prog.info? 23).map (·.size) = some (bs key).length) := by rw [bs_length, hk]; exact Try.sizeK
  have i2 : Hid ((Try.prog.info? 25).map (·.size) = some (bs nonce).length) := by rw [bs_length, hn]; exact Try.sizeN
  clear hio hzo his hzs hk hn
  have hK2 := Lib.hid (heap_alloc2_old w (.cells (bs key).toArray 23) (.cells (bs nonce).toArray 25))
  have hN2 := Lib.hid (heap_alloc2_new w (.cells (bs key).toArray 23) (.cells (bs nonce).toArray 25))
  have hB2 : Hid (Below w.heap.size w ((w.alloc (.cells (bs key).toArray 23)).alloc (.cells (bs nonce).toArray 25))) := ((Below.refl _ _).alloc (Nat.le_refl _) _).alloc (by simp) _
  have hz2 : Hid (((w.alloc (.cells (bs key).toArray 23)).alloc (.cells (bs nonce).toArray 25)).heap.size = w.heap.size + 2) := by show _ = _; simp
  go_enter Try.func38, Try.ntmps38
  go_wp2_with (first
    | ((with_reducible refine lst_alloc_abs 61 rfl io _ Hio.out Hzo.out ?_ ?_)
       (focus rfl)
       intro g1 w1 Hg1 Hh1 hb1
       have Hb1 := Lib.hid hb1
       have r1 : Hid (w1.rangeAt w.heap.size 0 (bs key)) := range_block (by rw [hb1.block _ (by have := hz2.out; omega)]; exact hK2.out)
       have r2 : Hid (w1.rangeAt (w.heap.size + 1) 0 (bs nonce)) := range_block (by rw [hb1.block _ (by have := hz2.out; omega)]; exact hN2.out)
       clear hb1)
    | ((with_reducible refine lst_load_mid 23 _ rfl w.heap.size 0 rfl (bs key) _ r1.out u1.out rfl i1.out ?_ ?_)
       (focus rfl))
    | ((with_reducible refine lst_load_mid 25 _ rfl (w.heap.size + 1) 0 rfl (bs nonce) _ r2.out u2.out rfl i2.out ?_ ?_)
       (focus rfl)))
  have hz1 := Hg1.out.2
  have e1 := Hg1.out.1
  have hzz := hz2.out
  rw [hzz] at hz1 e1
  have hW1 : Hid (Below w.heap.size w w1) := hB2.out.trans (Hb1.out.mono (by omega))
  clear hK2 hN2 r1 r2 u1 u2 i1 i2 hB2 Hb1 hz2 hzz Hg1
  refine (begins_any w1 key nonce ctr Hk.out Hn.out).mono ?_
  rintro e w2 ⟨rfl, hb2⟩
  obtain ⟨B, hB⟩ : ∃ B, B = beginP key ctr nonce := ⟨_, rfl⟩
  rw [← hB]
  have HB := Lib.hid hB
  have HL : Hid (B.length = 16) := by rw [hB]; rfl
  clear hB
  have hsz2 := hb2.size
  have O2 : Hid (w2.heap[g1]? = some (.cells (bs (List.replicate 64 0)).toArray 61 (0, 0))) := by
    rw [hb2.block _ (by omega)]; exact Hh1.out
  have hW2 : Hid (Below w.heap.size w w2) := hW1.out.trans (hb2.mono (by omega))
  have hg1w : g1 < w2.heap.size := by omega
  have hg1o : w.heap.size ≤ g1 := by omega
  clear hb2 Hh1 hW1 hz1 e1 hsz2
  have iS : Hid ((Try.prog.info? 91).map (·.size) = some (wl B).length) := by rw [wl_length, HL.out]; exact Try.sizeS
  have uS := Lib.hid Try.underlying91
  go_wp2_with (first
    | ((with_reducible refine lst_alloc_d 7 rfl 91 rfl is_ _ His.out Hzs.out ?_ ?_)
       (focus rfl)
       intro g7 w3 Hg7 Hh7 hb3
       have Hb3 := Lib.hid hb3
       have Hh7' : Hid (w3.heap[g7]? = some (.cells (wl (List.replicate 16 0)).toArray 91 (0, 0))) := Hh7
       clear hb3)
    | ((with_reducible refine lst_store_abs 91 (.tmp 7) (.tmp 16) rfl g7 91 (wl (List.replicate 16 0)).toArray (wl B).toArray rfl rfl Hh7'.out (by simpa using iS.out) (by simp [wl_length, HL.out]) (by simp; exact wl_oneCell _) ?_ ?_)
       (focus rfl)
       intro w4 Hh4 hg4
       have Hg4 := Lib.hid hg4
       have r4 := Lib.hid (range_block Hh4.out)
       clear hg4)
    | ((with_reducible refine lst_load_mid 91 (.tmp 7) rfl g7 0 rfl (wl B) _ r4.out uS.out rfl iS.out ?_ ?_)
       (focus rfl))
    | ((with_reducible refine lst_alloc_d 8 rfl 91 rfl is_ _ His.out Hzs.out ?_ ?_)
       (focus rfl)
       intro g8 w5 Hg8 Hh8 hb5
       have Hb5 := Lib.hid hb5
       have Hh8' : Hid (w5.heap[g8]? = some (.cells (wl (List.replicate 16 0)).toArray 91 (0, 0))) := Hh8
       clear hb5)
    | ((with_reducible refine lst_store_abs 91 (.tmp 8) (.tmp 17) rfl g8 91 (wl (List.replicate 16 0)).toArray (wl B).toArray rfl rfl Hh8'.out (by simpa using iS.out) (by simp [wl_length, HL.out]) (by simp; exact wl_oneCell _) ?_ ?_)
       (focus rfl)
       intro w6 Hh6 hg6
       have Hg6 := Lib.hid hg6
       clear hg6))
  have z3 := Hg7.out.2
  have z4 := Hg4.out.size
  have z5 := Hg8.out.2
  have z6 := Hg6.out.size
  have e7 := Hg7.out.1
  have e8 := Hg8.out.1
  have c24 : Below w2.heap.size w2 w4 := Hb3.out.grown Hg4.out (by omega) (fun j hj => by injection hj with hj; omega)
  have c46 : Below w4.heap.size w4 w6 := Hb5.out.grown Hg6.out (by omega) (fun j hj => by injection hj with hj; omega)
  have c26 : Below w2.heap.size w2 w6 := c24.trans (c46.mono (by omega))
  have hz26 := c26.size
  have hz46 := c46.size
  have W6 : Hid (Below w.heap.size w w6) := hW2.out.trans (c26.mono hW2.out.size)
  have O6 : Hid (w6.heap[g1]? = some (.cells (bs (List.replicate 64 0)).toArray 61 (0, 0))) := by
    rw [c26.block _ (by omega)]; exact O2.out
  have q7 : Hid (SqB w6 91 g7 16 16 B) := SqB.of_block (by rw [c46.block _ (by omega)]; exact Hh4.out) rfl HL.out (by decide)
  have q8 : Hid (SqB w6 91 g8 16 16 B) := SqB.of_block Hh6.out rfl HL.out (by decide)
  have g78 : g7 ≠ g8 := by omega
  have g18 : g1 ≠ g8 := by omega
  have g17 : g1 ≠ g7 := by omega
  have g7w : g7 < w6.heap.size := by omega
  have g8w : g8 < w6.heap.size := by omega
  have g1w : g1 < w6.heap.size := by omega
  have hw8 : w.heap.size ≤ g8 := by have := hW2.out.size; omega
  clear z3 z4 z5 z6 e7 e8 c24 c46 c26 hz26 hz46 hg1w Hg7 Hg8 Hg4 Hg6 Hb3 Hb5 Hh4 Hh6 Hh7 Hh8 Hh7' Hh8' r4 O2 hW2
  refine (rounds_any w6 g8 16 B q8.out).mono ?_
  rintro e w7 ⟨rfl, h8, f7⟩
  obtain ⟨S, hS⟩ : ∃ S, S = turns B 80 := ⟨_, rfl⟩
  rw [← hS] at h8
  have HS := Lib.hid hS
  have HSL : Hid (S.length = 16) := by rw [hS, turns_len]; exact HL.out
  clear hS
  have q8' := Lib.hid h8
  have q7' : Hid (SqB w7 91 g7 16 16 B) := q7.out.fr f7 g78 (by decide)
  have O7 : Hid (w7.heap[g1]? = some (.cells (bs (List.replicate 64 0)).toArray 61 (0, 0))) := by
    rw [f7.block _ g1w g18]; exact O6.out
  have W7 : Hid (Below w.heap.size w w7) := ((Fr.of_below W6.out).trans (M := NoB) f7 (fun i hi h => by omega)).to_below (fun _ _ h => h)
  have z7 := f7.size
  clear h8 f7 q7 q8 O6 W6
  have iS8 : Hid ((Try.prog.info? 91).map (·.size) = some (wl S).length) := by rw [wl_length, HSL.out]; exact Try.sizeS
  go_wp2_with (first
    | ((with_reducible refine lst_alloc_d 9 rfl 61 rfl io _ Hio.out Hzo.out ?_ ?_)
       (focus rfl)
       intro g9 w8 Hg9 Hh9 hb8
       have Hb8 := Lib.hid hb8
       have r8 : Hid (w8.rangeAt g8 0 (wl S)) := (q8'.out.fr (Fr.of_below (M := NoB) hb8) id (by decide)).range
       clear hb8)
    | ((with_reducible refine lst_load_mid 91 (.tmp 8) rfl g8 0 rfl (wl S) _ r8.out uS.out rfl iS8.out ?_ ?_)
       (focus rfl)))
  obtain ⟨L, hL⟩ : ∃ L, L = outP S B := ⟨_, rfl⟩
  have HL2 := Lib.hid hL
  have HLL : Hid (L.length = 64) := by rw [hL]; exact outP_len _ _
  clear hL
  have hI : Hid (KInv w w8 g1 g7 g9 B L 0) := by
    have e9 := Hg9.out.1
    have z8 := Hg9.out.2
    have := W7.out.size
    refine ⟨by omega, by omega, by omega, ?_, q7'.out.fr (Fr.of_below (M := NoB) Hb8.out) id (by decide), ByB.of_block Hh9.out rfl rfl (by decide), W7.out.trans (Hb8.out.mono (by omega))⟩
    rw [Hb8.out.block _ (by omega)]; exact O7.out
  clear q8' q7' O7 W7 z7 iS8 Hg9 Hh9 Hb8 r8 hw8 g1w g7w g8w g18 g17 g78 His Hzs Hio Hzo iS
  go_loopw [20] (fun i w' => ∃ i_ : Nat, i_ ≤ 16 ∧ i = .int .i64 (i_ : Nat) ∧ Hid (KInv w w' g1 g7 g9 B L (4 * i_))) (fun i _ => 16 - (intOf i).toNat)
  case atStart => exact ⟨0, Nat.zero_le _, rfl, hI.out⟩
  case round =>
    obtain ⟨i, hi, rfl, hI⟩ := hrel
    by_cases hlt : i < 16
    · have hkI : (i : Int) < 16 := by omega
      have hk0 : (0 : Int) ≤ (i : Int) := by omega
      have hix := Lib.hid (run_index_sq wr 91 16 S uS.out HSL.out i hlt)
      have hc := hI.out.b.cell (i := i) (by omega)
      have ha := add32 (gw S i) (gw B i)
      go_wp2_with (first
        | ((with_reducible refine lst_index 91 (.tmp 19) (.tmp 20) rfl (.agg (wl S).toArray) (.int .i64 (i : Nat)) _ rfl rfl hix.out ?_ ?_)
           (focus rfl)))
      obtain ⟨x, hx⟩ : ∃ x, x = gw S i + gw B i := ⟨_, rfl⟩
      rw [← hx] at ha
      rw [ha]
      clear hix hc ha
      have Hx := Lib.hid hx
      clear hx
      have hxb := wv_lt x
      go_loopw [29] (fun k w' => ∃ k_ : Nat, k_ ≤ 4 ∧ k = .int .i64 (k_ : Nat) ∧ Hid (KInv w w' g1 g7 g9 B L (4 * i + k_))) (fun k _ => 4 - (intOf k).toNat)
      case atStart => exact ⟨0, Nat.zero_le _, rfl, hI.out⟩
      case round =>
        clear hI
        obtain ⟨k, hk, rfl, hI⟩ := hrel
        by_cases hlt2 : k < 4
        · have hkI2 : (k : Int) < 4 := by omega
          have hk02 : (0 : Int) ≤ (k : Int) := by omega
          have hc := hI.out.out.cell (i := 4 * i + k) (by rw [partB_len L HLL.out _ (by omega)]; omega)
          have hz := World.ownsRow.frozenAt hI.out.out (4 * i + k)
          go_wp2_with fail
          refine ⟨⟨k + 1, by omega, by go_num, ?_⟩, by simp [intOf]; omega⟩
          refine hI.out.step HLL.out (by omega) _ ?_
          rw [bv_byteOf, Hx.out]
          have h := outP_get S B i k hlt hlt2 (by rw [outP_len]; omega)
          congr 1
          rw [← h]
          congr 1
          exact HL2.out.symm
        · have hkI2 : decide ((k : Int) < 4) = false := decide_eq_false (by omega)
          have hk4 : k = 4 := by omega
          rw [hk4] at hI
          clear hlt2 hk hk4 hxb
          go_wp2_with fail
          go_roundw
          case rel => exact ⟨i + 1, by omega, by go_num, hI.out⟩
          case measure => simp [intOf]; omega
    · have hkI : decide ((i : Int) < 16) = false := decide_eq_false (by omega)
      have hk4 : i = 16 := by omega
      rw [hk4] at hI
      clear hlt hi hk4
      have hout : Hid (wr.rangeAt g9 0 (bs L)) := by
        have e : partB L (4 * 16) = L := by unfold partB; rw [List.take_of_length_le (by rw [HLL.out]; decide)]; simp
        have h := hI.out.out
        rw [e] at h
        exact h.range
      have uO := Lib.hid Try.underlying61
      have iO : Hid ((Try.prog.info? 61).map (·.size) = some (bs L).length) := by rw [bs_length, HLL.out]; exact Try.sizeO
      go_wp2_with (first
        | ((with_reducible refine lst_load_mid 61 (.tmp 9) rfl g9 0 rfl (bs L) _ hout.out uO.out rfl iO.out ?_ ?_)
           (focus rfl))
        | ((with_reducible refine lst_store_abs 61 (.tmp 6) (.tmp 44) rfl g1 61 (bs (List.replicate 64 0)).toArray (bs L).toArray rfl rfl hI.out.o (by simpa using iO.out) (by simp [bs_length, HLL.out]) (by simp; exact bs_oneCell _) ?_ ?_)
           (focus rfl)
           intro w10 Hh10 hg10))
      refine bodyPost_ret (v := .agg (bs L).toArray) ?_ rfl ⟨by rw [HL2.out, HS.out, HB.out]; rfl, ?_⟩
      · exact results_cell Try.results38 rfl (run_loadVar_mid w10 g1 0 61 (bs L) _ (range_block Hh10.out) uO.out rfl iO.out)
      · exact hI.out.fr.grown hg10 hI.out.fr.size (fun j hj => by injection hj with hj; omega)
end Go.Proofs.Ytklclbppdoahjaa
