/- The stream. -/
import Derived.Test.YtklclbppdoahjaaCh6
import Derived.Test.YtklclbppdoahjaaReg
import Derived.Test.YtklclbppdoahjaaRgF2
namespace Go.Proofs.Ytklclbppdoahjaa
set_option maxRecDepth 100000
open Go.RowKit
attribute [local go_sem] Oper.semAt_some yld yldUpon_value

theorem stream_any (w : World) (key nonce : List UInt8) (ctr : BitVec 32) :
    Calls Try.prog 28 #[.agg (bs key).toArray, .int .u32 (wv ctr), .agg (bs nonce).toArray] w fun e w' =>
      e = .returned (.func (.func 37) #[] #[.pointer (some ⟨w.heap.size, 0, none⟩), .pointer (some ⟨w.heap.size + 1, 0, none⟩), .pointer (some ⟨w.heap.size + 2, 0, none⟩)]) ∧
      w' = ((w.alloc (.cells (bs key).toArray 23)).alloc (.cells #[.int .u32 (wv ctr)] 49)).alloc (.cells (bs nonce).toArray 25) := by
  go_enter Try.func28, Try.ntmps28
  go_wp2
  go_ret
  exact ⟨rfl, rfl⟩

/-- what a round is handed -/
def ArgS (key : List UInt8) (ctr : BitVec 32) (nonce : List UInt8) (k : Nat) (_ _ : World) (args : Array Value) : Prop := args = #[.agg (bs (blockP key (ctr + BitVec.ofNat 32 k) nonce)).toArray]
def cntAt (B : Nat) (w : World) : BitVec 32 := match w.cell? ⟨B, 0, none⟩ with | some (.int _ n) => BitVec.ofInt 32 n | _ => 0
theorem cnt_le (ctr : BitVec 32) (k : Nat) (h : k < 4294967296) : (ctr + BitVec.ofNat 32 k - ctr).toNat = k := by
  have : ctr + BitVec.ofNat 32 k - ctr = BitVec.ofNat 32 k := by
    rw [BitVec.add_comm]; exact BitVec.add_sub_cancel _ _
  rw [this, BitVec.toNat_ofNat]
  exact Nat.mod_eq_of_lt h

set_option maxRecDepth 100000 in
set_option maxHeartbeats 2000000 in
theorem stream_iter {w0 : World} {Bk Bc Bn : Nat} {key nonce : List UInt8} {ctr : BitVec 32} (hk : key.length = 32) (hn : nonce.length = 12)
    (h1 : w0.heap[Bk]? = some (.cells (bs key).toArray 23 (0, 0))) (h2 : w0.heap[Bc]? = some (.cells #[.int .u32 (wv ctr)] 49 (0, 0))) (h3 : w0.heap[Bn]? = some (.cells (bs nonce).toArray 25 (0, 0)))
    (hd : Bk ≠ Bc ∧ Bn ≠ Bc) (N : Nat) (hN : N ≤ 4294967295) :
    Iter Try.prog 37 #[.pointer (some ⟨Bk, 0, none⟩), .pointer (some ⟨Bc, 0, none⟩), .pointer (some ⟨Bn, 0, none⟩)] (fun j => j = Bk ∨ j = Bc ∨ j = Bn) (fun j => j = Bc) N (ArgS key ctr nonce) True w0 := by
  intro lp J Jx W hW hJ hJx hY hInf h0
  have H1 := Lib.hid h1; have H2 := Lib.hid h2; have H3 := Lib.hid h3; have HW := Lib.hid hW; have HJ := Lib.hid hJ; have HJx := Lib.hid hJx; have HY := Lib.hid hY; have H0 := Lib.hid h0; have HI := Lib.hid (hInf trivial)
  have Hk := Lib.hid hk; have Hn := Lib.hid hn
  have u1 := Lib.hid Try.underlying23
  have u2 := Lib.hid Try.underlying25
  have i1 : Hid ((Try.prog.info? 23).map (·.size) = some (bs key).length) := by rw [bs_length, hk]; exact Try.sizeK
  have i2 : Hid ((Try.prog.info? 25).map (·.size) = some (bs nonce).length) := by rw [bs_length, hn]; exact Try.sizeN
  clear h1 h2 h3 hW hJ hJx hY hInf h0 hk hn
  refine callsIn_of_wp Try.func37 rfl trivial ?_ rfl
  simp only [Try.ntmps37, List.size_toArray, List.length_cons, List.length_nil, Nat.reduceAdd, Nat.reduceSub, Array.replicate_succ, Array.replicate_zero, List.push_toArray, List.append_toArray, List.nil_append, List.cons_append]
  gi_wp2_with fail
  gi_loopw [5] (fun _ wr => ∃ k : Nat, k ≤ N ∧ Hid (wr.heap[Bc]? = some (.cells #[.int .u32 (wv (ctr + BitVec.ofNat 32 k))] 49 (0, 0))) ∧ Hid (J k wr) ∧ Hid (Fr (fun j => ¬ (j = Bk ∨ j = Bc ∨ j = Bn) ∨ j = Bc) W wr))
    (fun _ wr => N - (cntAt Bc wr - ctr).toNat)
  case atStart =>
    have hB := (Array.getElem?_eq_some_iff.1 H2.out).1
    refine ⟨0, Nat.zero_le _, ?_, H0.out, Fr.refl _ _⟩
    have : ctr + BitVec.ofNat 32 0 = ctr := by simp
    rw [this]
    exact (HW.out.block Bc hB id).trans H2.out
  case round =>
    obtain ⟨k, hk, Hc, Hj, Hf⟩ := hrel
    have hkN : k < N := by
      rcases Nat.lt_or_ge k N with h | h
      · exact h
      · have : k = N := by omega
        subst this
        exact absurd Hj.out (HI.out wr)
    have hlt1 := (Array.getElem?_eq_some_iff.1 H1.out).1
    have hlt3 := (Array.getElem?_eq_some_iff.1 H3.out).1
    have hzW := HW.out.size
    have r1 : Hid (wr.rangeAt Bk 0 (bs key)) := range_block (by rw [Hf.out.block Bk (by omega) (by rintro (h | h); exact h (.inl rfl); exact hd.1 h), HW.out.block Bk hlt1 id]; exact H1.out)
    have r3 : Hid (wr.rangeAt Bn 0 (bs nonce)) := range_block (by rw [Hf.out.block Bn (by omega) (by rintro (h | h); exact h (.inr (.inr rfl)); exact hd.2 h), HW.out.block Bn hlt3 id]; exact H3.out)
    have c2 : wr.cell? ⟨Bc, 0, none⟩ = some (.int .u32 (wv (ctr + BitVec.ofNat 32 k))) := by rw [cell_of_row wr Bc 0 _ _ _ Hc.out]; rfl
    have HYk := Lib.hid (HY.out k)
    gi_wp2_with (first
      | ((with_reducible refine lin_load_mid (.inl rfl) 23 (.tmp 1) rfl Bk 0 rfl (bs key) _ r1.out u1.out rfl i1.out ?_ ?_)
         (focus rfl))
      | ((with_reducible refine lin_load_mid (.inl rfl) 25 (.tmp 3) rfl Bn 0 rfl (bs nonce) _ r3.out u2.out rfl i2.out ?_ ?_)
         (focus rfl)))
    refine ⟨trivial, rfl, (callsIn_wide.2 (Block_any wr key nonce (ctr + BitVec.ofNat 32 k) Hk.out Hn.out)).mono ?_⟩
    rintro e w1 ⟨rfl, hb1⟩
    have hc1 : Hid (w1.heap[Bc]? = some (.cells #[.int .u32 (wv (ctr + BitVec.ofNat 32 k))] 49 (0, 0))) := (hb1.block Bc (Array.getElem?_eq_some_iff.1 Hc.out).1).trans Hc.out
    obtain ⟨fn, tmps, assign, body, hy, hR⟩ := HYk.out wr w1 #[.agg (bs (blockP key (ctr + BitVec.ofNat 32 k) nonce)).toArray] hkN Hj.out (Fr.of_below hb1) rfl
    have Hf1 : Hid (Fr (fun j => ¬ (j = Bk ∨ j = Bc ∨ j = Bn) ∨ j = Bc) W w1) := Hf.out.trans (Fr.of_below (M := NoB) hb1) (fun _ _ h => h.elim)
    have HC2 := Lib.hid c2
    clear hb1 r1 r3 c2 Hc
    gi_wp2_with fail
    refine ⟨rfl, hR.mono ?_⟩
    rintro e W3 (⟨rfl, hJ3, hk3⟩ | ⟨rfl, hJx3⟩)
    · have hc3 : Hid (W3.heap[Bc]? = some (.cells #[.int .u32 (wv (ctr + BitVec.ofNat 32 k))] 49 (0, 0))) := (hk3.block Bc (Array.getElem?_eq_some_iff.1 hc1.out).1 (fun e => e (.inr (.inl rfl)))).trans hc1.out
      have c3 : W3.cell? ⟨Bc, 0, none⟩ = some (.int .u32 (wv (ctr + BitVec.ofNat 32 k))) := by rw [cell_of_row W3 Bc 0 _ _ _ hc3.out]; rfl
      have f3 : W3.frozen? ⟨Bc, 0, none⟩ = false := frozen_of_row W3 Bc 0 _ _ hc3.out
      have hx := add32 (ctr + BitVec.ofNat 32 k) 1
      have e1 : wv 1 = 1 := rfl
      rw [e1] at hx
      have hxx : ctr + BitVec.ofNat 32 k + 1 = ctr + BitVec.ofNat 32 (k + 1) := by
        rw [BitVec.add_assoc]; congr 1; apply BitVec.eq_of_toNat_eq; simp [BitVec.toNat_add, BitVec.toNat_ofNat]
      rw [hxx] at hx
      have Hfr3 : Hid (Fr (fun j => ¬ (j = Bk ∨ j = Bc ∨ j = Bn) ∨ j = Bc) W W3) := Hf1.out.trans (hk3.mono fun _ _ h => .inl h) (fun _ _ h => h)
      have HJ3 := Lib.hid hJ3
      have Hc3s := Lib.hid (Boxed.set (.int .u32 (wv (ctr + BitVec.ofNat 32 (k + 1)))) (show Boxed W3 Bc _ _ from hc3.out))
      have HkN := Lib.hid hkN
      clear hy hR hJ3 hk3 hc1 Hf1 hxx e1 Hf Hj hkN hk
      gi_wp2_with fail
      refine ⟨⟨k + 1, HkN.out, Hc3s.out, HJ.out _ _ _ HJ3.out (Fr.of_grown (grownBy_setCell' W3 Bc _) |>.mono fun j _ e => by injection e), Hfr3.out.setCell (p := ⟨Bc, 0, none⟩) (.inl (.inr rfl)) _⟩, ?_⟩
      have q1 : cntAt Bc (W3.setCell ⟨Bc, 0, none⟩ (.int .u32 (wv (ctr + BitVec.ofNat 32 (k + 1))))) = ctr + BitVec.ofNat 32 (k + 1) := by
        unfold cntAt; rw [Hc3s.out.cell]; exact ofInt_wv _
      have q2 : cntAt Bc wr = ctr + BitVec.ofNat 32 k := by
        unfold cntAt; rw [HC2.out]; exact ofInt_wv _
      have := HkN.out
      rw [q1, q2, cnt_le ctr (k + 1) (by omega), cnt_le ctr k (by omega)]
      omega
    · gi_wp2_with fail
      go_end0
      exact ⟨⟨_, rfl⟩, .inr hJx3⟩
end Go.Proofs.Ytklclbppdoahjaa
