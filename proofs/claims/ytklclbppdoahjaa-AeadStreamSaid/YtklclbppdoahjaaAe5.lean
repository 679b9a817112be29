/- Aead: New, Seal. -/
import Derived.Test.YtklclbppdoahjaaAe4
namespace Go.Proofs.Ytklclbppdoahjaa
set_option maxRecDepth 100000
open Go.RowKit
attribute [local go_sem] yld yldUpon_value

theorem ANew_any (w : World) : Calls Try.prog 11 #[] w fun e w' => ∃ g, e = .returned (.pointer (some ⟨g, 0, none⟩)) ∧ Below w.heap.size w w' := by
  go_enter Try.func11, Try.ntmps11
  go_wp2_with fail
  go_ret
  exact ⟨w.heap.size, rfl, Below.al _ _⟩
def streamL (ky nc b : List UInt8) : List UInt8 := xorP ky 1 nc b
theorem streamL_len (ky nc b : List UInt8) : (streamL ky nc b).length = b.length := xorP_len _ _ _ _
def sealL (ky nc head plain : List UInt8) : List UInt8 := streamL ky nc plain ++ aeadTag ky nc head (streamL ky nc plain)
theorem sealL_len (ky nc head plain : List UInt8) : (sealL ky nc head plain).length = plain.length + 16 := by unfold sealL; rw [List.length_append, streamL_len, aeadTag_len]
set_option maxHeartbeats 8000000 in
theorem Seal_any {w : World} (rc : Value) {ky nc : List UInt8} (hk : ky.length = 32) (hn : nc.length = 12) {F G : Nat → Prop} {A B : Option Addr} {n c m d : Nat} {head pl : List UInt8} (h1 : Sl w F A n c head) (hF : ∀ k, F k → k < w.heap.size) (h2 : Sl w G B m d pl) (hG : ∀ k, G k → k < w.heap.size) (hb1 : n ≤ 10000000) (hb2 : m ≤ 1000000) :
    Calls Try.prog 12 #[rc, .agg (bs ky).toArray, .agg (bs nc).toArray, .slice A n c, .slice B m d] w fun e w' => ∃ A' n' c', e = .returned (.slice A' n' c') ∧ w'.ownsRow w.heap.size 5 1 (.slice A' n' c') n' (bs (sealL ky nc head pl)) ∧ Below w.heap.size w w' := by
  have HK := Lib.hid hk; have HN := Lib.hid hn; have H1 := Lib.hid h1; have H2 := Lib.hid h2; have HF := Lib.hid hF; have HG := Lib.hid hG
  have L1 := Lib.hid h1.len; have L2 := Lib.hid h2.len
  clear hk hn h1 h2 hF hG
  obtain ⟨iT, hiT, zT, _, _⟩ := info_parts Try.infoTag
  have HiT := Lib.hid hiT; have HzT := Lib.hid zT
  clear hiT zT
  have uK := Lib.hid Try.underlying23
  have uN := Lib.hid Try.underlying25
  have i1 : Hid ((Try.prog.info? 23).map (·.size) = some (bs ky).length) := by rw [bs_length, HK.out]; exact Try.sizeKey
  have i2 : Hid ((Try.prog.info? 25).map (·.size) = some (bs nc).length) := by rw [bs_length, HN.out]; exact Try.sizeN
  obtain ⟨w0, hw0⟩ : ∃ w0, w0 = (w.alloc (.cells (bs ky).toArray 23)).alloc (.cells (bs nc).toArray 25) := ⟨_, rfl⟩
  have X0 : Hid (Has w w0 [(w.heap.size + 1, .cells (bs nc).toArray 25 (0, 0)), (w.heap.size, .cells (bs ky).toArray 23 (0, 0))]) := by
    have h1 : Has w (w.alloc (.cells (bs ky).toArray 23)) [(w.heap.size, .cells (bs ky).toArray 23 (0, 0))] := (Has.start (Below.refl _ w)).new (Below.al _ _) (Nat.le_refl _) (heap_alloc_new w _)
    have h2 := heap_alloc_new (w.alloc (.cells (bs ky).toArray 23)) (.cells (bs nc).toArray 25)
    rw [World.size_alloc] at h2
    rw [hw0]
    exact h1.new (Below.al _ _) (by rw [World.size_alloc]; exact Nat.le_refl _) h2
  subst hw0
  have r1 : Hid (((w.alloc (.cells (bs ky).toArray 23)).alloc (.cells (bs nc).toArray 25)).rangeAt w.heap.size 0 (bs ky)) := range_block (X0.out.get (by simp) : _ = some (.cells (bs ky).toArray 23 (0, 0)))
  have r2 : Hid (((w.alloc (.cells (bs ky).toArray 23)).alloc (.cells (bs nc).toArray 25)).rangeAt (w.heap.size + 1) 0 (bs nc)) := range_block (X0.out.get (by simp) : _ = some (.cells (bs nc).toArray 25 (0, 0)))
  go_enter Try.func12, Try.ntmps12
  go_wp2_with (first
    | ((with_reducible refine lst_load_mid 23 (.tmp 6) rfl w.heap.size 0 rfl (bs ky) _ r1.out uK.out rfl i1.out ?_ ?_)
       (focus rfl))
    | ((with_reducible refine lst_load_mid 25 (.tmp 7) rfl (w.heap.size + 1) 0 rfl (bs nc) _ r2.out uN.out rfl i2.out ?_ ?_)
       (focus rfl)))
  clear r1 r2
  generalize (w.alloc (.cells (bs ky).toArray 23)).alloc (.cells (bs nc).toArray 25) = w0 at X0 ⊢
  have S0 := Lib.hid (H2.out.belF X0.out.bel HG.out)
  refine (Xor_any w0 ky nc 1 HK.out HN.out S0.out (fun k hk => Nat.lt_of_lt_of_le (HG.out k hk) X0.out.bel.size) hb2).mono ?_
  rintro e w1 ⟨A1, c1, rfl, ho1, hb1'⟩
  obtain ⟨C, hC⟩ : ∃ C, C = streamL ky nc pl := ⟨_, rfl⟩
  have HC := Lib.hid hC
  rw [show xorP ky 1 nc pl = C from hC.symm] at ho1
  have HCl : Hid (C.length = m) := by rw [hC]; show _ = _; rw [streamL_len, L2.out]
  have O1 := Lib.hid ho1
  have X1 := Lib.hid (X0.out.bl hb1')
  have Z0 : Hid (w.heap.size ≤ w0.heap.size) := X0.out.bel.size
  have Z01 : Hid (w0.heap.size ≤ w1.heap.size) := hb1'.size
  have r1 : Hid (w1.rangeAt w.heap.size 0 (bs ky)) := range_block (X1.out.get (by simp) : w1.heap[w.heap.size]? = some (.cells (bs ky).toArray 23 (0, 0)))
  have r2 : Hid (w1.rangeAt (w.heap.size + 1) 0 (bs nc)) := range_block (X1.out.get (by simp) : w1.heap[w.heap.size + 1]? = some (.cells (bs nc).toArray 25 (0, 0)))
  clear ho1 hb1' hC X0 S0
  go_wp2_with (first
    | ((with_reducible refine lst_load_mid 23 (.tmp 6) rfl w.heap.size 0 rfl (bs ky) _ r1.out uK.out rfl i1.out ?_ ?_)
       (focus rfl))
    | ((with_reducible refine lst_load_mid 25 (.tmp 7) rfl (w.heap.size + 1) 0 rfl (bs nc) _ r2.out uN.out rfl i2.out ?_ ?_)
       (focus rfl)))
  clear r1 r2
  have Sc := Lib.hid (Sl.of_own O1.out)
  refine (tag_any HK.out HN.out (H1.out.belF X1.out.bel HF.out) (fun k hk => Nat.lt_of_lt_of_le (HF.out k hk) X1.out.bel.size) Sc.out (fun k hk => hk.2.1) hb1 (by omega)).mono ?_
  rintro e w2 ⟨rfl, hb2'⟩
  obtain ⟨T, hT⟩ : ∃ T, T = aeadTag ky nc head C := ⟨_, rfl⟩
  have HT := Lib.hid hT
  have HTl : Hid (T.length = 16) := by rw [hT]; exact aeadTag_len _ _ _ _
  have i3 : Hid ((Try.prog.info? 46).map (·.size) = some (bs T).length) := by rw [bs_length, HTl.out]; exact Try.sizeTag
  rw [← hT]
  have O2 := Lib.hid (own_fr O1.out (Fr.of_below (M := NoB) hb2') (fun _ _ e => e))
  have X2 := Lib.hid (X1.out.bl hb2')
  have Z1 : Hid (w0.heap.size ≤ w2.heap.size ∧ ∀ k, (Value.slice A1 m c1).ownBlock = some k → k < w2.heap.size) := ⟨Nat.le_trans Z01.out hb2'.size, fun k hk => Nat.lt_of_lt_of_le (O1.out.lt k hk).2 hb2'.size⟩
  clear hb2' hT O1 X1 Sc
  go_wp2_with (first
    | ((with_reducible refine lst_alloc_d 12 rfl 46 rfl iT _ HiT.out HzT.out ?_ ?_)
       (focus rfl)
       intro g3 w3 Hg3 Hh3 hb3
       have O3 := Lib.hid (own_fr O2.out (Fr.of_below (M := NoB) hb3) (fun _ _ e => e))
       have X3 := Lib.hid (Below.tr X2.out.bel hb3)
       have h33 : Hid (w3.heap[g3]? = some (.cells (bs (List.replicate 16 0)).toArray 46 (0, 0))) := Hh3
       have E3 : Hid (g3 = w2.heap.size) := Hg3.out.1
       clear Hg3 Hh3 hb3 O2)
    | ((with_reducible refine lst_store_abs 46 (.tmp 12) (.tmp 21) rfl g3 46 (bs (List.replicate 16 0)).toArray (bs T).toArray rfl rfl h33.out (by simpa using i3.out) (by simp [bs_length, HTl.out]) (by simp; exact bs_oneCell _) ?_ ?_)
       (focus rfl)
       intro w4 Hh4 hg4
       have O4 : Hid (w4.ownsRow w0.heap.size 5 1 (.slice A1 m c1) m (bs C)) := own_fr O3.out (Fr.of_grown hg4) (fun k hk e => by have h := Z1.out.2 k hk; have := E3.out; simp at e; omega)
       have B4 : Hid (Below w.heap.size w w4) := X3.out.grown hg4 X3.out.size (fun j hj => by injection hj with hj; have := E3.out; have := Z1.out.1; have := Z0.out; omega)
       have S4 : Hid (Sl w4 (fun k => k = g3) (some ⟨g3, 0, none⟩) 16 16 T) := Sl.of_block Hh4.out rfl 16 HTl.out
       have Z4 : Hid (w0.heap.size ≤ w4.heap.size) := by have h := (Array.getElem?_eq_some_iff.1 Hh4.out).1; have := E3.out; have := Z1.out.1; show _ ≤ _; omega
       clear Hh4 hg4 O3 X3 h33)
    | (at_builtin
       refine append_bytes rfl (.tmp 22) (.tmp 23) rfl w0.heap.size A1 m c1 C rfl O4.out (some ⟨g3, 0, none⟩) 16 16 T rfl HTl.out S4.out.rd (by omega) Z4.out ?_
       intro A5 c5 w5 hown5 hg5 hor5
       have O5 := Lib.hid hown5
       have B5 : Hid (Below w.heap.size w w5) := B4.out.grown hg5 B4.out.size (fun j hj => by have h := (O4.out.lt j hj).1; have := Z0.out; omega)
       clear hown5 hg5 hor5))
  go_ret
  refine ⟨A5, _, c5, rfl, own_mono ?_ Z0.out, B5.out⟩
  have h := O5.out
  unfold sealL
  rw [← HC.out, ← HT.out]; exact h
end Go.Proofs.Ytklclbppdoahjaa
