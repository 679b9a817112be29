/- ChachaBack's walk. -/
import Derived.Test.YtobbcnajmocpfaaCh11
import Derived.Test.YtobbcnajmocpfaaOpnA
namespace Go.Proofs.Ytobbcnajmocpfaa
open Go.RowKit
attribute [local go_sem] yld yldUpon_value

theorem rangeAt_fr {w w' : World} {g o : Nat} {cs : List Value} {M : Nat → Prop} (h : w.rangeAt g o cs) (hf : Fr M w w') (hM : ¬ M g) (hlt : g < w.heap.size) : w'.rangeAt g o cs := fun j v hv => by
  rw [World.cell?_of_block (w := w) (hf.block g hlt hM)]; exact h j v hv
theorem xorP_get {key nonce : List UInt8} {ctr : BitVec 32} {b : List UInt8} {j : Nat} (h : j < b.length) : (xorP key ctr nonce b)[j]? = some (b[j] ^^^ ksP key ctr nonce j) := by
  unfold xorP
  rw [List.getElem?_map, List.getElem?_range h]
  simp only [Option.map_some]
  rw [getD_eq h]
theorem xorP_back (key nonce : List UInt8) (ctr : BitVec 32) (b : List UInt8) : xorP key ctr nonce (xorP key ctr nonce b) = b := by
  apply List.ext_getElem?
  intro j
  rcases Nat.lt_or_ge j b.length with h | h
  · have h1 : j < (xorP key ctr nonce b).length := by rw [xorP_len]; exact h
    rw [xorP_get h1, List.getElem?_eq_getElem h]
    have e := xorP_get (key := key) (nonce := nonce) (ctr := ctr) h
    rw [List.getElem?_eq_getElem h1] at e
    rw [Option.some.inj e]
    congr 1
    rw [UInt8.xor_assoc, UInt8.xor_self, UInt8.xor_zero]
  · rw [List.getElem?_eq_none (by rw [xorP_len, xorP_len]; exact h), List.getElem?_eq_none h]

set_option maxRecDepth 100000 in
set_option maxHeartbeats 4000000 in
theorem ChachaBack_any (w : World) (key nonce : List UInt8) (ctr : BitVec 32) (hk : key.length = 32) (hn : nonce.length = 12) {A : Option Addr} {n c : Nat} {b : List UInt8} (hs : Sl w (Old w) A n c b) (hb : n ≤ 140737488355000) :
    Calls Try.prog 5 #[.agg (bs key).toArray, .int .u32 (wv ctr), .agg (bs nonce).toArray, .slice A n c] w fun e w' => e = .returned (.bool true) ∧ Below w.heap.size w w' := by
  have Hs := Lib.hid hs; have Hk := Lib.hid hk; have Hn := Lib.hid hn; have Hb := Lib.hid hb; have HL := Lib.hid hs.len
  have u1 := Lib.hid Try.underlying23
  have u2 := Lib.hid Try.underlying26
  have i1 : Hid ((Try.prog.info? 23).map (·.size) = some (bs key).length) := by rw [bs_length, hk]; exact Try.sizeK
  have i2 : Hid ((Try.prog.info? 26).map (·.size) = some (bs nonce).length) := by rw [bs_length, hn]; exact Try.sizeN
  clear hs hk hn hb
  have hK2 := Lib.hid (range_block (heap_alloc2_old w (.cells (bs key).toArray 23) (.cells (bs nonce).toArray 26)))
  have hN2 := Lib.hid (range_block (heap_alloc2_new w (.cells (bs key).toArray 23) (.cells (bs nonce).toArray 26)))
  have hB2 : Hid (Below w.heap.size w ((w.alloc (.cells (bs key).toArray 23)).alloc (.cells (bs nonce).toArray 26))) := ((Below.refl _ _).alloc (Nat.le_refl _) _).alloc (by simp) _
  have hz2 : Hid (((w.alloc (.cells (bs key).toArray 23)).alloc (.cells (bs nonce).toArray 26)).heap.size = w.heap.size + 2) := by show _ = _; simp
  by_cases hc : 8192 < n
  · have hcI : (8192 : Int) < (n : Int) := by omega
    go_enter Try.func5, Try.ntmps5
    go_wp2_with fail
    refine (works_any _).mono ?_
    rintro e w3 ⟨rfl, hb3⟩
    go_wp2_with fail
    go_ret
    exact ⟨rfl, hB2.out.trans (hb3.mono (by have := hz2.out; omega))⟩
  · have hcI : decide ((8192 : Int) < (n : Int)) = false := decide_eq_false (by omega)
    have Hc := Lib.hid hc
    clear hc
    go_enter Try.func5, Try.ntmps5
    go_wp2_with (first
      | ((with_reducible refine lst_load_mid 23 (.tmp 4) rfl w.heap.size 0 rfl (bs key) _ hK2.out u1.out rfl i1.out ?_ ?_)
         (focus rfl))
      | ((with_reducible refine lst_load_mid 26 (.tmp 6) rfl (w.heap.size + 1) 0 rfl (bs nonce) _ hN2.out u2.out rfl i2.out ?_ ?_)
         (focus rfl)))
    generalize ((w.alloc (.cells (bs key).toArray 23)).alloc (.cells (bs nonce).toArray 26)) = w2 at hK2 hN2 hB2 hz2 ⊢
    have s2 : Hid (Sl w2 (Old w) A n c b) := Hs.out.fr (Fr.of_below (M := NoB) hB2.out) (fun k hk => ⟨hk, id⟩)
    have ho2 : Hid (∀ k, Old w k → k < w2.heap.size) := fun k hk => by have := hz2.out; have hk : k < w.heap.size := hk; omega
    refine (Xor_any w2 key nonce ctr Hk.out Hn.out s2.out ho2.out (by have := Hc.out; omega)).mono ?_
    rintro e w3 ⟨A3, c3, rfl, hown3, hb3⟩
    have k3 : Hid (w3.rangeAt w.heap.size 0 (bs key)) := rangeAt_fr hK2.out (Fr.of_below (M := NoB) hb3) id (by have := hz2.out; omega)
    have n3 : Hid (w3.rangeAt (w.heap.size + 1) 0 (bs nonce)) := rangeAt_fr hN2.out (Fr.of_below (M := NoB) hb3) id (by have := hz2.out; omega)
    have hcmp : ((n : Int) == (n : Int)) = true := by simp
    go_wp2_with (first
      | ((with_reducible refine lst_load_mid 23 (.tmp 4) rfl w.heap.size 0 rfl (bs key) _ k3.out u1.out rfl i1.out ?_ ?_)
         (focus rfl))
      | ((with_reducible refine lst_load_mid 26 (.tmp 6) rfl (w.heap.size + 1) 0 rfl (bs nonce) _ n3.out u2.out rfl i2.out ?_ ?_)
         (focus rfl)))
    have s3 := Lib.hid (Sl.of_own hown3)
    have W3 : Hid (Below w.heap.size w w3) := hB2.out.trans (hb3.mono (by have := hz2.out; omega))
    have b3 : Hid (Sl w3 (Old w) A n c b) := Hs.out.fr (Fr.of_below (M := NoB) W3.out) (fun k hk => ⟨hk, id⟩)
    refine (Xor_any w3 key nonce ctr Hk.out Hn.out s3.out (fun k hk => hk.2.1) (by have := Hc.out; omega)).mono ?_
    rintro e w4 ⟨A4, c4, rfl, hown4, hb4⟩
    have s4 := Lib.hid (Sl.of_own hown4)
    have W4 : Hid (Below w.heap.size w w4) := W3.out.trans (hb4.mono W3.out.size)
    have b4 : Hid (Sl w4 (Old w) A n c b) := Hs.out.fr (Fr.of_below (M := NoB) W4.out) (fun k hk => ⟨hk, id⟩)
    clear hown3 hb3 hown4 hb4
    go_wp2_with fail
    refine (Same_at s4.out b4.out (by have := Hc.out; omega) (by have := Hc.out; omega) true (by rw [xorP_back]; simp)).mono ?_
    rintro e w5 ⟨rfl, x, rfl⟩
    go_wp2_with fail
    refine (works_any _).mono ?_
    rintro e w6 ⟨rfl, hb6⟩
    go_wp2_with fail
    go_ret
    exact ⟨rfl, (below_drewN W4.out x).trans (hb6.mono W4.out.size)⟩
theorem ChachaBackW_any (w : World) (key : List UInt8) (hk : key.length = 32) (ctr : Int) (hc : (Lit.int .u32 ctr).wf = true) (nonce : List UInt8) (hn : nonce.length = 12) {A : Option Addr} {n c : Nat} {l : List UInt8} (hs : Sl w (Old w) A n c l) (hb : n ≤ 140737488355000) :
    Calls Try.prog 5 #[.agg (bs key).toArray, .int .u32 ctr, .agg (bs nonce).toArray, .slice A n c] w fun e w' => e = .returned (.bool true) ∧ Below w.heap.size w w' := by
  rw [word_of_wf hc]
  exact ChachaBack_any w key nonce _ hk hn hs hb
end Go.Proofs.Ytobbcnajmocpfaa
