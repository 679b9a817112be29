/- Aead: tag. -/
import Derived.Test.YtklclbppdoahjaaAe3
namespace Go.Proofs.Ytklclbppdoahjaa
set_option maxRecDepth 100000
open Go.RowKit
attribute [local go_sem] yld yldUpon_value

/-- what is summed -/
def aeadT (head c : List UInt8) : List UInt8 := (padL (padL head ++ c) ++ leB 8 head.length) ++ leB 8 c.length
theorem padL_len (l : List UInt8) : (padL l).length ≤ l.length + 15 := by unfold padL; rw [List.length_append, List.length_replicate]; omega
def aeadTag (ky nc head c : List UInt8) : List UInt8 := tagL (onceL ky nc) (aeadT head c)
theorem aeadTag_len (ky nc head c : List UInt8) : (aeadTag ky nc head c).length = 16 := tagL_len _ _
theorem Fr.toB {w w' : World} (h : Fr (fun k => w.heap.size ≤ k) w w') : Below w.heap.size w w' := h.to_below (fun i hi e => by have e' : w.heap.size ≤ i := e; omega)
set_option maxHeartbeats 8000000 in
theorem tag_any {w : World} {ky nc : List UInt8} (hk : ky.length = 32) (hn : nc.length = 12) {F G : Nat → Prop} {A B : Option Addr} {n c m d : Nat} {head ci : List UInt8} (h1 : Sl w F A n c head) (hF : ∀ k, F k → k < w.heap.size) (h2 : Sl w G B m d ci) (hG : ∀ k, G k → k < w.heap.size) (hb1 : n ≤ 10000000) (hb2 : m ≤ 10000000) :
    Calls Try.prog 25 #[.agg (bs ky).toArray, .agg (bs nc).toArray, .slice A n c, .slice B m d] w fun e w' => e = .returned (.agg (bs (aeadTag ky nc head ci)).toArray) ∧ Below w.heap.size w w' := by
  have HK := Lib.hid hk; have HN := Lib.hid hn; have H1 := Lib.hid h1; have H2 := Lib.hid h2; have HF := Lib.hid hF; have HG := Lib.hid hG
  have L1 := Lib.hid h1.len; have L2 := Lib.hid h2.len
  clear hk hn h1 h2 hF hG
  obtain ⟨iT, hiT, zT, _, _⟩ := info_parts Try.infoTag
  have HiT := Lib.hid hiT; have HzT := Lib.hid zT
  clear hiT zT
  have uK := Lib.hid Try.underlying23
  have uN := Lib.hid Try.underlying25
  have uT := Lib.hid Try.underlying46
  have i1 : Hid ((Try.prog.info? 23).map (·.size) = some (bs ky).length) := by rw [bs_length, HK.out]; exact Try.sizeKey
  have i2 : Hid ((Try.prog.info? 25).map (·.size) = some (bs nc).length) := by rw [bs_length, HN.out]; exact Try.sizeN
  obtain ⟨T, hT⟩ : ∃ T, T = aeadTag ky nc head ci := ⟨_, rfl⟩
  have HTe : Hid (tagL (onceL ky nc) (aeadT head ci) = T) := hT.symm
  have HTl : Hid (T.length = 16) := by rw [hT]; exact aeadTag_len _ _ _ _
  rw [← hT]
  have i3 : Hid ((Try.prog.info? 46).map (·.size) = some (bs T).length) := by rw [bs_length, HTl.out]; exact Try.sizeTag
  have H0 : Hid (Has w ((w.alloc (.cells (bs ky).toArray 23)).alloc (.cells (bs nc).toArray 25)) [(w.heap.size + 1, .cells (bs nc).toArray 25 (0, 0)), (w.heap.size, .cells (bs ky).toArray 23 (0, 0))]) := by
    have h1 : Has w (w.alloc (.cells (bs ky).toArray 23)) [(w.heap.size, .cells (bs ky).toArray 23 (0, 0))] := (Has.start (Below.refl _ w)).new (Below.al _ _) (Nat.le_refl _) (heap_alloc_new w _)
    have h2 := heap_alloc_new (w.alloc (.cells (bs ky).toArray 23)) (.cells (bs nc).toArray 25)
    rw [World.size_alloc] at h2
    exact h1.new (Below.al _ _) (by rw [World.size_alloc]; exact Nat.le_refl _) h2
  clear hT
  go_enter Try.func25, Try.ntmps25
  go_wp2_with (
    (with_reducible refine lst_alloc_d 8 rfl 46 rfl iT _ HiT.out HzT.out ?_ ?_)
    (focus rfl)
    intro g8 w1 Hg8 Hh8 hb8
    have X1 : Hid (Has w w1 [(g8, .cells (bs (List.replicate 16 0)).toArray 46 (0, 0)), (w.heap.size + 1, .cells (bs nc).toArray 25 (0, 0)), (w.heap.size, .cells (bs ky).toArray 23 (0, 0))]) := H0.out.new hb8 (Nat.le_of_eq Hg8.out.1.symm) Hh8.out
    clear Hg8 Hh8 hb8 H0)
  have S1 := Lib.hid (H1.out.belF X1.out.bel HF.out)
  refine (fill_any (l := []) (World.ownsRow_nil w1 w1.heap.size _ _) (Nat.le_refl _) S1.out (by omega)).mono ?_
  rintro e w2 ⟨A2, n2, c2, rfl, ho2, hf2⟩
  rw [List.nil_append] at ho2
  have hn2 : n2 = (padL head).length := by have := ho2.1; rw [bs_length] at this; omega
  have hb2' : n2 ≤ 10000015 := by rw [hn2]; have := padL_len head; have := L1.out; omega
  have O2 := Lib.hid ho2; have F2 := Lib.hid hf2
  have X2 : Hid (Has w w2 _) := Lib.hid (X1.out.bl hf2.toB)
  have S2 := Lib.hid (H2.out.belF X2.out.bel HG.out)
  clear ho2 hf2 hn2 S1
  go_wp2_with fail
  refine (fill_any O2.out F2.out.size S2.out (by omega)).mono ?_
  rintro e w3 ⟨A3, n3, c3, rfl, ho3, hf3⟩
  have hn3 : n3 = (padL (padL head ++ ci)).length := by have := ho3.1; rw [bs_length] at this; omega
  have hb3 : n3 ≤ 20000100 := by rw [hn3]; have h := padL_len (padL head ++ ci); rw [List.length_append] at h; have := padL_len head; have := L1.out; have := L2.out; omega
  have O3 := Lib.hid ho3; have F3 := Lib.hid (F2.out.tr hf3)
  clear ho3 hf3 hn3 O2 F2 X2 S2
  go_wp2_with fail
  refine (length_any O3.out F3.out.size n (by omega) (by omega)).mono ?_
  rintro e w4 ⟨A4, c4, rfl, ho4, hf4⟩
  have O4 := Lib.hid ho4; have F4 := Lib.hid (F3.out.tr hf4)
  obtain ⟨n4, hn4⟩ : ∃ n4, n4 = n3 + 8 := ⟨_, rfl⟩
  rw [← hn4] at O4 ⊢
  have hb4 : n4 ≤ 20000200 := by omega
  clear ho4 hf4 O3 F3 hn4
  go_wp2_with fail
  refine (length_any O4.out F4.out.size m (by omega) (by omega)).mono ?_
  rintro e w5 ⟨A5, c5, rfl, ho5, hf5⟩
  have F5 := Lib.hid (F4.out.tr hf5)
  obtain ⟨n5, hn5⟩ : ∃ n5, n5 = n4 + 8 := ⟨_, rfl⟩
  rw [← hn5] at ho5 ⊢
  have hb5 : n5 ≤ 20000300 := by omega
  have O5 : Hid (w5.ownsRow w1.heap.size 5 1 (.slice A5 n5 c5) n5 (bs (aeadT head ci))) := by
    unfold aeadT; rw [L1.out, L2.out]; exact ho5
  have X5 : Hid (Has w w5 [(g8, .cells (bs (List.replicate 16 0)).toArray 46 (0, 0)), (w.heap.size + 1, .cells (bs nc).toArray 25 (0, 0)), (w.heap.size, .cells (bs ky).toArray 23 (0, 0))]) := X1.out.bl F5.out.toB
  have r1 : Hid (w5.rangeAt w.heap.size 0 (bs ky)) := range_block (X5.out.get (by simp) : w5.heap[w.heap.size]? = some (.cells (bs ky).toArray 23 (0, 0)))
  have r2 : Hid (w5.rangeAt (w.heap.size + 1) 0 (bs nc)) := range_block (X5.out.get (by simp) : w5.heap[w.heap.size + 1]? = some (.cells (bs nc).toArray 25 (0, 0)))
  clear ho5 hf5 O4 F4 F5 hn5 X1
  go_wp2_with (first
    | ((with_reducible refine lst_load_mid 23 (.tmp 4) rfl w.heap.size 0 rfl (bs ky) _ r1.out uK.out rfl i1.out ?_ ?_)
       (focus rfl))
    | ((with_reducible refine lst_load_mid 25 (.tmp 5) rfl (w.heap.size + 1) 0 rfl (bs nc) _ r2.out uN.out rfl i2.out ?_ ?_)
       (focus rfl)))
  clear r1 r2
  refine (once_any w5 HK.out HN.out).mono ?_
  rintro e w6 ⟨rfl, hb6⟩
  have X6 := Lib.hid (X5.out.bl hb6)
  have S6 := Lib.hid ((Sl.of_own O5.out).belF hb6 (fun k hk => hk.2.1))
  have Z6 : Hid (w5.heap.size ≤ w6.heap.size) := hb6.size
  clear hb6 X5 O5
  go_wp2_with fail
  refine (Sum_any S6.out (fun k hk => Nat.lt_of_lt_of_le hk.2.1 Z6.out) (by omega) (onceL_len ky nc)).mono ?_
  rintro e w7 ⟨rfl, hb7⟩
  rw [HTe.out]
  have X7 := Lib.hid (X6.out.bl hb7)
  have h78 : Hid (w7.heap[g8]? = some (.cells (bs (List.replicate 16 0)).toArray 46 (0, 0))) := X7.out.get (by simp)
  have L8 : Hid (w.heap.size ≤ g8) := X7.out.ge (g := g8) (o := .cells (bs (List.replicate 16 0)).toArray 46 (0, 0)) (by simp)
  clear hb7 X6 S6 Z6
  go_wp2_with (
    (with_reducible refine lst_store_abs 46 (.tmp 8) (.tmp 24) rfl g8 46 (bs (List.replicate 16 0)).toArray (bs T).toArray rfl rfl h78.out (by simpa using i3.out) (by simp [bs_length, HTl.out]) (by simp; exact bs_oneCell _) ?_ ?_)
    (focus rfl)
    intro w8 Hh8 hg8)
  refine bodyPost_ret (v := .agg (bs T).toArray) ?_ rfl ⟨rfl, ?_⟩
  · exact results_cell Try.results25 rfl (run_loadVar_mid w8 g8 0 46 (bs T) _ (range_block Hh8.out) uT.out rfl i3.out)
  · exact X7.out.bel.grown hg8 X7.out.bel.size (fun j hj => by injection hj with hj; have := L8.out; omega)
end Go.Proofs.Ytklclbppdoahjaa
