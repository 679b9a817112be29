/- DiskStrikes, plainly; two disks beside each other. -/
import Derived.Test.YtjfnpndpigpaiaaDk16
namespace Go.Proofs.Ytjfnpndpigpaiaa
open Go.RowKit

/-- a disk that holds bytes in its file 3 -/
def thD (c : List UInt8) (k : Nat) (off : Bool) (left : Int) (done : Nat) : DD := ⟨16384, (List.replicate 33 FF0).set 3 ⟨c, k⟩, off, left, done⟩
theorem th_used (x : FF) : usedL ((List.replicate 33 FF0).set 3 x) = x.d.length := by
  have h := usedL_set (List.replicate 33 FF0) 3 x (by decide)
  have e : usedL (List.replicate 33 FF0) = 0 := by decide
  have e2 : ((List.replicate 33 FF0).getD 3 FF0).d.length = 0 := by decide
  omega
theorem th_ok {c : List UInt8} (hc : c.length ≤ 16384) {k : Nat} (hk : k ≤ c.length) (off : Bool) {left : Int} (h1 : -1 ≤ left) (h2 : left ≤ 9223372036854775807) (done : Nat) : DOK (thD c k off left done) := by
  refine ⟨rfl, by show (16384 : Nat) ≤ 262144; decide, by rw [show (thD c k off left done).fs = (List.replicate 33 FF0).set 3 ⟨c, k⟩ from rfl, th_used]; exact hc, fun f hf => ?_, h1, h2⟩
  rcases List.mem_or_eq_of_mem_set hf with hf | rfl
  · rw [List.eq_of_mem_replicate hf]; exact Nat.le_refl _
  · exact hk
theorem th_write (c b : List UInt8) (hb : c.length + b.length ≤ 16384) (left : Int) (done : Nat) : writeD (thD c 0 false left done) 3 b =
    if left = 0 then (9, thD (c ++ b) 0 true (-1) (done + 1)) else (0, thD (c ++ b) 0 false (max (-1) (left - 1)) (done + 1)) := by
  have hw : writeR (thD c 0 false left done) 3 b = 0 := by
    unfold writeR
    rw [if_pos (by decide), show (thD c 0 false left done).fs = (List.replicate 33 FF0).set 3 ⟨c, 0⟩ from rfl, th_used, if_neg]
    show ¬ ((b.length : Int) > ((16384 : Nat) : Int) - (c.length : Nat))
    omega
  unfold writeD
  rw [hw]
  unfold opD
  rw [if_neg (by show ¬ (false = true); decide), if_neg (by decide)]
  show (if left = 0 then _ else _) = _
  split <;> rfl
theorem th_down (c : List UInt8) (k : Nat) (left : Int) (done : Nat) (r : Int) (e : Bool) (D' : DD) : opD (thD c k true left done) r e D' = (9, thD c k true left done) := by
  unfold opD; exact if_pos rfl
theorem th_read (c : List UInt8) (k : Nat) (off : Bool) (left : Int) (done : Nat) : readD (thD c k off left done) 3 = c := rfl
theorem crash_ff0 (r : List FF) (keep : List Int) : crashL (FF0 :: r) keep = FF0 :: crashL r keep := by rw [crashL]; exact if_pos rfl
theorem crash_zero (keep : List Int) : ∀ m, crashL (List.replicate m FF0) keep = List.replicate m FF0
  | 0 => rfl
  | m + 1 => by rw [List.replicate_succ, crash_ff0, crash_zero keep m]
theorem th_crash (c : List UInt8) (hc : c.length ≤ 1048576) (off : Bool) (left : Int) (done : Nat) : crashD (thD c 0 off left done) [1048576] = thD c c.length false (-1) done := by
  have e : ∀ x : FF, (List.replicate 33 FF0).set 3 x = FF0 :: FF0 :: FF0 :: x :: List.replicate 29 FF0 := fun _ => rfl
  unfold crashD thD
  simp only [e]
  congr 1
  rw [crash_ff0, crash_ff0, crash_ff0, crashL]
  by_cases h : c.length = 0
  · rw [if_pos h, crash_zero, h]
  · rw [if_neg h, crash_zero]
    have e2 : (max 0 (min (([1048576] : List Int).headD 0) ((c.length : Int) - ((0 : Nat) : Int)))).toNat = c.length := by simp only [List.headD_cons]; omega
    unfold keepF
    simp only [e2, Nat.zero_add, List.take_length]
theorem th_new : newD 16384 = thD [] 0 false (-1) 0 := by decide
theorem th_arm (c : List UInt8) (k : Nat) (off : Bool) (left : Int) (done n : Nat) : armD (thD c k off left done) (n : Nat) = thD c k off (n : Nat) done := by
  unfold armD thD
  have e : max (-1) ((n : Nat) : Int) = n := by omega
  rw [e]
/-- the first k rows, each cut to 200 bytes -/
def catR (ls : List (List UInt8)) (k : Nat) : List UInt8 := ((ls.take k).map (·.take 200)).flatten
theorem catR_succ (ls : List (List UInt8)) (k : Nat) (h : k < ls.length) : catR ls (k + 1) = catR ls k ++ (ls[k]).take 200 := by
  unfold catR
  rw [List.take_succ_eq_append_getElem h, List.map_append, List.flatten_append]; simp
theorem catR_len (ls : List (List UInt8)) : ∀ k, (catR ls k).length ≤ 200 * k
  | 0 => by simp [catR]
  | k + 1 => by
    have ih := catR_len ls k
    by_cases h : k < ls.length
    · rw [catR_succ ls k h, List.length_append, List.length_take]; omega
    · have : catR ls (k + 1) = catR ls k := by unfold catR; rw [List.take_of_length_le (by omega), List.take_of_length_le (by omega)]
      rw [this]; omega
/-- the armed one, k rows on -/
def aS (ls : List (List UInt8)) (n k : Nat) : DD := if k ≤ n then thD (catR ls k) 0 false ((n : Int) - k) k else thD (catR ls (n + 1)) 0 true (-1) (n + 1)
def bS (ls : List (List UInt8)) (n k : Nat) : DD := thD (catR ls (min k (n + 1))) 0 false (-1) (min k (n + 1))
theorem aS_ok (ls : List (List UInt8)) (n k : Nat) (hk : k ≤ 40) (hn : n ≤ 40) : DOK (aS ls n k) := by
  unfold aS
  split
  · exact th_ok (by have := catR_len ls k; omega) (Nat.zero_le _) _ (by omega) (by omega) _
  · exact th_ok (by have := catR_len ls (n + 1); omega) (Nat.zero_le _) _ (by decide) (by decide) _
theorem bS_ok (ls : List (List UInt8)) (n k : Nat) (hk : k ≤ 40) (hn : n ≤ 40) : DOK (bS ls n k) :=
  th_ok (by have := catR_len ls (min k (n + 1)); omega) (Nat.zero_le _) _ (by decide) (by decide) _
theorem aS_step (ls : List (List UInt8)) (n k : Nat) (hk : k < ls.length) (hl : ls.length ≤ 40) : writeD (aS ls n k) 3 ((ls[k]).take 200) = (if k < n then 0 else 9, aS ls n (k + 1)) := by
  unfold aS
  by_cases h : k ≤ n
  · rw [if_pos h, th_write _ _ (by have := catR_len ls k; rw [List.length_take]; omega), ← catR_succ ls k hk]
    by_cases h2 : k = n
    · subst h2
      rw [if_pos (by omega), if_neg (by omega), if_neg (by omega)]
    · rw [if_neg (by omega), if_pos (by omega), if_pos (by omega)]
      have e : max (-1) ((n : Int) - k - 1) = (n : Int) - (k + 1 : Nat) := by omega
      rw [e]
  · rw [if_neg h, if_neg (by omega), if_neg (by omega)]
    unfold writeD
    rw [th_down]
theorem bS_step (ls : List (List UInt8)) (n k : Nat) (hk : k < ls.length) (hl : ls.length ≤ 40) (hn : k ≤ n) : writeD (bS ls n k) 3 ((ls[k]).take 200) = (0, bS ls n (k + 1)) := by
  unfold bS
  rw [show min k (n + 1) = k by omega, show min (k + 1) (n + 1) = k + 1 by omega, th_write _ _ (by have := catR_len ls k; rw [List.length_take]; omega), ← catR_succ ls k hk, if_neg (by decide)]
  rfl
theorem bS_stay (ls : List (List UInt8)) (n k : Nat) (hn : n < k) : bS ls n (k + 1) = bS ls n k := by
  unfold bS
  rw [show min (k + 1) (n + 1) = min k (n + 1) by omega]
/-- two disks beside each other -/
structure DS2 (w0 w : World) (ga : Nat) (Da : DD) (va : Vs) (gb : Nat) (Db : DD) (vb : Vs) : Prop where
  a : DS w0 w ga Da va
  b : DS w0 w gb Db vb
  dis : ∀ k, dfoot ga va k → ¬ dfoot gb vb k
theorem DS2.old {w0 w w' : World} {ga gb : Nat} {Da Db : DD} {va vb : Vs} (h : DS2 w0 w ga Da va gb Db vb) (hb : Below w.heap.size w w') : DS2 w0 w' ga Da va gb Db vb := ⟨h.a.old hb, h.b.old hb, h.dis⟩
theorem DS2.stepA {w0 w w' : World} {ga gb : Nat} {Da Db D' : DD} {va vb : Vs} (h : DS2 w0 w ga Da va gb Db vb) (hs : Dstep ga va w w' D') (ok : DOK D') : ∃ va', DS2 w0 w' ga D' va' gb Db vb := by
  obtain ⟨va', s, f, k⟩ := h.a.step hs ok
  refine ⟨va', s, ⟨h.b.disk.fr f (fun k hk hk2 => h.dis k hk2 hk), h.b.ok, h.b.foot, s.bel⟩, fun j hj hj2 => ?_⟩
  rcases k j hj with hj | hj
  · exact h.dis j hj hj2
  · have := h.b.disk.foot_lt hj2; omega
theorem DS2.swap {w0 w : World} {ga gb : Nat} {Da Db : DD} {va vb : Vs} (h : DS2 w0 w ga Da va gb Db vb) : DS2 w0 w gb Db vb ga Da va := ⟨h.b, h.a, fun k hk hk2 => h.dis k hk2 hk⟩
theorem DS2.stepB {w0 w w' : World} {ga gb : Nat} {Da Db D' : DD} {va vb : Vs} (h : DS2 w0 w ga Da va gb Db vb) (hs : Dstep gb vb w w' D') (ok : DOK D') : ∃ vb', DS2 w0 w' ga Da va gb D' vb' := by
  obtain ⟨vb', s⟩ := h.swap.stepA hs ok
  exact ⟨vb', s.swap⟩
end Go.Proofs.Ytjfnpndpigpaiaa
