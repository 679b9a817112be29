/- BoxBack's plain law: what was sealed begins with its number. -/
import Derived.Test.YtnejcciociinmaaBoxBl
import Derived.Test.YtnejcciociinmaaBox4
import Derived.Test.YtnejcciociinmaaReg
namespace Go.Proofs.Ytnejcciociinmaa
open Go.RowKit

theorem Try.szK : (Try.prog.info? 38).map (·.size) = some 32 := by kernel_rfl
theorem Try.szN : (Try.prog.info? 40).map (·.size) = some 12 := by kernel_rfl
theorem Try.inK0 : (Try.prog.info? 38).map (fun i => (i.zero, i.size, i.bytes)) = some (some (.agg (bs (List.replicate 32 0)).toArray), 32, 32) := by kernel_rfl
theorem Try.inN0 : (Try.prog.info? 40).map (fun i => (i.zero, i.size, i.bytes)) = some (some (.agg (bs (List.replicate 12 0)).toArray), 12, 12) := by kernel_rfl
theorem xor_ne (x y : UInt8) (h : y ≠ 0) : x ^^^ y ≠ x := by
  intro e
  apply h
  have := congrArg (fun z => x ^^^ z) e
  simpa [← UInt8.xor_assoc] using this
theorem le_le8 (v : Nat) (h : v < 65536) : le (le8 v) = v := by
  have e : le8 v = [UInt8.ofNat (v / 1 % 256), UInt8.ofNat (v / 256 % 256), UInt8.ofNat (v / 65536 % 256), UInt8.ofNat (v / 16777216 % 256), UInt8.ofNat (v / 4294967296 % 256), UInt8.ofNat (v / 1099511627776 % 256), UInt8.ofNat (v / 281474976710656 % 256), UInt8.ofNat (v / 72057594037927936 % 256)] := rfl
  rw [e]
  simp only [le, List.foldr_cons, List.foldr_nil, UInt8.toNat_ofNat']
  omega
theorem numI_seal (v p : Nat) (src : List UInt8) (h : v < 65536) : numI (sealOf v p src) 0 = (v : Int) := by
  unfold numI sealOf
  have e : ((le8 v ++ drawn (8 + p) src).take 8).drop 0 = le8 v := by
    rw [List.drop_zero, List.take_append_of_le_length (by simp [le8]), List.take_of_length_le (by simp [le8])]
  rw [e, le_le8 v h]
  unfold wrap64; omega
theorem numOf_seal (v p n : Nat) (src : List UInt8) (h : v < n) (hn : n ≤ 1000) : numOf (sealOf v p src) n = (v : Int) := by
  unfold numOf
  rw [numI_seal v p src (by omega), if_neg (by rw [sealOf_len]; omega), if_neg (by omega), if_neg (by omega)]
/-- what all leaves -/
def GoodSt (s : St) (l : List Th) : Prop := s.rows.length = l.length ∧ s.outs.length = l.length ∧
  ∀ i t, l[i]? = some t → ∃ src, s.rows[i]? = some ⟨t.k, t.n, t.head, t.plain, sealOf i t.plain.length src⟩ ∧ s.outs[i]? = some (sealOf i t.plain.length src)
theorem GoodSt.step {s : St} {l : List Th} (h : GoodSt s l) (t : Th) : GoodSt (s.step t) (l ++ [t]) := by
  obtain ⟨h1, h2, h3⟩ := h
  refine ⟨by simp [St.step, h1], by simp [St.step, h2], fun i u hu => ?_⟩
  rcases Nat.lt_or_ge i l.length with hi | hi
  · rw [List.getElem?_append_left hi] at hu
    obtain ⟨src, r1, r2⟩ := h3 i u hu
    exact ⟨src, by simp only [St.step]; rw [List.getElem?_append_left (by omega)]; exact r1, by simp only [St.step]; rw [List.getElem?_append_left (by omega)]; exact r2⟩
  · rw [List.getElem?_append_right hi] at hu
    have hi0 : i = l.length := by
      have := (List.getElem?_eq_some_iff.1 hu).1
      simp at this; omega
    subst hi0
    simp at hu
    subst hu
    refine ⟨s.src, ?_, ?_⟩
    · simp only [St.step]; rw [List.getElem?_append_right (by omega), h1]; simp
    · simp only [St.step]; rw [List.getElem?_append_right (by omega), h1, h2]; simp
theorem GoodSt.all_ (l : List Th) (src : List UInt8) : GoodSt ((⟨src, [], []⟩ : St).all l) l := by
  have key : ∀ k, k ≤ l.length → GoodSt ((⟨src, [], []⟩ : St).all (l.take k)) (l.take k) := by
    intro k
    induction k with
    | zero => intro _; exact ⟨rfl, rfl, fun i t h => by simp at h⟩
    | succ k ih =>
      intro hk
      rw [St.all_take _ l k (by omega), List.take_succ_eq_append_getElem (by omega)]
      exact (ih (by omega)).step _
  have := key l.length (Nat.le_refl _)
  rwa [List.take_length] at this
theorem GoodSt.own {s : St} {l : List Th} (h : GoodSt s l) (hl : l.length ≤ 1000) {i : Nat} (hi : i < l.length) {o : List UInt8} (ho : s.outs[i]? = some o) :
    openP s.rows l[i].k l[i].n l[i].head o = some l[i].plain ∧ o.length = 16 + l[i].plain.length := by
  obtain ⟨h1, h2, h3⟩ := h
  obtain ⟨src, r1, r2⟩ := h3 i l[i] (List.getElem?_eq_getElem hi)
  rw [r2] at ho; injection ho with ho; subst ho
  refine ⟨?_, sealOf_len _ _ _⟩
  unfold openP
  rw [numOf_seal i _ _ _ (by omega) (by omega), if_neg (by omega), Int.toNat_natCast, r1]
  simp
theorem GoodSt.other {s : St} {l : List Th} (h : GoodSt s l) (hl : l.length ≤ 1000) {i : Nat} (hi : i < l.length) {o : List UInt8} (ho : s.outs[i]? = some o) (k n head : List UInt8)
    (hne : k ≠ l[i].k ∨ n ≠ l[i].n ∨ head ≠ l[i].head) : openP s.rows k n head o = none := by
  obtain ⟨h1, h2, h3⟩ := h
  obtain ⟨src, r1, r2⟩ := h3 i l[i] (List.getElem?_eq_getElem hi)
  rw [r2] at ho; injection ho with ho; subst ho
  unfold openP
  rw [numOf_seal i _ _ _ (by omega) (by omega), if_neg (by omega), Int.toNat_natCast, r1]
  simp only
  rw [if_neg]
  simp only [Bool.and_eq_true, beq_iff_eq, not_and]
  intro ⟨⟨e1, e2⟩, e3⟩
  rcases hne with e | e | e
  · exact absurd e1.symm e
  · exact absurd e2.symm e
  · exact absurd e3.symm e
theorem GoodSt.strange {s : St} {l : List Th} (h : GoodSt s l) (other : List UInt8) (hne : ∀ (i : Nat) o, s.outs[i]? = some o → o ≠ other) (k n head : List UInt8) : openP s.rows k n head other = none := by
  obtain ⟨h1, h2, h3⟩ := h
  unfold openP
  split
  · rfl
  · split
    · rename_i r hr
      rw [if_neg]
      intro hc
      simp only [Bool.and_eq_true, beq_iff_eq] at hc
      have hi := (List.getElem?_eq_some_iff.1 hr).1
      obtain ⟨src, r1, r2⟩ := h3 _ _ (List.getElem?_eq_getElem (by omega : (numOf other s.rows.length).toNat < l.length))
      rw [r1] at hr; injection hr with hr; subst hr
      exact hne _ _ r2 hc.2
    · rfl
theorem GoodSt.apart {s : St} {l : List Th} (h : GoodSt s l) (hl : l.length ≤ 1000) {i k : Nat} {o q : List UInt8} (ho : s.outs[i]? = some o) (hq : s.outs[k]? = some q) (hk : k < i) : o ≠ q := by
  obtain ⟨h1, h2, h3⟩ := h
  have hi := (List.getElem?_eq_some_iff.1 ho).1
  obtain ⟨src, _, r2⟩ := h3 i _ (List.getElem?_eq_getElem (by omega : i < l.length))
  obtain ⟨src', _, r2'⟩ := h3 k _ (List.getElem?_eq_getElem (by omega : k < l.length))
  rw [r2] at ho; injection ho with ho
  rw [r2'] at hq; injection hq with hq
  intro e
  have e1 := numOf_seal i (l[i]'(by omega)).plain.length l.length src (by omega) hl
  have e2 := numOf_seal k (l[k]'(by omega)).plain.length l.length src' (by omega) hl
  rw [ho, e, ← hq, e2] at e1
  omega
end Go.Proofs.Ytnejcciociinmaa
