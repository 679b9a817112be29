/- Scan: plain: the frames in front, one behind the other. -/
import Derived.Test.YtmdnlgfngpgfnaaDoorFr5
namespace Go.Proofs.YtmdnlgfngpgfnaaDoor

theorem getP_fit (l : List UInt8) (h : (getP l).e = 0) : (getP l).n ≤ l.length ∧ 9 ≤ (getP l).n ∧ (getP l).n = (getP l).body.length + 9 ∧ (getP l).body.length ≤ 2039 ∧ 1 ≤ (getP l).k ∧ (getP l).k ≤ 255 := by
  rcases wholeP_cases l with hn | ⟨h0, hN, hf⟩
  · unfold getP at h
    rw [if_pos (by omega)] at h
    simp only at h
    omega
  · unfold getP at h ⊢
    rw [if_neg (by omega)] at h ⊢
    split at h
    · cases h
    · rename_i hx
      rw [if_neg hx]
      have hk : 1 ≤ (l.headD 0).toNat ∧ (l.headD 0).toNat ≤ 255 := by
        match l, h0 with
        | [], h0 => simp [wholeP] at h0
        | k :: l, h0 =>
          have hk0 : k ≠ 0 := by
            rintro rfl
            unfold wholeP at h0
            split at h0
            · cases h0
            · simp at h0
          have h1 := k.toNat_lt
          have h2 : k.toNat ≠ 0 := fun e => hk0 (UInt8.toNat_inj.1 (by simpa using e))
          simp only [List.headD_cons]
          simp only [Nat.reducePow] at h1
          omega
      have hl : ((l.drop 5).take (wholeP l).2).length = (wholeP l).2 := by rw [List.length_take, List.length_drop]; omega
      refine ⟨?_, ?_, ?_, ?_, ?_, ?_⟩
      · show (wholeP l).2 + 9 ≤ l.length; omega
      · show 9 ≤ (wholeP l).2 + 9; omega
      · show (wholeP l).2 + 9 = ((l.drop 5).take (wholeP l).2).length + 9; omega
      · show ((l.drop 5).take (wholeP l).2).length ≤ 2039; omega
      · show (1 : Int) ≤ ((l.headD 0).toNat : Nat); omega
      · show (((l.headD 0).toNat : Nat) : Int) ≤ 255; omega

/-- what is left behind k frames -/
def restF (l : List UInt8) : Nat → List UInt8
  | 0 => l
  | k + 1 => (restF l k).drop (getP (restF l k)).n
def scanF : Nat → List UInt8 → List Got
  | 0, _ => []
  | f + 1, l => if (getP l).e = 0 then getP l :: scanF f (l.drop (getP l).n) else []
/-- the frames in front -/
def scanP (l : List UInt8) : List Got := scanF (l.length + 1) l
theorem restF_succ (l : List UInt8) : ∀ k, restF l (k + 1) = restF (l.drop (getP l).n) k
  | 0 => rfl
  | k + 1 => by
    show (restF l (k + 1)).drop (getP (restF l (k + 1))).n = _
    rw [restF_succ l k]; rfl
theorem scanF_at : ∀ (f : Nat) (l : List UInt8), l.length < f → (∀ k g, (scanF f l)[k]? = some g → getP (restF l k) = g ∧ g.e = 0) ∧ (getP (restF l (scanF f l).length)).e ≠ 0
  | 0, _, h => by omega
  | f + 1, l, h => by
    by_cases he : (getP l).e = 0
    · have hfit := getP_fit l he
      have ih := scanF_at f (l.drop (getP l).n) (by rw [List.length_drop]; omega)
      have e : scanF (f + 1) l = getP l :: scanF f (l.drop (getP l).n) := by rw [scanF, if_pos he]
      rw [e]
      refine ⟨fun k g hk => ?_, ?_⟩
      · match k with
        | 0 =>
          have : getP l = g := by simpa using hk
          exact ⟨this, by rw [← this]; exact he⟩
        | k + 1 => rw [restF_succ]; exact ih.1 k g (by simpa using hk)
      · rw [List.length_cons, restF_succ]; exact ih.2
    · have e : scanF (f + 1) l = [] := by rw [scanF, if_neg he]
      rw [e]
      exact ⟨fun k g hk => by simp at hk, he⟩
theorem scan_at (l : List UInt8) {k : Nat} (h : k < (scanP l).length) : getP (restF l k) = (scanP l)[k] ∧ (scanP l)[k].e = 0 :=
  (scanF_at (l.length + 1) l (by omega)).1 k _ (List.getElem?_eq_getElem h)
theorem scan_end (l : List UInt8) : (getP (restF l (scanP l).length)).e ≠ 0 := (scanF_at (l.length + 1) l (by omega)).2
/-- how many bytes the first k have -/
def atF (l : List UInt8) (k : Nat) : Nat := (((scanP l).take k).map (·.n)).sum
theorem atF_succ (l : List UInt8) {k : Nat} (h : k < (scanP l).length) : atF l (k + 1) = atF l k + (scanP l)[k].n := by
  unfold atF
  rw [List.take_succ_eq_append_getElem h, List.map_append, List.sum_append]
  simp
theorem restF_drop (l : List UInt8) : ∀ k, k ≤ (scanP l).length → restF l k = l.drop (atF l k) ∧ atF l k ≤ l.length
  | 0, _ => by simp [restF, atF]
  | k + 1, h => by
    obtain ⟨h1, h2⟩ := restF_drop l k (by omega)
    obtain ⟨h3, h4⟩ := scan_at l (show k < (scanP l).length by omega)
    have hfit := getP_fit (restF l k) (by rw [h3]; exact h4)
    rw [h3] at hfit
    rw [h1, List.length_drop] at hfit
    refine ⟨?_, ?_⟩
    · show (restF l k).drop _ = _
      rw [h3, h1, List.drop_drop, atF_succ l (by omega)]
    · rw [atF_succ l (by omega)]; omega
theorem scanF_len : ∀ (f : Nat) (l : List UInt8), 9 * (scanF f l).length ≤ l.length
  | 0, _ => by simp [scanF]
  | f + 1, l => by
    rw [scanF]
    split
    · rename_i he
      have hfit := getP_fit l he
      have ih := scanF_len f (l.drop (getP l).n)
      rw [List.length_drop] at ih
      rw [List.length_cons]; omega
    · simp
theorem scan_len (l : List UInt8) : 9 * (scanP l).length ≤ l.length := scanF_len _ l
end Go.Proofs.YtmdnlgfngpgfnaaDoor
