/- Frames one behind the other, scanned: plain. -/
import Derived.Test.YtmdnlgfngpgfnaaDoorFrSc4
import Derived.Test.YtmdnlgfngpgfnaaDoorFrSc3
namespace Go.Proofs.YtmdnlgfngpgfnaaDoor

theorem scanF_fuel : ∀ (f f' : Nat) (l : List UInt8), l.length < f → l.length < f' → scanF f l = scanF f' l
  | 0, _, _, h, _ => by omega
  | _, 0, _, _, h => by omega
  | f + 1, f' + 1, l, h, h' => by
    rw [scanF, scanF]
    split
    · rename_i he
      have hfit := getP_fit l he
      rw [scanF_fuel f f' (l.drop (getP l).n) (by rw [List.length_drop]; omega) (by rw [List.length_drop]; omega)]
    · rfl
theorem scan_ok {l : List UInt8} (h : (getP l).e = 0) : scanP l = getP l :: scanP (l.drop (getP l).n) := by
  have hfit := getP_fit l h
  unfold scanP
  rw [scanF, if_pos h, scanF_fuel l.length ((l.drop (getP l).n).length + 1) _ (by rw [List.length_drop]; omega) (by omega)]
theorem scan_no {l : List UInt8} (h : (getP l).e ≠ 0) : scanP l = [] := by
  unfold scanP
  rw [scanF, if_neg h]
def catF (fs : List (UInt8 × List UInt8)) : List UInt8 := fs.flatMap fun f => frameB f.1 f.2
def GoodF (fs : List (UInt8 × List UInt8)) : Prop := ∀ f ∈ fs, f.1 ≠ 0 ∧ f.2.length ≤ 2039
theorem catF_cons (f : UInt8 × List UInt8) (fs : List (UInt8 × List UInt8)) : catF (f :: fs) = frameB f.1 f.2 ++ catF fs := by simp [catF]
theorem catF_append (a b : List (UInt8 × List UInt8)) : catF (a ++ b) = catF a ++ catF b := by simp [catF]
theorem scan_cat : ∀ (fs : List (UInt8 × List UInt8)) (more : List UInt8), GoodF fs → scanP (catF fs ++ more) = fs.map (fun f => ⟨0, (f.1.toNat : Nat), f.2, f.2.length + 9⟩) ++ scanP more
  | [], more, _ => by simp [catF]
  | f :: fs, more, h => by
    have hf := h f List.mem_cons_self
    have hg : getP (catF (f :: fs) ++ more) = ⟨0, (f.1.toNat : Nat), f.2, f.2.length + 9⟩ := by
      rw [catF_cons, List.append_assoc]; exact get_frame f.1 hf.1 f.2 _ hf.2
    have hd : (catF (f :: fs) ++ more).drop (f.2.length + 9) = catF fs ++ more := by
      rw [catF_cons, List.append_assoc, List.drop_left' (frameB_len _ _)]
    rw [scan_ok (by rw [hg]), hg]
    simp only
    rw [hd, scan_cat fs more (fun g hg => h g (List.mem_cons_of_mem _ hg))]
    rfl
theorem catF_len : ∀ fs : List (UInt8 × List UInt8), (catF fs).length = (fs.map fun f => f.2.length + 9).sum
  | [] => rfl
  | f :: fs => by rw [catF_cons, List.length_append, frameB_len, catF_len fs]; simp
theorem atF_all (l : List UInt8) : atF l (scanP l).length = ((scanP l).map (·.n)).sum := by
  unfold atF; rw [List.take_of_length_le (Nat.le_refl _)]
theorem scan_cat_len (fs : List (UInt8 × List UInt8)) (more : List UInt8) (h : GoodF fs) :
    fs.length ≤ (scanP (catF fs ++ more)).length ∧ (catF fs).length ≤ atF (catF fs ++ more) (scanP (catF fs ++ more)).length ∧ atF (catF fs ++ more) (scanP (catF fs ++ more)).length ≤ (catF fs).length + more.length ∧
    ∀ i, (hi : i < fs.length) → (gotF (catF fs ++ more))[i]? = some (((fs[i].1.toNat : Nat) : Int), fs[i].2) := by
  have hs := scan_cat fs more h
  have h2 := (restF_drop more (scanP more).length (Nat.le_refl _)).2
  rw [atF_all] at h2
  refine ⟨by rw [hs]; simp, ?_, ?_, fun i hi => ?_⟩
  · rw [atF_all, hs, catF_len]; simp [Function.comp_def]
  · rw [atF_all, hs, catF_len]; simp [Function.comp_def]; exact h2
  · unfold gotF
    rw [hs, List.map_append, List.map_map, List.getElem?_append_left (by simpa using hi), List.getElem?_map, List.getElem?_eq_getElem hi]
    rfl
/-- cut short -/
theorem scan_cut (fs : List (UInt8 × List UInt8)) (h : GoodF fs) (cut k : Nat) (hk : k ≤ fs.length) (h1 : (catF (fs.take k)).length ≤ cut) (_ : cut ≤ (catF fs).length) (h3 : k = fs.length ∨ cut < (catF (fs.take (k + 1))).length) :
    (scanP ((catF fs).take cut)).length = k ∧ atF ((catF fs).take cut) (scanP ((catF fs).take cut)).length = (catF (fs.take k)).length := by
  have hgood : GoodF (fs.take k) := fun f hf => h f (List.mem_of_mem_take hf)
  obtain ⟨r, hr, hre⟩ : ∃ r, (catF fs).take cut = catF (fs.take k) ++ r ∧ (getP r).e ≠ 0 := by
    have e0 : catF fs = catF (fs.take k) ++ catF (fs.drop k) := by rw [← catF_append, List.take_append_drop]
    refine ⟨(catF (fs.drop k)).take (cut - (catF (fs.take k)).length), ?_, ?_⟩
    · rw [e0, List.take_append, List.take_of_length_le h1]
    · rcases Nat.lt_or_ge k fs.length with hlt | hge
      · have h3' : cut < (catF (fs.take (k + 1))).length := by rcases h3 with h3 | h3 <;> omega
        rw [List.take_succ_eq_append_getElem hlt, catF_append, List.length_append] at h3'
        have hc1 : catF [fs[k]] = frameB fs[k].1 fs[k].2 := by simp [catF]
        rw [hc1, frameB_len] at h3'
        rw [List.drop_eq_getElem_cons hlt, catF_cons, List.take_append_of_le_length (by rw [frameB_len]; omega)]
        have hf := h fs[k] (List.getElem_mem hlt)
        rw [get_short fs[k].1 hf.1 fs[k].2 hf.2 _ (by omega)]
        decide
      · rw [List.drop_of_length_le hge]
        simp [catF]
        decide
  have hs := scan_cat (fs.take k) r hgood
  rw [scan_no hre, List.append_nil] at hs
  rw [hr]
  refine ⟨by rw [hs, List.length_map, List.length_take]; omega, ?_⟩
  rw [atF_all, hs, catF_len]; simp [Function.comp_def]
end Go.Proofs.YtmdnlgfngpgfnaaDoor
