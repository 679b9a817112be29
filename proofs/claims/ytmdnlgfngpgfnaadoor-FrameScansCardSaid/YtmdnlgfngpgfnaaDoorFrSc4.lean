/- What is scanned, put again: plain. -/
import Derived.Test.YtmdnlgfngpgfnaaDoorFrSc1
import Derived.Test.YtmdnlgfngpgfnaaDoorFr10
namespace Go.Proofs.YtmdnlgfngpgfnaaDoor

theorem be4_num4 (a b c d : UInt8) (l : List UInt8) : be4 (BitVec.ofNat 32 (num4 (a :: b :: c :: d :: l))) = [a, b, c, d] := by
  have h1 := a.toNat_lt; have h2 := b.toNat_lt; have h3 := c.toNat_lt; have h4 := d.toNat_lt
  simp only [Nat.reducePow] at h1 h2 h3 h4
  have e : (BitVec.ofNat 32 (num4 (a :: b :: c :: d :: l))).toNat = a.toNat * 16777216 + b.toNat * 65536 + c.toNat * 256 + d.toNat := by
    rw [BitVec.toNat_ofNat]; simp only [num4, Nat.reducePow]; omega
  have f : ∀ (x : Nat) (u : UInt8), x % 256 = u.toNat → UInt8.ofNat x = u := fun x u h => UInt8.toNat_inj.1 (by rw [UInt8.toNat_ofNat']; exact h)
  unfold be4
  rw [e, f _ a (by omega), f _ b (by omega), f _ c (by omega), f _ d (by omega)]
theorem four_of {l : List UInt8} (h : l.length = 4) : be4 (BitVec.ofNat 32 (num4 l)) = l := by
  match l, h with
  | [a, b, c, d], _ => exact be4_num4 a b c d []
theorem put_got (l : List UInt8) (h : (getP l).e = 0) : frameB (UInt8.ofNat (getP l).k.toNat) (getP l).body = l.take (getP l).n := by
  rcases wholeP_cases l with hn | ⟨h0, hN, hf⟩
  · unfold getP at h
    rw [if_pos (by omega)] at h
    simp only at h
    omega
  · have hw : wholeP l = (0, num4 (l.drop 1)) := by
      unfold wholeP at h0 ⊢
      repeat' split at h0
      all_goals first
        | (cases h0; done)
        | skip
      rename_i h1 h2 h3 h4
      rw [if_neg h1, if_neg h2, if_neg h3, if_neg h4]
    unfold getP at h ⊢
    rw [if_neg (by omega)] at h ⊢
    split at h
    · cases h
    · rename_i hx
      rw [if_neg hx]
      simp only
      generalize hNn : (wholeP l).2 = N at *
      have hNe : num4 (l.drop 1) = N := by rw [hw] at hNn; exact hNn
      match l, hf, hNe, hx with
      | [], hf, _, _ => simp at hf
      | k :: r, hf, hNe, hx =>
        simp only [List.drop_succ_cons, List.drop_zero] at hNe
        simp only [List.length_cons] at hf
        have hb : ((k :: r).drop 5).take N = (r.drop 4).take N := rfl
        have hbl : ((r.drop 4).take N).length = N := by rw [List.length_take, List.length_drop]; omega
        have hk : UInt8.ofNat (((((k :: r).headD 0).toNat : Nat) : Int)).toNat = k := by simp
        rw [hk, hb]
        have h4 : be4 (BitVec.ofNat 32 N) = r.take 4 := by
          match r, hf, hNe with
          | a :: b :: c :: d :: r', _, hNe => rw [← hNe]; exact be4_num4 a b c d r'
          | [], hf, _ => simp at hf
          | [_], hf, _ => simp at hf
          | [_, _], hf, _ => simp at hf
          | [_, _, _], hf, _ => simp at hf
        have hhead : headB k ((r.drop 4).take N) = (k :: r).take (5 + N) := by
          unfold headB
          rw [hbl, h4, show 5 + N = (4 + N) + 1 by omega, List.take_succ_cons, List.take_add]
        unfold frameB
        rw [hhead]
        have hs : be4 (crc ((k :: r).take (5 + N))) = ((k :: r).take (N + 9)).drop (5 + N) := by
          have h5 : (((k :: r).take (N + 9)).drop (5 + N)).length = 4 := by rw [List.length_drop, List.length_take, List.length_cons]; omega
          rw [← four_of h5]
          congr 1
          have hx' : num4 (((k :: r).take (N + 9)).drop (5 + N)) = (crc ((k :: r).take (5 + N))).toNat := by simpa using hx
          rw [hx']; simp
        rw [hs, show N + 9 = (5 + N) + 4 by omega]
        have : (k :: r).take (5 + N) = ((k :: r).take (5 + N + 4)).take (5 + N) := by rw [List.take_take]; congr 1; omega
        rw [this, List.take_append_drop]
/-- the first k frames, put again -/
def putsF (l : List UInt8) (k : Nat) : List UInt8 := ((scanP l).take k).flatMap fun g => frameB (UInt8.ofNat g.k.toNat) g.body
theorem putsF_eq (l : List UInt8) : ∀ k, k ≤ (scanP l).length → putsF l k = l.take (atF l k)
  | 0, _ => by simp [putsF, atF]
  | k + 1, h => by
    have hk : k < (scanP l).length := by omega
    obtain ⟨h1, h2⟩ := scan_at l hk
    have h3 := restF_drop l k (by omega)
    have hp := put_got (restF l k) (by rw [h1]; exact h2)
    rw [h1] at hp
    have e : putsF l (k + 1) = putsF l k ++ frameB (UInt8.ofNat (scanP l)[k].k.toNat) (scanP l)[k].body := by
      unfold putsF
      rw [List.take_succ_eq_append_getElem hk, List.flatMap_append]; simp
    rw [e, putsF_eq l k (by omega), hp, h3.1, atF_succ l hk, List.take_add]
theorem putsF_succ (l : List UInt8) {k : Nat} (hk : k < (scanP l).length) : putsF l (k + 1) = putsF l k ++ frameB (UInt8.ofNat (scanP l)[k].k.toNat) (scanP l)[k].body := by
  unfold putsF
  rw [List.take_succ_eq_append_getElem hk, List.flatMap_append]; simp
end Go.Proofs.YtmdnlgfngpgfnaaDoor
