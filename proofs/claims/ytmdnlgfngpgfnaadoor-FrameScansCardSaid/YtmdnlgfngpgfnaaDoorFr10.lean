/- A frame, got again. -/
import Derived.Test.YtmdnlgfngpgfnaaDoorFr7
namespace Go.Proofs.YtmdnlgfngpgfnaaDoor
open Go.RowKit

theorem num4_be4 (v : BitVec 32) (r : List UInt8) : num4 (be4 v ++ r) = v.toNat := by
  have hv : v.toNat < 4294967296 := v.isLt
  simp only [be4, List.cons_append, List.nil_append, num4, UInt8.toNat_ofNat', Nat.reducePow]
  omega
theorem be4_len (v : BitVec 32) : (be4 v).length = 4 := rfl
theorem frameB_eq (k : UInt8) (body : List UInt8) : frameB k body = k :: (be4 (BitVec.ofNat 32 body.length) ++ (body ++ be4 (crc (headB k body)))) := by
  simp [frameB, headB]
theorem frameB_len (k : UInt8) (body : List UInt8) : (frameB k body).length = body.length + 9 := by
  rw [frameB_eq]; simp [be4_len]; omega
theorem num4_take {l : List UInt8} {m : Nat} (h : 4 ≤ m) (hl : 4 ≤ l.length) : num4 (l.take m) = num4 l := by
  match l, hl with
  | a :: b :: d :: e :: l, _ =>
    obtain ⟨m, rfl⟩ : ∃ x, m = x + 4 := ⟨m - 4, by omega⟩
    rfl
theorem whole_frame (k : UInt8) (hk : k ≠ 0) (body more : List UInt8) (hb : body.length ≤ 2039) : wholeP (frameB k body ++ more) = (0, body.length) := by
  have hn : num4 ((frameB k body ++ more).drop 1) = body.length := by
    rw [frameB_eq]
    simp only [List.cons_append, List.drop_succ_cons, List.drop_zero, List.append_assoc]
    rw [num4_be4, BitVec.toNat_ofNat, Nat.mod_eq_of_lt (by simp; omega)]
  have hl : (frameB k body ++ more).length = body.length + 9 + more.length := by rw [List.length_append, frameB_len]
  have hh : (frameB k body ++ more).head? = some k := by rw [frameB_eq]; rfl
  unfold wholeP
  rw [hn, hl, hh, if_neg (by omega), if_neg (by simpa using hk), if_neg (by omega), if_neg (by omega)]
theorem get_frame (k : UInt8) (hk : k ≠ 0) (body more : List UInt8) (hb : body.length ≤ 2039) : getP (frameB k body ++ more) = ⟨0, (k.toNat : Nat), body, body.length + 9⟩ := by
  have hw := whole_frame k hk body more hb
  have h1 : (frameB k body ++ more).take (5 + body.length) = headB k body := by
    have : frameB k body ++ more = headB k body ++ (be4 (crc (headB k body)) ++ more) := by simp [frameB]
    rw [this, List.take_left' (by simp [headB, be4_len]; omega)]
  have h2 : ((frameB k body ++ more).take (body.length + 9)).drop (5 + body.length) = be4 (crc (headB k body)) := by
    rw [List.take_left' (frameB_len k body)]
    unfold frameB
    rw [List.drop_left' (by simp [headB, be4_len]; omega)]
  have h3 : ((frameB k body ++ more).drop 5).take body.length = body := by
    have : frameB k body ++ more = (k :: be4 (BitVec.ofNat 32 body.length)) ++ (body ++ (be4 (crc (headB k body)) ++ more)) := by simp [frameB, headB]
    rw [this, List.drop_left' (by simp [be4_len]), List.take_left' rfl]
  have h4 : (frameB k body ++ more).headD 0 = k := by rw [frameB_eq]; rfl
  unfold getP
  rw [hw]
  simp only [ne_eq, not_true_eq_false, if_false, h1, h2, h3, h4]
  have h5 : num4 (be4 (crc (headB k body))) = (crc (headB k body)).toNat := by
    have := num4_be4 (crc (headB k body)) []
    simpa using this
  rw [if_neg (by rw [h5]; simp)]
theorem get_short (k : UInt8) (hk : k ≠ 0) (body : List UInt8) (hb : body.length ≤ 2039) (m : Nat) (hm : m < body.length + 9) : getP ((frameB k body).take m) = ⟨4, 0, [], 0⟩ := by
  have hlen : ((frameB k body).take m).length = m := by rw [List.length_take, frameB_len]; omega
  have hw : (wholeP ((frameB k body).take m)).1 = 4 := by
    unfold wholeP
    rw [hlen]
    by_cases h5 : m < 5
    · rw [if_pos h5]
    · obtain ⟨x, rfl⟩ : ∃ x, m = x + 1 := ⟨m - 1, by omega⟩
      have hn : num4 (((frameB k body).take (x + 1)).drop 1) = body.length := by
        rw [frameB_eq]
        simp only [List.take_succ_cons, List.drop_succ_cons, List.drop_zero]
        rw [num4_take (by omega) (by simp [be4_len]), num4_be4, BitVec.toNat_ofNat, Nat.mod_eq_of_lt (by simp; omega)]
      have hh : ((frameB k body).take (x + 1)).head? = some k := by rw [frameB_eq]; rfl
      rw [hn, hh, if_neg h5, if_neg (by simpa using hk), if_neg (by omega), if_pos (by omega)]
  unfold getP
  rw [hw, if_pos (by decide)]
end Go.Proofs.YtmdnlgfngpgfnaaDoor
