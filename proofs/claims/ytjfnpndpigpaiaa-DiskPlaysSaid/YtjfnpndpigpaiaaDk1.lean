/- The disk, plainly. -/
import Derived.Test.YtjfnpndpigpaiaaReg
namespace Go.Proofs.Ytjfnpndpigpaiaa
open Go.RowKit

/-- a file: its bytes, and how many of them last -/
structure FF where
  d : List UInt8
  k : Nat
  deriving DecidableEq
/-- a disk -/
structure DD where
  room : Nat
  fs : List FF
  off : Bool
  left : Int
  done : Nat
  deriving DecidableEq
def usedL (fs : List FF) : Nat := (fs.map fun f => f.d.length).sum
def FF0 : FF := ⟨[], 0⟩
def DD.file (D : DD) (f : Nat) : FF := D.fs.getD f FF0
def DD.put (D : DD) (f : Nat) (x : FF) : DD := { D with fs := D.fs.set f x }
/-- what an operation does -/
def opD (D : DD) (refused : Int) (early : Bool) (D' : DD) : Int × DD :=
  if D.off = true then (9, D) else if refused ≠ 0 then (refused, D) else
  if D.left = 0 then (9, if early = true then { D' with left := -1, done := D.done + 1, off := true } else { D with left := -1, off := true })
  else (0, { D' with left := max (-1) (D.left - 1), done := D.done + 1 })
/-- is there such a file? -/
def okF (f : Int) : Bool := decide (0 ≤ f ∧ f < 33)
def badE (b : Bool) : Int := if b = true then 0 else 1
def DD.writeF (D : DD) (f : Int) (b : List UInt8) : DD := D.put f.toNat ⟨(D.file f.toNat).d ++ b, (D.file f.toNat).k⟩
def DD.syncF (D : DD) (f : Int) : DD := D.put f.toNat ⟨(D.file f.toNat).d, (D.file f.toNat).d.length⟩
def DD.cutF (D : DD) (f : Int) (n : Nat) : DD := D.put f.toNat ⟨(D.file f.toNat).d.take n, n⟩
def overL (d : List UInt8) (at' : Nat) (b : List UInt8) : List UInt8 := d.take at' ++ (b ++ d.drop (at' + b.length))
def DD.overF (D : DD) (f : Int) (at' : Nat) (b : List UInt8) : DD := D.put f.toNat ⟨overL (D.file f.toNat).d at' b, (D.file f.toNat).k⟩
def writeR (D : DD) (f : Int) (b : List UInt8) : Int := if okF f = true then (if (b.length : Int) > (D.room : Int) - usedL D.fs then 8 else 0) else 1
def writeD (D : DD) (f : Int) (b : List UInt8) : Int × DD := opD D (writeR D f b) true (D.writeF f b)
def syncD (D : DD) (f : Int) : Int × DD := opD D (badE (okF f)) false (D.syncF f)
def cutOk (D : DD) (f n : Int) : Bool := okF f && (decide (0 ≤ n) && decide (n ≤ ((D.file f.toNat).d.length : Int)))
def cutD (D : DD) (f n : Int) : Int × DD := opD D (badE (cutOk D f n)) false (D.cutF f n.toNat)
def overOk (D : DD) (f a : Int) (m : Nat) : Bool := okF f && (decide (0 ≤ a) && (decide (a ≤ ((D.file f.toNat).k : Int)) && decide ((m : Int) ≤ ((D.file f.toNat).k : Int) - a)))
def overD (D : DD) (f a : Int) (b : List UInt8) : Int × DD := opD D (badE (overOk D f a b.length)) false (D.overF f a.toNat b)
def readD (D : DD) (f : Int) : List UInt8 := if okF f = true then (D.file f.toNat).d else []
def armD (D : DD) (n : Int) : DD := { D with left := max (-1) n }
/-- what a crash leaves of a file, so many of its loose bytes are kept -/
def keepF (x : FF) (n : Int) : FF := ⟨x.d.take (x.k + (max 0 (min n ((x.d.length : Int) - x.k))).toNat), x.k + (max 0 (min n ((x.d.length : Int) - x.k))).toNat⟩
def crashL : List FF → List Int → List FF
  | [], _ => []
  | x :: r, keep => if x.d.length = x.k then x :: crashL r keep else keepF x (keep.headD 0) :: crashL r keep.tail
def crashD (D : DD) (keep : List Int) : DD := { D with fs := crashL D.fs keep, off := false, left := -1 }
def newD (room : Int) : DD := ⟨(max 0 (min room 262144)).toNat, List.replicate 33 FF0, false, -1, 0⟩
/-- what holds of each disk -/
structure DOK (D : DD) : Prop where
  len : D.fs.length = 33
  room : D.room ≤ 262144
  used : usedL D.fs ≤ D.room
  lasts : ∀ f ∈ D.fs, f.k ≤ f.d.length
  lo : -1 ≤ D.left
  hi : D.left ≤ 9223372036854775807

theorem usedL_set : ∀ (fs : List FF) (f : Nat) (x : FF), f < fs.length → usedL (fs.set f x) + (fs.getD f FF0).d.length = usedL fs + x.d.length
  | [], f, x, h => by simp at h
  | y :: r, 0, x, _ => by simp [usedL]; omega
  | y :: r, f + 1, x, h => by
    have := usedL_set r f x (by simpa using h)
    simp [usedL] at this ⊢; omega
theorem usedL_le : ∀ (fs : List FF) (f : Nat), (fs.getD f FF0).d.length ≤ usedL fs
  | [], f => by simp [FF0]
  | y :: r, 0 => by simp [usedL]
  | y :: r, f + 1 => by
    have := usedL_le r f
    simp [usedL] at this ⊢; omega
theorem okF_iff {f : Int} : okF f = true ↔ 0 ≤ f ∧ f < 33 := by simp [okF]
theorem DOK.file_k {D : DD} (h : DOK D) (f : Nat) : (D.file f).k ≤ (D.file f).d.length := by
  unfold DD.file
  rw [List.getD_eq_getElem?_getD]
  by_cases hf : f < D.fs.length
  · rw [List.getElem?_eq_getElem hf]; exact h.lasts _ (List.getElem_mem hf)
  · rw [List.getElem?_eq_none (by omega)]; exact Nat.le_refl _
theorem DOK.file_le {D : DD} (h : DOK D) (f : Nat) : (D.file f).d.length ≤ 262144 := Nat.le_trans (usedL_le _ _) (Nat.le_trans h.used h.room)
theorem DOK.put {D : DD} (h : DOK D) {f : Nat} (hf : f < 33) {x : FF} (hk : x.k ≤ x.d.length) (hu : usedL D.fs + x.d.length ≤ D.room + (D.file f).d.length) : DOK (D.put f x) := by
  have hs := usedL_set D.fs f x (by rw [h.len]; exact hf)
  refine ⟨by simp [DD.put, h.len], h.room, ?_, ?_, h.lo, h.hi⟩
  · show usedL (D.fs.set f x) ≤ D.room
    have e : (D.file f).d.length = (D.fs.getD f FF0).d.length := rfl
    omega
  · intro y hy
    rcases List.mem_or_eq_of_mem_set hy with hy | rfl
    · exact h.lasts y hy
    · exact hk
theorem DOK.op {D D' : DD} (h : DOK D) (h' : DOK D') (hl : D'.left = D.left) (r : Int) (e : Bool) : DOK (opD D r e D').2 := by
  have := h.lo; have := h.hi
  unfold opD
  split
  · exact h
  · split
    · exact h
    · split
      · split
        · exact ⟨h'.len, h'.room, h'.used, h'.lasts, Int.le_refl (-1), (by show (-1 : Int) ≤ 9223372036854775807; decide)⟩
        · exact ⟨h.len, h.room, h.used, h.lasts, Int.le_refl (-1), (by show (-1 : Int) ≤ 9223372036854775807; decide)⟩
      · exact ⟨h'.len, h'.room, h'.used, h'.lasts, (by show -1 ≤ max (-1) (D.left - 1); omega), (by show max (-1) (D.left - 1) ≤ _; omega)⟩
theorem opD_no {D : DD} {r : Int} (hr : r ≠ 0) (e : Bool) (D1 D2 : DD) : opD D r e D1 = opD D r e D2 := by
  unfold opD; rw [if_pos hr, if_pos hr]
theorem badE_ne {b : Bool} (h : b = false) : badE b ≠ 0 := by subst h; decide
theorem DOK.write {D : DD} (h : DOK D) (f : Int) (b : List UInt8) : DOK (writeD D f b).2 := by
  unfold writeD
  by_cases hr : writeR D f b = 0
  · unfold writeR at hr
    split at hr
    · rename_i hf
      have hf := okF_iff.1 hf
      split at hr
      · cases hr
      · refine h.op (h.put (by omega) ?_ ?_) rfl _ _
        · have := h.file_k f.toNat; simp; omega
        · simp; have := h.used; omega
    · cases hr
  · rw [opD_no hr _ _ D]; exact h.op h rfl _ _
theorem DOK.sync {D : DD} (h : DOK D) (f : Int) : DOK (syncD D f).2 := by
  unfold syncD
  by_cases hf : okF f = true
  · have hf := okF_iff.1 hf
    exact h.op (h.put (by omega) (Nat.le_refl _) (by have := h.used; simp; omega)) rfl _ _
  · rw [opD_no (badE_ne (by simpa using hf)) _ _ D]; exact h.op h rfl _ _
theorem DOK.cut {D : DD} (h : DOK D) (f n : Int) : DOK (cutD D f n).2 := by
  unfold cutD
  by_cases hc : cutOk D f n = true
  · simp [cutOk] at hc
    obtain ⟨hf, h0, hn⟩ := hc
    have hf := okF_iff.1 hf
    refine h.op (h.put (by omega) ?_ ?_) rfl _ _
    · simp; omega
    · simp; have := h.used; omega
  · rw [opD_no (badE_ne (by simpa using hc)) _ _ D]; exact h.op h rfl _ _
theorem overL_len {d b : List UInt8} {a : Nat} (h : a + b.length ≤ d.length) : (overL d a b).length = d.length := by simp [overL]; omega
theorem DOK.over {D : DD} (h : DOK D) (f a : Int) (b : List UInt8) : DOK (overD D f a b).2 := by
  unfold overD
  by_cases hc : overOk D f a b.length = true
  · simp [overOk] at hc
    obtain ⟨hf, h0, hn, hm⟩ := hc
    have hf := okF_iff.1 hf
    have hk := h.file_k f.toNat
    have hl := overL_len (d := (D.file f.toNat).d) (b := b) (a := a.toNat) (by omega)
    refine h.op (h.put (by omega) ?_ ?_) rfl _ _
    · simp [hl]; omega
    · simp [hl]; have := h.used; omega
  · rw [opD_no (badE_ne (by simpa using hc)) _ _ D]; exact h.op h rfl _ _
theorem keepF_ok (x : FF) (n : Int) (h : x.k ≤ x.d.length) : (keepF x n).k ≤ (keepF x n).d.length ∧ (keepF x n).d.length ≤ x.d.length := by
  simp [keepF]; omega
theorem crashL_ok : ∀ (fs : List FF) (keep : List Int), (∀ f ∈ fs, f.k ≤ f.d.length) → (crashL fs keep).length = fs.length ∧ usedL (crashL fs keep) ≤ usedL fs ∧ ∀ f ∈ crashL fs keep, f.k ≤ f.d.length
  | [], keep, h => ⟨rfl, Nat.le_refl _, h⟩
  | x :: r, keep, h => by
    unfold crashL
    split
    · obtain ⟨h1, h2, h3⟩ := crashL_ok r keep (fun f hf => h f (by simp [hf]))
      refine ⟨by simp [h1], by simp [usedL] at h2 ⊢; omega, fun f hf => ?_⟩
      rcases List.mem_cons.1 hf with rfl | hf
      · exact h _ (by simp)
      · exact h3 f hf
    · obtain ⟨h1, h2, h3⟩ := crashL_ok r keep.tail (fun f hf => h f (by simp [hf]))
      have hk := keepF_ok x (keep.headD 0) (h x (by simp))
      refine ⟨by simp [h1], by simp only [usedL, List.map_cons, List.sum_cons] at h2 ⊢; omega, fun f hf => ?_⟩
      rcases List.mem_cons.1 hf with rfl | hf
      · exact hk.1
      · exact h3 f hf
theorem DOK.crash {D : DD} (h : DOK D) (keep : List Int) : DOK (crashD D keep) := by
  obtain ⟨h1, h2, h3⟩ := crashL_ok D.fs keep h.lasts
  exact ⟨h1.trans h.len, h.room, Nat.le_trans h2 h.used, h3, (by show (-1 : Int) ≤ -1; decide), (by show (-1 : Int) ≤ 9223372036854775807; decide)⟩
theorem DOK.arm {D : DD} (h : DOK D) (n : Int) (hn : n ≤ 9223372036854775807) : DOK (armD D n) :=
  ⟨h.len, h.room, h.used, h.lasts, by show -1 ≤ max (-1) n; omega, by show max (-1) n ≤ _; omega⟩
theorem DOK.new (r : Int) : DOK (newD r) := by
  refine ⟨rfl, ?_, Nat.zero_le _, fun f hf => ?_, (by show (-1 : Int) ≤ -1; decide), (by show (-1 : Int) ≤ 9223372036854775807; decide)⟩
  · show (max 0 (min r 262144)).toNat ≤ 262144; omega
  · rw [List.eq_of_mem_replicate hf]; exact Nat.le_refl _
theorem opD_done {D D' : DD} (r : Int) (e : Bool) : (opD D r e D').2.done ≤ D.done + 1 := by
  unfold opD; split
  · simp
  · split
    · simp
    · split
      · split <;> simp
      · simp
end Go.Proofs.Ytjfnpndpigpaiaa
