/- DiskLasts, plainly. -/
import Derived.Test.YtjfnpndpigpaiaaDk20
namespace Go.Proofs.Ytjfnpndpigpaiaa
open Go.RowKit

theorem write_calm {D : DD} (h : Calm D) {f : Nat} (hf : f < 33) (b : List UInt8) : writeD D (f : Nat) b = if usedL D.fs + b.length ≤ D.room then (0, { D.writeF (f : Nat) b with left := -1, done := D.done + 1 }) else (8, D) := by
  unfold writeD writeR
  rw [if_pos (by rw [okF_iff]; omega), opD_calm h]
  by_cases hc : usedL D.fs + b.length ≤ D.room
  · rw [if_pos hc, if_neg (show ¬ ((b.length : Int) > (D.room : Int) - usedL D.fs) by omega)]; rfl
  · rw [if_neg hc, if_pos (show (b.length : Int) > (D.room : Int) - usedL D.fs by omega)]; rfl
/-- what writes to the first five files leave of a disk -/
structure Ext (D D' : DD) : Prop where
  room : D'.room = D.room
  calm : Calm D'
  file : ∀ f, ∃ m, D'.file f = ⟨(D.file f).d ++ m, (D.file f).k⟩
  far : ∀ f, 5 ≤ f → D'.file f = D.file f
theorem Ext.refl {D : DD} (h : Calm D) : Ext D D := ⟨rfl, h, fun f => ⟨[], by rw [List.append_nil]⟩, fun _ _ => rfl⟩
theorem Ext.write {D D1 : DD} (h : Ext D D1) (hl : D1.fs.length = 33) {f : Nat} (hf : f < 5) (b : List UInt8) : Ext D (writeD D1 (f : Nat) b).2 := by
  rw [write_calm h.calm (by omega)]
  split
  · have hfl : ∀ f', ({ D1.writeF (f : Nat) b with left := -1, done := D1.done + 1 } : DD).file f' = if f' = f then ⟨(D1.file f).d ++ b, (D1.file f).k⟩ else D1.file f' := fun f' => by
      show (D1.put ((f : Nat) : Int).toNat ⟨(D1.file ((f : Nat) : Int).toNat).d ++ b, (D1.file ((f : Nat) : Int).toNat).k⟩).file f' = _
      rw [Int.toNat_natCast, file_put (by omega)]
    refine ⟨h.room, ⟨h.calm.1, rfl⟩, fun f' => ?_, fun f' hf' => ?_⟩
    · rw [hfl]
      by_cases e : f' = f
      · subst e
        obtain ⟨m, hm⟩ := h.file f'
        rw [if_pos rfl, hm]
        exact ⟨m ++ b, by rw [List.append_assoc]⟩
      · rw [if_neg e]; exact h.file f'
    · rw [hfl, if_neg (by omega)]; exact h.far f' hf'
  · exact h
/-- the first files are synced -/
def synced (D : DD) : Nat → DD
  | 0 => D
  | k + 1 => (syncD (synced D k) (k : Nat)).2
theorem sync_calm {D : DD} (h : Calm D) {f : Nat} (hf : f < 33) : syncD D (f : Nat) = (0, { D.syncF (f : Nat) with left := -1, done := D.done + 1 }) := sync_yes h hf
structure Syn (D D' : DD) (k : Nat) : Prop where
  calm : Calm D'
  data : ∀ f, (D'.file f).d = (D.file f).d
  last : ∀ f, f < k → (D'.file f).k = (D.file f).d.length
  far : ∀ f, k ≤ f → (D'.file f).k = (D.file f).k
  len : D'.fs.length = 33
theorem synced_ok {D : DD} (h : Calm D) (hl : D.fs.length = 33) : ∀ k, k ≤ 33 → Syn D (synced D k) k ∧ (synced D k).done = D.done + k
  | 0, _ => ⟨⟨h, fun _ => rfl, fun f hf => by omega, fun _ _ => rfl, hl⟩, rfl⟩
  | k + 1, hk => by
    obtain ⟨ih, hd⟩ := synced_ok h hl k (by omega)
    have e : synced D (k + 1) = { (synced D k).syncF (k : Nat) with left := -1, done := (synced D k).done + 1 } := by
      show (syncD (synced D k) (k : Nat)).2 = _
      rw [sync_calm ih.calm (by omega)]
    have hfl : ∀ f', (synced D (k + 1)).file f' = if f' = k then ⟨((synced D k).file k).d, ((synced D k).file k).d.length⟩ else (synced D k).file f' := fun f' => by
      rw [e]
      show ((synced D k).put ((k : Nat) : Int).toNat ⟨((synced D k).file ((k : Nat) : Int).toNat).d, ((synced D k).file ((k : Nat) : Int).toNat).d.length⟩).file f' = _
      rw [Int.toNat_natCast, file_put (by rw [ih.len]; omega)]
    refine ⟨⟨by rw [e]; exact ⟨ih.calm.1, rfl⟩, fun f => ?_, fun f hf => ?_, fun f hf => ?_, ?_⟩, by rw [e]; show (synced D k).done + 1 = _; omega⟩
    · rw [hfl]
      split
      · rename_i e2; rw [e2]; exact ih.data k
      · exact ih.data f
    · rw [hfl]
      by_cases e2 : f = k
      · rw [if_pos e2, e2]; show ((synced D k).file k).d.length = _; rw [ih.data]
      · rw [if_neg e2]; exact ih.last f (by omega)
    · rw [hfl, if_neg (by omega)]; exact ih.far f (by omega)
    · rw [e]; show ((synced D k).fs.set _ _).length = 33; rw [List.length_set]; exact ih.len
/-- what a crash leaves of each file -/
theorem crash_file : ∀ (fs keep) (f : Nat), f < fs.length → (∀ x ∈ fs, x.k ≤ x.d.length) → ∃ s, (fs.getD f FF0).k + s ≤ (fs.getD f FF0).d.length ∧ (crashL fs keep).getD f FF0 = ⟨(fs.getD f FF0).d.take ((fs.getD f FF0).k + s), (fs.getD f FF0).k + s⟩
  | [], _, f, h, _ => by simp at h
  | x :: r, keep, 0, _, hk => by
    have hx := hk x (by simp)
    unfold crashL
    split
    · rename_i h
      refine ⟨0, by simpa using hx, ?_⟩
      show x = _
      show x = ⟨x.d.take (x.k + 0), x.k + 0⟩
      rw [Nat.add_zero, ← h, List.take_length]
      cases x with
      | mk d k => simp only at h; subst h; rfl
    · exact ⟨(max 0 (min (keep.headD 0) ((x.d.length : Int) - x.k))).toNat, by show x.k + _ ≤ x.d.length; omega, rfl⟩
  | x :: r, keep, f + 1, h, hk => by
    have hr : ∀ y ∈ r, y.k ≤ y.d.length := fun y hy => hk y (by simp [hy])
    unfold crashL
    split
    · exact crash_file r keep f (by simpa using h) hr
    · exact crash_file r keep.tail f (by simpa using h) hr
theorem usedL_five : ∀ (fs : List FF) (n : Nat), (∀ f, n ≤ f → (fs.getD f FF0).d = []) → usedL fs = usedL (fs.take n)
  | [], _, _ => by simp [usedL]
  | x :: r, 0, h => by
    have h0 : x.d = [] := h 0 (Nat.zero_le _)
    have ih := usedL_five r 0 (fun f _ => h (f + 1) (Nat.zero_le _))
    simp [usedL] at ih ⊢
    simp [h0]; exact ih
  | x :: r, n + 1, h => by
    have ih := usedL_five r n (fun f hf => h (f + 1) (by omega))
    simp [usedL] at ih ⊢
    omega
/-- a crash where nothing is loose -/
theorem crash_tight : ∀ (fs keep), (∀ x ∈ fs, x.d.length = x.k) → crashL fs keep = fs
  | [], _, _ => rfl
  | x :: r, keep, h => by
    rw [crashL, if_pos (h x (by simp)), crash_tight r keep (fun y hy => h y (by simp [hy]))]
theorem getD_mem {fs : List FF} {x : FF} (hx : x ∈ fs) : ∃ f, f < fs.length ∧ fs.getD f FF0 = x := by
  obtain ⟨i, hi, e⟩ := List.getElem_of_mem hx
  exact ⟨i, hi, by rw [List.getD_eq_getElem?_getD, List.getElem?_eq_getElem hi, Option.getD_some, e]⟩
/-- begins: what it answers -/
def beginB (l a : List UInt8) : Bool := decide (a.length ≤ l.length) && (l.take a.length == a)
theorem begin_append (a m : List UInt8) : beginB (a ++ m) a = true := by
  unfold beginB; simp
theorem begin_take (l : List UInt8) (n : Nat) : beginB l (l.take n) = true := by
  unfold beginB
  have : (l.take n).length ≤ l.length := by rw [List.length_take]; omega
  have e : l.take (l.take n).length = l.take n := by
    rw [List.length_take]
    rcases Nat.le_total n l.length with h | h
    · rw [Nat.min_eq_left h]
    · rw [Nat.min_eq_right h, List.take_of_length_le (Nat.le_refl _), List.take_of_length_le h]
  rw [e, decide_eq_true this]; simp
end Go.Proofs.Ytjfnpndpigpaiaa
