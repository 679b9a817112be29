/- DiskOvers, plainly; a copy in a walk. -/
import Derived.Test.YtjfnpndpigpaiaaDk15
namespace Go.Proofs.Ytjfnpndpigpaiaa
open Go.RowKit

theorem lst_file_copy {ops : Array Oper} {rest : List Oper} {w : World} {o : Oper} {a : Act} {Q : Exit → Act → World → Prop} (s x : Operand)
    (ho : o.op = .call { callee := .builtin .copy, args := #[s, x], argTypes := #[31, 31] })
    {l b : List UInt8} {A Ad : Option Addr} {c p dl dc : Nat} (hs : a.eval s = .slice Ad dl dc) (hF : FileAt w l A c) (hp : p + b.length ≤ l.length) (hdl : dl = l.length - p) (hAd : Ad = A.map (·.add p) ∨ b = [])
    {F : Nat → Prop} {B : Option Addr} {m d : Nat} (hx : a.eval x = .slice B m d) (hb : Sl w F B m d b) (hw : Region.wanted o (yielded ops a.tmps) = true)
    (h : ∀ w', Hid (FileAt w' (overL l p b) A c) → Hid (Fr (Blk A) w w') → wpList Try.prog ops Q rest (a.put o.dst (.int .i64 (min m dl : Nat))) w') : wpList Try.prog ops Q (o :: rest) a w :=
  BigFrame.wpList_want hw fun _ hK => wp_file_copy s x ho hs hF hp hdl hAd hx hb fun w' h1 h2 => hK _ _ (h w' h1 h2)
/-- a disk whose power is on, and that is not armed -/
def Calm (D : DD) : Prop := D.off = false ∧ D.left = -1
theorem opD_calm {D : DD} (h : Calm D) (r : Int) (e : Bool) (D' : DD) : opD D r e D' = if r ≠ 0 then (r, D) else (0, { D' with left := -1, done := D.done + 1 }) := by
  unfold opD
  rw [if_neg (by rw [h.1]; decide), h.2]
  split
  · rfl
  · rw [if_neg (by decide)]; rfl
theorem crash_nil : ∀ fs : List FF, crashL fs [] = fs.map fun x => ⟨x.d.take x.k, x.k⟩
  | [] => rfl
  | x :: r => by
    unfold crashL
    split
    · rename_i h
      rw [List.map_cons, crash_nil r]
      congr 1
      cases x with
      | mk d k => simp only at h; subst h; simp
    · rw [List.map_cons, List.tail_nil, crash_nil r]
      congr 1
      have e : (max 0 (min (([] : List Int).headD 0) ((x.d.length : Int) - x.k))).toNat = 0 := by simp only [List.headD_nil]; omega
      unfold keepF
      rw [e]; rfl
theorem calm_new (r : Int) : Calm (newD r) := ⟨rfl, rfl⟩
theorem calm_op {D : DD} (h : Calm D) (r : Int) (e : Bool) (D' : DD) (h' : D'.off = false) : Calm (opD D r e D').2 := by
  rw [opD_calm h]
  split
  · exact h
  · exact ⟨h', rfl⟩
theorem calm_write {D : DD} (h : Calm D) (f : Int) (b : List UInt8) : Calm (writeD D f b).2 := calm_op h _ _ _ h.1
theorem calm_sync {D : DD} (h : Calm D) (f : Int) : Calm (syncD D f).2 := calm_op h _ _ _ h.1
theorem calm_cut {D : DD} (h : Calm D) (f n : Int) : Calm (cutD D f n).2 := calm_op h _ _ _ h.1
theorem calm_over {D : DD} (h : Calm D) (f a : Int) (b : List UInt8) : Calm (overD D f a b).2 := calm_op h _ _ _ h.1
/-- a write that fits -/
theorem write_fits {D : DD} (h : Calm D) {f : Nat} (hf : f < 33) {b : List UInt8} (hb : usedL D.fs + b.length ≤ D.room) : writeD D f b = (0, { D.writeF f b with left := -1, done := D.done + 1 }) := by
  unfold writeD writeR
  rw [if_pos (by rw [okF_iff]; omega), if_neg (by omega), opD_calm h, if_neg (by simp)]
theorem sync_yes {D : DD} (h : Calm D) {f : Nat} (hf : f < 33) : syncD D f = (0, { D.syncF f with left := -1, done := D.done + 1 }) := by
  unfold syncD
  rw [show okF f = true by rw [okF_iff]; omega, opD_calm h, if_neg (by decide)]

/-- the disk of DiskOvers, behind the writes -/
def ovD (b loose : List UInt8) : DD := ⟨4096, (List.replicate 33 FF0).set 0 ⟨b ++ loose, b.length⟩, false, -1, 3⟩
theorem ov_used (x : FF) : usedL ((List.replicate 33 FF0).set 0 x) = x.d.length := by
  have h := usedL_set (List.replicate 33 FF0) 0 x (by decide)
  have e : usedL (List.replicate 33 FF0) = 0 := by decide
  have e2 : ((List.replicate 33 FF0).getD 0 FF0).d.length = 0 := by decide
  omega
def ovD1 (b : List UInt8) : DD := ⟨4096, (List.replicate 33 FF0).set 0 ⟨b, 0⟩, false, -1, 1⟩
def ovD2 (b : List UInt8) : DD := ⟨4096, (List.replicate 33 FF0).set 0 ⟨b, b.length⟩, false, -1, 2⟩
theorem ov_1 {b : List UInt8} (hb : b.length ≤ 500) : writeD (newD 4096) 0 b = (0, ovD1 b) := by
  rw [show (0 : Int) = ((0 : Nat) : Int) from rfl, write_fits (calm_new _) (by decide)]
  · rfl
  · have e : usedL (newD 4096).fs = 0 := by decide
    have e2 : (newD 4096).room = 4096 := rfl
    omega
theorem ov_2 (b : List UInt8) : syncD (ovD1 b) 0 = (0, ovD2 b) := by
  rw [show (0 : Int) = ((0 : Nat) : Int) from rfl, sync_yes ⟨rfl, rfl⟩ (by decide)]
  rfl
theorem ov_3 {b loose : List UInt8} (hb : b.length ≤ 500) (hl : loose.length ≤ 500) : writeD (ovD2 b) 0 loose = (0, ovD b loose) := by
  rw [show (0 : Int) = ((0 : Nat) : Int) from rfl, write_fits ⟨rfl, rfl⟩ (by decide)]
  · rfl
  · have e : usedL (ovD2 b).fs = b.length := ov_used _
    have e2 : (ovD2 b).room = 4096 := rfl
    omega
theorem ov_ok {b loose : List UInt8} (hb : b.length ≤ 500) (hl : loose.length ≤ 500) : DOK (newD 4096) ∧ DOK (ovD1 b) ∧ DOK (ovD2 b) ∧ DOK (ovD b loose) := by
  have h0 := DOK.new 4096
  have h1 := h0.write 0 b
  rw [ov_1 hb] at h1
  have h2 := h1.sync 0
  rw [ov_2 b] at h2
  have h3 := h2.write 0 loose
  rw [ov_3 hb hl] at h3
  exact ⟨h0, h1, h2, h3⟩
theorem ov_fits (b loose over : List UInt8) (a : Nat) (ha : a + over.length ≤ b.length) : overD (ovD b loose) 0 (a : Nat) over = (0, { (ovD b loose).overF 0 a over with left := -1, done := 4 }) := by
  unfold overD
  have e : overOk (ovD b loose) 0 (a : Nat) over.length = true := by
    unfold overOk
    have ek : ((ovD b loose).file (0 : Int).toNat).k = b.length := rfl
    rw [ek]
    simp [okF]; omega
  rw [e, opD_calm ⟨rfl, rfl⟩, if_neg (by decide)]
  rfl
theorem ov_no (b loose over : List UInt8) (a : Int) (ha : ¬ (0 ≤ a ∧ a ≤ b.length ∧ (over.length : Int) ≤ b.length - a)) : overD (ovD b loose) 0 a over = (1, ovD b loose) := by
  unfold overD
  have e : overOk (ovD b loose) 0 a over.length = false := by
    unfold overOk
    have ek : ((ovD b loose).file (0 : Int).toNat).k = b.length := rfl
    rw [ek]
    simp [okF]; omega
  rw [e, opD_calm ⟨rfl, rfl⟩, if_pos (by decide)]
  rfl
theorem overL_take {b loose over : List UInt8} {a : Nat} (ha : a + over.length ≤ b.length) : (overL (b ++ loose) a over).take b.length = overL b a over := by
  unfold overL
  have e1 : (b ++ loose).take a = b.take a := List.take_append_of_le_length (by omega)
  have e2 : (b ++ loose).drop (a + over.length) = b.drop (a + over.length) ++ loose := List.drop_append_of_le_length (by omega)
  rw [e1, e2, ← List.append_assoc, ← List.append_assoc, ← List.append_assoc]
  rw [List.take_left' (by simp; omega)]
theorem ov_read_fits {b loose over : List UInt8} {a : Nat} (ha : a + over.length ≤ b.length) : readD (crashD ({ (ovD b loose).overF 0 a over with left := -1, done := 4 } : DD) []) 0 = overL b a over := by
  show ((crashL _ []).getD 0 FF0).d = _
  rw [crash_nil]
  show (overL (b ++ loose) a over).take b.length = _
  exact overL_take ha
theorem ov_read_no (b loose : List UInt8) : readD (crashD (ovD b loose) []) 0 = b := by
  show ((crashL _ []).getD 0 FF0).d = _
  rw [crash_nil]
  show (b ++ loose).take b.length = _
  exact List.take_left' rfl
theorem IntSl.nil (w : World) (F : Nat → Prop) : IntSl w F none 0 0 [] := ⟨rfl, Nat.le_refl _, fun _ h => (by cases h), fun j h => (by cases h)⟩
end Go.Proofs.Ytjfnpndpigpaiaa
