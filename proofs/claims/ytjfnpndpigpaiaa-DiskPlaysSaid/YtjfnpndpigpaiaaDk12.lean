/- The disk: Crash. -/
import Derived.Test.YtjfnpndpigpaiaaDk11
import Derived.Test.YtjfnpndpigpaiaaOpnI
namespace Go.Proofs.Ytjfnpndpigpaiaa
open Go.RowKit
attribute [local go_sem] yld yldUpon_value

theorem IntSl.tail {w : World} {F : Nat → Prop} {A A' : Option Addr} {n c : Nat} {x : Int} {l : List Int} (h : IntSl w F A n c (x :: l)) (hA : A' = A.map (·.add 1) ∨ c = 1) : IntSl w F A' (n - 1) (c - 1) l := by
  have hl := h.len
  have hcap := h.cap
  simp only [List.length_cons] at hl
  refine ⟨by omega, by omega, fun y hy => h.wf y (by simp [hy]), fun j hj => ?_⟩
  have hA := hA.resolve_right (by omega)
  obtain ⟨ad, e, hF, hc⟩ := h.at_ (j + 1) (by simp; omega)
  subst hA
  refine ⟨ad.add 1, by rw [e]; rfl, by rw [addr_add_block]; exact hF, ?_⟩
  rw [addr_add_add, Nat.add_comm 1 j]; exact hc
structure CrashI (w wr : World) (g : Nat) (D : DD) (vs : Vs) (keep : List Int) (F : Nat → Prop) (k : Nat) (A1 : Option Addr) (n1 c1 : Nat) (kl : List Int) (pre : List FF) (vs1 : Vs) : Prop where
  disk : DiskAt wr g { D with fs := pre ++ D.fs.drop k } vs1
  len : pre.length = k
  eq : crashL D.fs keep = pre ++ crashL (D.fs.drop k) kl
  isl : IntSl wr F A1 n1 c1 kl
  fr : Fr (dfoot g vs) w wr
  foot : ∀ j, dfoot g vs1 j → dfoot g vs j ∨ w.heap.size ≤ j
theorem drop_file {D : DD} {k : Nat} (hk : k < D.fs.length) : D.fs.drop k = D.file k :: D.fs.drop (k + 1) := by
  rw [List.drop_eq_getElem_cons hk]
  unfold DD.file
  rw [List.getD_eq_getElem?_getD, List.getElem?_eq_getElem hk]; rfl
theorem CrashI.file {w wr : World} {g : Nat} {D : DD} {vs : Vs} {keep : List Int} {F : Nat → Prop} {k : Nat} {A1 : Option Addr} {n1 c1 : Nat} {kl : List Int} {pre : List FF} {vs1 : Vs} (h : CrashI w wr g D vs keep F k A1 n1 c1 kl pre vs1) (hk : k < D.fs.length) :
    DD.file { D with fs := pre ++ D.fs.drop k } k = D.file k := by
  have hl := h.len
  show (pre ++ D.fs.drop k).getD k FF0 = _
  rw [drop_file hk, List.getD_eq_getElem?_getD, List.getElem?_append_right (by omega), hl, Nat.sub_self]; rfl
/-- a file without loose bytes is left -/
theorem CrashI.skip {w wr : World} {g : Nat} {D : DD} {vs : Vs} {keep : List Int} {F : Nat → Prop} {k : Nat} {A1 : Option Addr} {n1 c1 : Nat} {kl : List Int} {pre : List FF} {vs1 : Vs} (h : CrashI w wr g D vs keep F k A1 n1 c1 kl pre vs1) (hk : k < D.fs.length)
    (hz : (D.file k).d.length = (D.file k).k) {wx : World} (hb : Below wr.heap.size wr wx) (hF : ∀ k, F k → k < w.heap.size) : CrashI w wx g D vs keep F (k + 1) A1 n1 c1 kl (pre ++ [D.file k]) vs1 := by
  refine ⟨?_, by simp [h.len], ?_, h.isl.fr (Fr.of_below (M := NoB) hb) (fun k hk => ⟨Nat.lt_of_lt_of_le (hF k hk) h.fr.size, id⟩), h.fr.tr (Fr.of_below hb), h.foot⟩
  · have := h.disk.bel hb
    rw [List.append_assoc, List.singleton_append, ← drop_file hk]; exact this
  · rw [h.eq, drop_file hk, List.append_assoc, List.singleton_append]
    congr 1
    rw [crashL, if_pos hz]
theorem set_mid (pre r : List FF) (x y : FF) : (pre ++ x :: r).set pre.length y = pre ++ [y] ++ r := by
  rw [List.set_append_right _ _ (Nat.le_refl _), Nat.sub_self, List.set_cons_zero, List.append_assoc, List.singleton_append]
/-- one with loose bytes is cut -/
theorem CrashI.next {w wr : World} {g : Nat} {D : DD} {vs : Vs} {keep : List Int} {F : Nat → Prop} {k : Nat} {A1 : Option Addr} {n1 c1 : Nat} {kl : List Int} {pre : List FF} {vs1 : Vs} (h : CrashI w wr g D vs keep F k A1 n1 c1 kl pre vs1) (hk : k < D.fs.length) (hk33 : k < 33)
    (hz : (D.file k).d.length ≠ (D.file k).k) {st : Nat} (hst : st = (max 0 (min (kl.headD 0) (((D.file k).d.length : Int) - (D.file k).k))).toNat) (hle : (D.file k).k ≤ (D.file k).d.length)
    {A2 : Option Addr} {n2 c2 : Nat} (hi : IntSl wr F A2 n2 c2 kl.tail) {a b : World} (ha : Below wr.heap.size wr a) (hb : Below a.heap.size (a.setCell ⟨g, 1 + k * 2 + 1, none⟩ (.int .i64 (((D.file k).k + st : Nat) : Int))) b) (hF : ∀ k, F k → k < w.heap.size ∧ ¬ dfoot g vs k) :
    CrashI w (b.setCell ⟨g, 1 + k * 2, none⟩ (.slice (vA vs1 k) ((D.file k).k + st) ((D.file k).k + st))) g D vs keep F (k + 1) A2 n2 c2 kl.tail (pre ++ [keepF (D.file k) (kl.headD 0)]) (vs1.set k (vA vs1 k, (D.file k).k + st)) := by
  have hg := h.disk.gt
  have hfile := h.file hk
  have hd1 := (h.disk.bel ha).setLast hk33 ((D.file k).k + st)
  have hs1 : (a.setCell ⟨g, 1 + k * 2 + 1, none⟩ (.int .i64 (((D.file k).k + st : Nat) : Int))).heap.size = a.heap.size := by simp [World.setCell]
  have hd2 := hd1.bel (by rw [hs1]; exact hb)
  have hst2 : (D.file k).k + st ≤ (D.file k).d.length := by omega
  have hlen0 : k < (({ D with fs := pre ++ D.fs.drop k } : DD)).fs.length := by rw [h.disk.len]; exact hk33
  have hf2 : ((DD.put { D with fs := pre ++ D.fs.drop k } k ⟨(DD.file { D with fs := pre ++ D.fs.drop k } k).d, (D.file k).k + st⟩).file k) = ⟨(D.file k).d, (D.file k).k + st⟩ := by
    rw [file_put hlen0, if_pos rfl, hfile]
  have hFA := (hd2.file k hk33).take (n := (D.file k).k + st) (by rw [hf2]; exact hst2)
  have hd3 := hd2.setData hk33 hFA (fun ad e => hd2.ne k ad hk33 e) (fun f' ad ad' a1 a2 a3 a4 => hd2.sep k f' ad ad' hk33 a1 (fun x => a2 x.symm) a3 a4)
  have hlt : (List.take ((D.file k).k + st) ((DD.put { D with fs := pre ++ D.fs.drop k } k ⟨(DD.file { D with fs := pre ++ D.fs.drop k } k).d, (D.file k).k + st⟩).file k).d).length = (D.file k).k + st := by
    rw [hf2, List.length_take]; exact Nat.min_eq_left hst2
  rw [hlt, hf2] at hd3
  have hkf : keepF (D.file k) (kl.headD 0) = ⟨(D.file k).d.take ((D.file k).k + st), (D.file k).k + st⟩ := by unfold keepF; rw [← hst]
  have hfrA : Fr (dfoot g vs) wr (b.setCell ⟨g, 1 + k * 2, none⟩ (.slice (vA vs1 k) ((D.file k).k + st) ((D.file k).k + st))) :=
    (Fr.of_below ha).tr ((Fr.of_set a g (1 + k * 2 + 1) _ (.inl rfl)).tr ((Fr.of_below (by rw [hs1]; exact hb)).tr (Fr.of_set b g _ _ (.inl rfl))))
  refine ⟨?_, by simp [h.len], ?_, hi.fr hfrA (fun k hk => ⟨Nat.lt_of_lt_of_le (hF k hk).1 h.fr.size, (hF k hk).2⟩), h.fr.tr hfrA, fun j hj => ?_⟩
  · have e : (DD.put (DD.put { D with fs := pre ++ D.fs.drop k } k ⟨(DD.file { D with fs := pre ++ D.fs.drop k } k).d, (D.file k).k + st⟩) k ⟨(D.file k).d.take ((D.file k).k + st), (D.file k).k + st⟩) = { D with fs := (pre ++ [keepF (D.file k) (kl.headD 0)]) ++ D.fs.drop (k + 1) } := by
      rw [hkf]
      unfold DD.put
      simp only [List.set_set]
      congr 1
      rw [drop_file hk]
      have := set_mid pre (D.fs.drop (k + 1)) (D.file k) ⟨(D.file k).d.take ((D.file k).k + st), (D.file k).k + st⟩
      rw [h.len] at this; exact this
    rw [e] at hd3
    exact hd3
  · rw [h.eq, drop_file hk, List.append_assoc, List.singleton_append]
    congr 1
    rw [crashL, if_neg hz]
  · rcases dfoot_set (by rw [h.disk.vlen]; exact hk33) hj with hj | ⟨ad, e, rfl⟩
    · exact h.foot _ hj
    · exact h.foot _ (.inr ⟨k, ad, hk33, e, rfl⟩)
end Go.Proofs.Ytjfnpndpigpaiaa
