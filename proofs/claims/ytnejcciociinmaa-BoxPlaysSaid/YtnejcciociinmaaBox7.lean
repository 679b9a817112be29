/- all: things sealed one behind the other. -/
import Derived.Test.YtnejcciociinmaaBox6
import Derived.Test.YtnejcciociinmaaBox2
namespace Go.Proofs.Ytnejcciociinmaa
open Go.RowKit

/-- slice values, each with its bytes -/
def VsAt (w : World) (D : Nat → Prop) : List (List UInt8) → List Value → Prop
  | [], vs => vs = []
  | l :: ls, vs => ∃ v r, vs = v :: r ∧ SlV w D v l ∧ VsAt w D ls r
theorem VsAt.fr {w w' : World} {F M : Nat → Prop} (hf : Fr M w w') (hF : ∀ k, F k → k < w.heap.size ∧ ¬ M k) : ∀ (ls : List (List UInt8)) (vs : List Value), VsAt w F ls vs → VsAt w' F ls vs
  | [], _, h => h
  | _ :: ls, _, ⟨v, r, e, h1, h2⟩ => ⟨v, r, e, h1.fr hf hF, VsAt.fr hf hF ls r h2⟩
theorem VsAt.mono {w : World} {F G : Nat → Prop} (hF : ∀ k, F k → G k) : ∀ (ls : List (List UInt8)) (vs : List Value), VsAt w F ls vs → VsAt w G ls vs
  | [], _, h => h
  | _ :: ls, _, ⟨v, r, e, h1, h2⟩ => ⟨v, r, e, h1.mono hF, VsAt.mono hF ls r h2⟩
theorem VsAt.append {w : World} {D : Nat → Prop} {l : List UInt8} {v : Value} (h : SlV w D v l) : ∀ (ls : List (List UInt8)) (vs : List Value), VsAt w D ls vs → VsAt w D (ls ++ [l]) (vs ++ [v])
  | [], _, e => ⟨v, [], by have e : _ = [] := e; subst e; rfl, h, rfl⟩
  | _ :: ls, _, ⟨u, r, e, h1, h2⟩ => ⟨u, r ++ [v], by subst e; rfl, h1, VsAt.append h ls r h2⟩
theorem VsAt.length {w : World} {D : Nat → Prop} : ∀ (ls : List (List UInt8)) (vs : List Value), VsAt w D ls vs → vs.length = ls.length
  | [], _, e => by have e : _ = [] := e; subst e; rfl
  | _ :: ls, _, ⟨u, r, e, h1, h2⟩ => by subst e; rw [List.length_cons, List.length_cons, VsAt.length ls r h2]
theorem VsAt.at_ {w : World} {D : Nat → Prop} : ∀ (ls : List (List UInt8)) (vs : List Value), VsAt w D ls vs → ∀ (i : Nat) (h : i < ls.length), ∃ v, vs[i]? = some v ∧ SlV w D v ls[i]
  | [], _, _, i, hi => by simp at hi
  | _ :: _, _, ⟨v, r, e, h1, h2⟩, 0, _ => ⟨v, by subst e; rfl, h1⟩
  | _ :: ls, _, ⟨v, r, e, h1, h2⟩, i + 1, hi => by
      obtain ⟨u, hu, hs⟩ := VsAt.at_ ls r h2 i (by simpa using hi)
      exact ⟨u, by subst e; simpa using hu, hs⟩

/-- what the box is behind one sealing: its source, its rows; what was sealed -/
structure St where
  src : List UInt8
  rows : List BRow
  outs : List (List UInt8)
def St.step (s : St) (t : Th) : St :=
  ⟨s.src.drop (8 + t.plain.length), s.rows ++ [⟨t.k, t.n, t.head, t.plain, sealOf s.rows.length t.plain.length s.src⟩], s.outs ++ [sealOf s.rows.length t.plain.length s.src]⟩
def St.all (s : St) (l : List Th) : St := l.foldl St.step s
theorem St.all_take (s : St) (l : List Th) (k : Nat) (h : k < l.length) : s.all (l.take (k + 1)) = (s.all (l.take k)).step l[k] := by
  unfold St.all
  rw [List.take_succ_eq_append_getElem h, List.foldl_append]; rfl
theorem St.all_rows (l : List Th) : ∀ s : St, (s.all l).rows.length = s.rows.length + l.length := by
  induction l with
  | nil => intro s; simp [St.all]
  | cons t l ih => intro s; show ((s.step t).all l).rows.length = _; rw [ih]; simp [St.step]; omega
theorem St.all_outs (l : List Th) : ∀ s : St, (s.all l).outs.length = s.outs.length + l.length := by
  induction l with
  | nil => intro s; simp [St.all]
  | cons t l ih => intro s; show ((s.step t).all l).outs.length = _; rw [ih]; simp [St.step]; omega

theorem Try.infoSl : (Try.prog.info? 22).map (fun i => (i.zero, i.size, i.bytes)) = some (some (.slice none 0 0), 1, 24) := by kernel_rfl

/-- what holds ahead of each round -/
def AllInv (w : World) (F : Nat → Prop) (b : Nat) (s : St) (out : Value) (k : Nat) (w' : World) : Prop :=
  ∃ F' D A c vs, out = .slice A k c ∧ w'.ownsRow w.heap.size 22 1 (.slice A k c) k vs ∧ BoxAt w' b F' s.src s.rows ∧ Fr F w w' ∧ (∀ j, F' j → F j ∨ w.heap.size ≤ j) ∧
    (∀ j, (Value.slice A k c).ownBlock = some j → ¬ F' j) ∧ (∀ j, D j → w.heap.size ≤ j ∧ j < w'.heap.size ∧ ¬ F' j ∧ (Value.slice A k c).ownBlock ≠ some j) ∧ VsAt w' D s.outs vs

theorem great_no {l : List Th} (hgr : greatOf l = false) : l.length ≤ 40 ∧ ∀ t ∈ l, t.head.length ≤ 1024 ∧ t.plain.length ≤ 1024 := by
  unfold greatOf at hgr
  simp only [Bool.or_eq_false_iff, decide_eq_false_iff_not, List.any_eq_false, Bool.or_eq_true, decide_eq_true_eq, not_or] at hgr
  refine ⟨by omega, fun t h => ?_⟩
  have := hgr.2 t h
  omega
attribute [local go_sem] yld yldUpon_value

set_option maxRecDepth 100000 in
set_option maxHeartbeats 3000000 in
theorem all_any (b : Nat) (F G : Nat → Prop) (src : List UInt8) (w : World) (h : BoxAt w b F src []) (A : Option Addr) (n c : Nat) (l : List Th) (ht : ThSl w G A n c l) (hG : ∀ k, G k → k < w.heap.size ∧ ¬ F k) (hgr' : l.length ≤ 40 ∧ ∀ t ∈ l, t.head.length ≤ 140737488355000 ∧ t.plain.length ≤ 1024) :
    Calls Try.prog 20 #[.pointer (some ⟨b, 0, none⟩), .slice A n c] w fun e w' => ∃ v, e = .returned v ∧ AllInv w F b ((⟨src, [], []⟩ : St).all l) v n w' := by
  have hlen := ht.len
  have hn40 : n ≤ 40 := by have := hgr'.1; omega
  have H := Lib.hid h; have HT := Lib.hid ht; have HG := Lib.hid hG; have Hlen := Lib.hid hlen; have Hgr := Lib.hid hgr'.2
  clear hgr'
  obtain ⟨is, his, hz0, hz1, hz2⟩ := info_parts Try.infoSl
  clear h ht hG hlen
  have Hinv : Hid (∃ s0 : St, s0 = ⟨src, [], []⟩) := ⟨_, rfl⟩
  obtain ⟨s0, hs0⟩ := Hinv
  have hA0 : Hid (AllInv w F b s0 (.slice none 0 0) 0 w) := by
    subst hs0
    exact ⟨F, NoB, none, 0, [], rfl, World.ownsRow_nil _ _ _ _, H.out, Fr.refl _ _, fun j hj => .inl hj, fun j hj => by simp [Value.ownBlock] at hj, fun j hj => hj.elim, rfl⟩
  have Hs0 := Lib.hid hs0
  go_enter Try.func20, Try.ntmps20
  go_wp2
  go_loopw [5, 6] (fun v i w' => ∃ k : Nat, k ≤ n ∧ i = .int .i64 (k : Nat) ∧ Hid (AllInv w F b (s0.all (l.take k)) v k w')) (fun _ i _ => n - (intOf i).toNat)
  case atStart => exact ⟨0, Nat.zero_le _, rfl, by simpa [St.all] using hA0⟩
  case round =>
    obtain ⟨k, hk, rfl, hinv⟩ := hrel
    by_cases hlt : k < n
    · have hlt' : k < l.length := by have := Hlen.out; omega
      have hlI : (k : Int) < n := by omega
      have hkI : (0 : Int) ≤ (k : Int) := by omega
      have hst := Lib.hid (s0.all_take l k hlt')
      have hrl : Hid ((s0.all (l.take k)).rows.length ≤ 1000) := by
        show _ ≤ _
        rw [St.all_rows, List.length_take, Hs0.out]; simp; omega
      have hbd := Hgr.out l[k] (List.getElem_mem hlt')
      have Hbd := Lib.hid hbd; clear hbd
      generalize s0.all (l.take k) = s1 at hinv hst hrl ⊢
      obtain ⟨F', D, A1, c1, vs, rfl, hown, hbox, hfr, hF', hoF, hD, hvs⟩ := hinv
      have Hfr := Lib.hid hfr; have HF' := Lib.hid hF'; have HoF := Lib.hid hoF; have HD := Lib.hid hD; have Hvs := Lib.hid hvs; have Hbox := Lib.hid hbox; have Hown := Lib.hid hown
      have hGF : Hid (∀ j, G j → j < wr.heap.size ∧ ¬ F' j) := fun j hj => ⟨Nat.lt_of_lt_of_le (HG.out j hj).1 hfr.size, fun h => by
        rcases hF' j h with h | h
        · exact (HG.out j hj).2 h
        · have := (HG.out j hj).1; omega⟩
      have hT1 := HT.out.fr hfr HG.out
      obtain ⟨g, o, HA, hn, hc, PA, pn, pc, rfl, hg, lk, ln, rk, rn, c44, c45, s44, s45, -⟩ := hT1.open_ k hlt'
      have Hg := Lib.hid (hGF.out g hg); have HgG := Lib.hid hg
      have hSw : Hid (∀ w' : World, wr.heap[g]? = w'.heap[g]? → (w'.rangeAt g (o + k * 46) (bs l[k].k) ∧ w'.rangeAt g (o + k * 46 + 32) (bs l[k].n) ∧ w'.cell? ⟨g, o + k * 46 + 44, none⟩ = some (.slice HA hn hc) ∧ w'.cell? ⟨g, o + k * 46 + 45, none⟩ = some (.slice PA pn pc))) := by
        intro w' he
        refine ⟨fun j v hv => ?_, fun j v hv => ?_, ?_, ?_⟩
        · rw [World.cell?_of_block (w := wr) he.symm]; exact rk j v hv
        · rw [World.cell?_of_block (w := wr) he.symm]; exact rn j v hv
        · rw [World.cell?_of_block (w := wr) he.symm]; exact c44
        · rw [World.cell?_of_block (w := wr) he.symm]; exact c45
      have L44 := Lib.hid s44.len; have L45 := Lib.hid s45.len
      have S44 := Lib.hid s44; have S45 := Lib.hid s45
      have Lk := Lib.hid lk; have Ln := Lib.hid ln
      have u1 := Try.underlying38
      have u2 := Try.underlying40
      have i1 : (Try.prog.info? 38).map (·.size) = some (bs l[k].k).length := by rw [bs_length, lk]; kernel_rfl
      have i2 : (Try.prog.info? 40).map (·.size) = some (bs l[k].n).length := by rw [bs_length, ln]; kernel_rfl
      clear hfr hF' hoF hD hvs hbox hT1 rk rn c44 c45 s44 s45 lk ln hg hown
      go_wp2_with fail
      have hS0 := Lib.hid (hSw.out wr.drew rfl)
      refine wp_region_ord (fun w' => w'.rangeAt g (o + k * 46) (bs l[k].k) ∧ w'.rangeAt g (o + k * 46 + 32) (bs l[k].n) ∧ w'.cell? ⟨g, o + k * 46 + 44, none⟩ = some (.slice HA hn hc) ∧ w'.cell? ⟨g, o + k * 46 + 45, none⟩ = some (.slice PA pn pc)) 26
        [(0, true), (1, true), (2, true), (3, true), (4, true), (5, true), (6, true), (7, true), (8, true), (9, true), (10, true), (11, true), (12, true), (13, true), (14, true), (15, true), (16, true), (17, true), (18, true), (19, true), (20, true), (21, true), (22, false), (23, false), (24, false), (25, false)]
        (by kernel_rfl) (by kernel_rfl) (fun _ _ _ _ _ h => h) ?_
      iterate 6 (
        refine ord_yld hS0.out rfl rfl rfl (Nat.le_of_ble_eq_true rfl) ?_
        apply Exists.intro
        refine ⟨fun w' hS' K hK => ?_, ?_⟩
        (focus
          obtain ⟨q1, q2, q3, q4⟩ := hS'
          go_simp
          exact hK))
      refine ord_load_mid hS0.out rfl _ _ (bs l[k].k) _ rfl (fun w' hS' => hS'.1) u1 rfl i1 ?_
      simp only [Act.put, List.setIfInBounds_toArray, List.set_cons_zero, List.set_cons_succ]
      iterate 4 (
        refine ord_yld hS0.out rfl rfl rfl (Nat.le_of_ble_eq_true rfl) ?_
        apply Exists.intro
        refine ⟨fun w' hS' K hK => ?_, ?_⟩
        (focus
          obtain ⟨q1, q2, q3, q4⟩ := hS'
          go_simp
          exact hK))
      refine ord_load_mid hS0.out rfl _ _ (bs l[k].n) _ rfl (fun w' hS' => hS'.2.1) u2 rfl i2 ?_
      simp only [Act.put, List.setIfInBounds_toArray, List.set_cons_zero, List.set_cons_succ]
      iterate 10 (
        refine ord_yld hS0.out rfl rfl rfl (Nat.le_of_ble_eq_true rfl) ?_
        apply Exists.intro
        refine ⟨fun w' hS' K hK => ?_, ?_⟩
        (focus
          obtain ⟨q1, q2, q3, q4⟩ := hS'
          go_simp
          exact hK))
      have hdr : Fr NoB wr wr.drew := Fr.drew (Fr.refl _ _)
      have hbd := Hbd.out; have hl4 := L44.out; have hl5 := L45.out
      refine ord_run rfl rfl (fun K hK => ?_)
      go_wp2_with fail
      refine (Seal_any b F' G s1.src s1.rows wr.drew (Hbox.out.fr hdr (fun _ _ e => e)) l[k].k l[k].n Lk.out Ln.out HA hn hc l[k].head (S44.out.fr hdr (fun j hj => ⟨(hGF.out j hj).1, id⟩)) PA pn pc l[k].plain (S45.out.fr hdr (fun j hj => ⟨(hGF.out j hj).1, id⟩)) (fun j hj => hGF.out j hj) (by omega) (by omega) hrl.out).mono ?_
      rintro e w2 ⟨F2, g2, c2, rfl, hown2, hbox2, hF2, hg2, hfr2⟩
      have hsz : wr.heap.size ≤ w2.heap.size := hfr2.size
      refine hK _ _ ⟨fun _ => hSw.out w2 (hfr2.block g Hg.out.1 Hg.out.2).symm, ?_⟩
      clear hK K
      have g2lt := hown2.lt g2 rfl
      refine ord_run rfl rfl (fun K hK => ?_)
      go_wp2_with fail
      have hfr3 : Fr NoB w2 (w2.alloc (.cells #[.slice (some ⟨g2, 0, none⟩) (16 + pn) c2] 22)) := Fr.alloc (Fr.refl _ _) _
      have hrd3 := new_one w2 (.slice (some ⟨g2, 0, none⟩) (16 + pn) c2) 22
      have hsz3 : (w2.alloc (.cells #[.slice (some ⟨g2, 0, none⟩) (16 + pn) c2] 22)).heap.size = w2.heap.size + 1 := by simp
      have hS3 := hSw.out _ ((hfr3.block g (Nat.lt_of_lt_of_le Hg.out.1 hsz) id).trans (hfr2.block g Hg.out.1 Hg.out.2)).symm
      refine ⟨fun _ => hS3, ?_⟩
      refine ord_run rfl rfl (fun K hK => ?_)
      generalize w2.alloc (.cells #[.slice (some ⟨g2, 0, none⟩) (16 + pn) c2] 22) = w3 at hfr3 hrd3 hsz3 hS3 ⊢
      have hsz2 := Hfr.out.size
      have hown3 : w3.ownsRow w.heap.size 22 1 (.slice A1 k c1) k vs := own_fr (own_fr (own_fr Hown.out hdr (fun _ _ e => e)) hfr2 (fun j hj => HoF.out j hj)) hfr3 (fun _ _ e => e)
      refine wp_append_rd w3 _ _ 33 rfl w.heap.size 22 is _ 1 24 Try.underlying33 his hz0 hz1 hz2 rfl (by decide) _ k _ rfl
        hown3 (some ⟨w2.heap.size, 0, none⟩) 1 1 [.slice (some ⟨g2, 0, none⟩) (16 + pn) c2] rfl rfl (fun j x hx => ⟨_, rfl, hrd3 j x hx⟩) (by intro u hu; simp at hu; subst hu; rfl) (by simp only [maxLen]; omega) (by omega) (by omega) ?_
      intro A4 c4 w4 hown4 hg4 hat4
      have hfr4 : Fr (fun j => some j = (Value.slice A1 k c1).ownBlock) w3 w4 := Fr.of_grown hg4
      have hoG : (Value.slice A1 k c1).ownBlock ≠ some g := fun e => by
        have h1 := (Hown.out.lt g e).1
        have h2 := (HG.out g HgG.out).1
        omega
      have hS4 := hSw.out _ (((hfr4.block g (by have := Hg.out.1; omega) (fun e => hoG e.symm)).trans (hfr3.block g (Nat.lt_of_lt_of_le Hg.out.1 hsz) id)).trans (hfr2.block g Hg.out.1 Hg.out.2)).symm
      refine hK _ _ ⟨fun _ => hS4, ?_⟩
      clear hK K
      simp only [Act.put, List.setIfInBounds_toArray, List.set_cons_zero, List.set_cons_succ]
      refine ord_run rfl rfl (fun K hK => ?_)
      refine hK _ _ ⟨fun _ => hS4, ?_⟩
      clear hK K
      refine ord_end ?_
      simp only [Act.put, List.setIfInBounds_toArray, List.set_cons_zero, List.set_cons_succ]
      go_wp2
      go_roundw
      case rel =>
        refine ⟨k + 1, by omega, by go_num, ?_⟩
        show AllInv w F b (s0.all (l.take (k + 1))) (.slice A4 (k + 1) c4) _ _
        rw [hst.out]
        subst hl5
        have hsD : wr.drew.heap.size = wr.heap.size := rfl
        rw [hsD] at g2lt hF2
        refine ⟨F2, fun j => D j ∨ j = g2, A4, c4, _, rfl, hown4, (hbox2.fr hfr3 (fun _ _ e => e)).fr hfr4 ?_, ?_, ?_, ?_, ?_, ?_⟩
        · intro j hj e
          rcases hF2 j hj with h | h
          · exact HoF.out j e.symm h
          · have := (Hown.out.lt j e.symm).2; omega
        · refine (((Fr.drew Hfr.out).trans hfr2 ?_).trans hfr3 (fun _ _ e => e.elim)).trans hfr4 ?_
          · intro j hj h
            rcases HF'.out j h with h | h
            · exact h
            · omega
          · intro j hj e
            have := (Hown.out.lt j e.symm).1
            omega
        · intro j hj
          rcases hF2 j hj with h | h
          · exact HF'.out j h
          · right; omega
        · intro j hj h
          rcases hat4 with e | e
          · rw [e] at hj
            rcases hF2 j h with h | h
            · exact HoF.out j hj h
            · have := (Hown.out.lt j hj).2; omega
          · rw [e] at hj; injection hj with hj
            have := hbox2.1 j h
            omega
        · have h4 := hfr4.size
          rintro j (hj | rfl)
          · obtain ⟨q1, q2, q3, q4⟩ := HD.out j hj
            refine ⟨q1, by omega, fun h => ?_, fun e => ?_⟩
            · rcases hF2 j h with h | h
              · exact q3 h
              · omega
            · rcases hat4 with e' | e'
              · exact q4 (e' ▸ e)
              · rw [e'] at e; injection e with e; omega
          · refine ⟨by omega, by omega, hg2, fun e => ?_⟩
            rcases hat4 with e' | e'
            · have := (Hown.out.lt j (e' ▸ e)).2; omega
            · rw [e'] at e; injection e with e; omega
        · have hv1 : VsAt w4 (fun j => D j ∨ j = g2) s1.outs vs := by
            refine VsAt.mono (fun _ h => .inl h) _ _ ?_
            have h0 : VsAt wr D s1.outs vs := Hvs.out
            have h1 : VsAt wr.drew D s1.outs vs := h0.fr hdr (fun j hj => ⟨(HD.out j hj).2.1, id⟩)
            have h2 := h1.fr hfr2 (fun j hj => ⟨(HD.out j hj).2.1, (HD.out j hj).2.2.1⟩)
            have h3 := h2.fr hfr3 (fun j hj => ⟨Nat.lt_of_lt_of_le (HD.out j hj).2.1 hsz, id⟩)
            exact h3.fr hfr4 (fun j hj => ⟨by have := (HD.out j hj).2.1; omega, fun e => (HD.out j hj).2.2.2 e.symm⟩)
          refine VsAt.append ?_ _ _ hv1
          have hsl := (Sl.of_own hown2).fr hfr3 (fun j hj => ⟨hj.2.1, id⟩)
          have hsl4 := hsl.fr hfr4 (fun j hj => ⟨by have := hj.2.1; omega, fun e => by
            have h1 := hj.2.2
            simp [Value.ownBlock] at h1
            have := (Hown.out.lt j e.symm).2; omega⟩)
          exact ⟨_, _, _, rfl, hsl4.mono (fun j hj => .inr (by have h1 := hj.2.2; simp [Value.ownBlock] at h1; exact h1.symm))⟩
      case measure => simp [intOf] <;> omega
    · go_wp2
      go_ret
      have : k = n := by omega
      subst this
      have e : l.take k = l := List.take_of_length_le (by have := Hlen.out; omega)
      rw [e, Hs0.out] at hinv
      exact ⟨_, rfl, hinv⟩
end Go.Proofs.Ytnejcciociinmaa

