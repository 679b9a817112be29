/- The disk: Used, and what operations do. -/
import Derived.Test.YtjfnpndpigpaiaaDk4
namespace Go.Proofs.Ytjfnpndpigpaiaa
open Go.RowKit
attribute [local go_sem] yld yldUpon_value

theorem usedL_take (fs : List FF) (k : Nat) (h : k < fs.length) : usedL (fs.take (k + 1)) = usedL (fs.take k) + (fs.getD k FF0).d.length := by
  unfold usedL
  rw [List.take_succ_eq_append_getElem h, List.map_append, List.sum_append, List.getD_eq_getElem?_getD, List.getElem?_eq_getElem h]
  rfl
theorem usedL_take_le (fs : List FF) (k : Nat) : usedL (fs.take k) ≤ usedL fs := by
  have : usedL fs = usedL (fs.take k) + usedL (fs.drop k) := by
    conv => lhs; rw [← List.take_append_drop k fs]
    simp [usedL, -List.take_append_drop]
  omega
set_option maxHeartbeats 400000 in
theorem Used_any {w : World} {g : Nat} {D : DD} {vs : Vs} (h : DiskAt w g D vs) (hu : usedL D.fs ≤ 1000000000) :
    Calls Try.prog 16 #[.pointer (some ⟨g, 0, none⟩)] w fun e w' => e = .returned (.int .i64 (usedL D.fs : Nat)) ∧ w = w' := by
  have H := Lib.hid h; have HU := Lib.hid hu
  clear h hu
  go_enter Try.func16, Try.ntmps16
  go_wp2_with fail
  go_loop [3, 5] (fun n i => ∃ k : Nat, k ≤ 33 ∧ i = .int .i64 (k : Nat) ∧ n = .int .i64 (usedL (D.fs.take k) : Nat)) (fun _ i => 33 - (intOf i).toNat)
  case atStart => exact ⟨0, Nat.zero_le _, rfl, rfl⟩
  case round =>
    obtain ⟨k, hk, rfl, rfl⟩ := hrel
    by_cases hlt : k < 33
    · have hlI : (k : Int) < 33 := by omega
      have hk0 : (0 : Int) ≤ (k : Int) := by omega
      have hc := H.out.cData k hlt
      have HS := Lib.hid (usedL_take D.fs k (by rw [H.out.len]; exact hlt))
      have hle := Nat.le_trans (usedL_take_le D.fs (k + 1)) HU.out
      rw [HS.out] at hle
      have hfe : (D.fs.getD k FF0).d.length = (D.file k).d.length := rfl
      rw [hfe] at hle HS
      clear hfe
      obtain ⟨u, hu⟩ : ∃ u, u = usedL (D.fs.take k) := ⟨_, rfl⟩
      rw [← hu] at hle HS ⊢
      obtain ⟨v, hv⟩ : ∃ v, v = (D.file k).d.length := ⟨_, rfl⟩
      rw [← hv] at hle HS hc
      clear hu hv
      go_wp2_with fail
      go_round
      case rel => exact ⟨k + 1, by omega, by go_num, by rw [HS.out]; go_num⟩
      case measure => simp [intOf]; omega
    · have hkl : k = 33 := by omega
      subst hkl
      have e : D.fs.take 33 = D.fs := List.take_of_length_le (by rw [H.out.len]; exact Nat.le_refl _)
      rw [e]
      go_wp2_with fail
      go_ret
      exact ⟨rfl, rfl⟩
theorem DiskAt.newA {w : World} {g : Nat} {D : DD} {vs : Vs} (h : DiskAt w g D vs) {f : Nat} (hf : f < 33) {A' : Option Addr} (hA : A' = vA vs f ∨ ∃ b, A' = some ⟨b, 0, none⟩ ∧ w.heap.size ≤ b) :
    (∀ ad, A' = some ad → ad.block ≠ g) ∧ (∀ f' ad ad', f' < 33 → f' ≠ f → A' = some ad → vA vs f' = some ad' → ad.block ≠ ad'.block) ∧ ∀ ad, A' = some ad → dfoot g vs ad.block ∨ w.heap.size ≤ ad.block := by
  rcases hA with rfl | ⟨b, rfl, hb⟩
  · exact ⟨fun ad e => h.ne f ad hf e, fun f' ad ad' h1 h2 e e' => h.sep f f' ad ad' hf h1 (fun x => h2 x.symm) e e', fun ad e => .inl (.inr ⟨f, ad, hf, e, rfl⟩)⟩
  · refine ⟨fun ad e => ?_, fun f' ad ad' h1 h2 e e' => ?_, fun ad e => ?_⟩
    · injection e with e; subst e; have := h.gt; show b ≠ g; omega
    · injection e with e; subst e; have := (h.file f' h1).lt ad' e'; intro x; have x' : b = ad'.block := x; omega
    · injection e with e; subst e; exact .inr hb
/-- append to a file's bytes, in a walk -/
theorem wp_file_append {w : World} {o : Oper} {a : Act} {K : Act → World → Prop} {Q : Exit → Act → World → Prop} (s x : Operand)
    (ho : o.op = .call { callee := .builtin .append, args := #[s, x], argTypes := #[31, 31] })
    {l b : List UInt8} {A : Option Addr} {c n : Nat} (hn : n = l.length) (hs : a.eval s = .slice A n c) (hF : FileAt w l A c) {F : Nat → Prop} {B : Option Addr} {m d : Nat} (hx : a.eval x = .slice B m d) (hb : Sl w F B m d b) (hsm : l.length + m ≤ 1000000000)
    (h : ∀ A' c' w', Hid (FileAt w' (l ++ b) A' c') → Hid (FileAt w' l A c) → Hid (Fr (Blk A) w w') → Hid (A' = A ∨ ∃ g, A' = some ⟨g, 0, none⟩ ∧ w.heap.size ≤ g) → K (a.put o.dst (.slice A' (l.length + m) c')) w') : o.wp Try.prog a w K Q := by
  subst hn
  obtain ⟨A', c', w', hrun, h1, h2, h3, h4⟩ := hF.append hb hsm o.type
  unfold Oper.wp execOp
  simp only [ho, resolve, invoke, builtin, Sem.run_bind, Sem.run_pure, Result.andThen_ok, List.map_toArray, List.map_cons, List.map_nil, hs, hx, hrun]
  exact h A' c' w' (Lib.hid h1) (Lib.hid h2) (Lib.hid h3) (Lib.hid h4)

set_option maxRecDepth 100000 in
set_option maxHeartbeats 1000000 in
theorem Write1_any {w : World} {g : Nat} {D : DD} {vs : Vs} (h : DiskAt w g D vs) {f : Nat} (hf : f < 33) {bx bb : Nat} (hx : w.cell? ⟨bx, 0, none⟩ = some (.pointer (some ⟨g, 1 + f * 2, none⟩))) (hxn : ¬ dfoot g vs bx) (hbn : ¬ dfoot g vs bb)
    {F : Nat → Prop} {B : Option Addr} {m d : Nat} {b : List UInt8} (hb : w.cell? ⟨bb, 0, none⟩ = some (.slice B m d)) (hS : Sl w F B m d b) (hsm : (D.file f).d.length + m ≤ 1000000000) :
    Calls Try.prog 34 #[.pointer (some ⟨bx, 0, none⟩), .pointer (some ⟨bb, 0, none⟩)] w fun e w' => e = .returned (.tuple #[]) ∧ Dstep g vs w w' (D.put f ⟨(D.file f).d ++ b, (D.file f).k⟩) := by
  have H := Lib.hid h; have HS := Lib.hid hS; have HF := Lib.hid hf; have HM := Lib.hid hsm
  have hc := h.cData f hf
  have hz := h.frozen (1 + f * 2)
  have lx := block_lt_of hx
  have lb := block_lt_of hb
  have lg := h.gt
  obtain ⟨M, hM⟩ : ∃ M : Nat → Prop, M = Blk (vA vs f) := ⟨_, rfl⟩
  have mg : ¬ M g := by rw [hM]; exact fun ⟨ad, e, hb⟩ => h.ne f ad hf e hb
  have mx : ¬ M bx := by rw [hM]; exact fun ⟨ad, e, hb⟩ => hxn (.inr ⟨f, ad, hf, e, hb⟩)
  have mb : ¬ M bb := by rw [hM]; exact fun ⟨ad, e, hb⟩ => hbn (.inr ⟨f, ad, hf, e, hb⟩)
  have HMe := Lib.hid hM
  clear h hS hf hsm hM hxn hbn
  go_enter Try.func34, Try.ntmps34
  go_wp2_with fail
  refine wp_calm ?_
  refine wp_region_os (fun _ w' => Fr M (w).drew w') [0, 1, 4, 5] (.take 0 (.take 1 (.move 2 (.move 3 (.take 4 (.take 5 (.run 6 [0, 1] (.move 7 (.move 8 (.run 9 [] .done)))))))))) (by kernel_rfl) (by kernel_rfl) (fun _ _ _ _ _ h => nomatch h.1) ?_
  have hS0 : Fr M (w).drew (w).drew := Fr.refl _ _
  refine os_yld hS0 rfl rfl rfl (Nat.le_of_ble_eq_true rfl) ?_
  apply Exists.intro
  refine ⟨fun w' hS' K hK => ?_, ?_⟩
  (focus
    obtain ⟨hcc, hff⟩ := bcellM (Fr.undr hS')
    clear hS'
    go_simp
    exact hK)
  refine os_yld hS0 rfl rfl rfl (Nat.le_of_ble_eq_true rfl) ?_
  apply Exists.intro
  refine ⟨fun w' hS' K hK => ?_, ?_⟩
  (focus
    obtain ⟨hcc, hff⟩ := bcellM (Fr.undr hS')
    clear hS'
    go_simp
    exact hK)
  refine os_move rfl rfl rfl (Nat.le_of_ble_eq_true rfl) ?_
  apply Exists.intro
  refine ⟨fun w' K hK => ?_, ?_⟩
  (focus
    go_simp
    exact hK)
  refine os_move rfl rfl rfl (Nat.le_of_ble_eq_true rfl) ?_
  apply Exists.intro
  refine ⟨fun w' K hK => ?_, ?_⟩
  (focus
    go_simp
    exact hK)
  refine os_yld hS0 rfl rfl rfl (Nat.le_of_ble_eq_true rfl) ?_
  apply Exists.intro
  refine ⟨fun w' hS' K hK => ?_, ?_⟩
  (focus
    obtain ⟨hcc, hff⟩ := bcellM (Fr.undr hS')
    clear hS'
    go_simp
    exact hK)
  refine os_yld hS0 rfl rfl rfl (Nat.le_of_ble_eq_true rfl) ?_
  apply Exists.intro
  refine ⟨fun w' hS' K hK => ?_, ?_⟩
  (focus
    obtain ⟨hcc, hff⟩ := bcellM (Fr.undr hS')
    clear hS'
    go_simp
    exact hK)
  refine os_run rfl rfl (fun K hK => ?_)
  refine wp_file_append (.tmp 6) (.tmp 7) rfl rfl rfl (H.out.file f HF.out) rfl (show Sl w.drew F B m d b from HS.out.dr 1) HM.out ?_
  intro A' c' w1 hF1 hF0 hfr hA
  have F1 : Hid (Fr M w.drew w1) := by rw [HMe.out]; exact hfr.out
  have D1 : Hid (DiskAt w1 g D vs) := by
    have h1 := H.out.turn HF.out (Fr.undr hfr.out) hF0.out rfl
    have h2 : D.put f ⟨(D.file f).d, (D.file f).k⟩ = D := put_same (by rw [H.out.len]; exact HF.out)
    rw [h2] at h1; exact h1
  have hc1 := D1.out.cData f HF.out
  have hz1 := D1.out.frozen (1 + f * 2)
  refine hK _ _ ⟨fun _ _ h => Fr.tr h (F1.out), ?_⟩
  clear hK
  replace hS0 := Fr.tr hS0 (F1.out)
  refine os_move rfl rfl rfl (Nat.le_of_ble_eq_true rfl) ?_
  apply Exists.intro
  refine ⟨fun w' K hK => ?_, ?_⟩
  (focus
    go_simp
    exact hK)
  refine os_move rfl rfl rfl (Nat.le_of_ble_eq_true rfl) ?_
  apply Exists.intro
  refine ⟨fun w' K hK => ?_, ?_⟩
  (focus
    go_simp
    exact hK)
  refine os_run rfl rfl (fun K hK => ?_)
  go_wp2_with fail
  refine ⟨fun _ hk => absurd hk List.not_mem_nil, ?_⟩
  refine os_done ⟨rfl, ?_⟩
  go_wp2_with fail
  go_end0
  obtain ⟨n1, n2, n3⟩ := H.out.newA HF.out hA.out
  have hl : (D.file f).d.length + m = ((D.file f).d ++ b).length := by rw [List.length_append, HS.out.len]
  rw [hl]
  refine ⟨rfl, vs.set f (A', c'), D1.out.setData HF.out hF1.out n1 n2, ?_, fun k hk => ?_⟩
  · exact ((Fr.undr hfr.out).mono (fun k _ ⟨ad, e, hb⟩ => .inr ⟨f, ad, HF.out, e, hb⟩)).tr (Fr.of_set w1 g _ _ (.inl rfl))
  · rcases dfoot_set (by rw [H.out.vlen]; exact HF.out) hk with hk | ⟨ad, e, rfl⟩
    · exact .inl hk
    · exact n3 ad e
theorem overL_nil (l : List UInt8) (a : Nat) : overL l a [] = l := by unfold overL; rw [List.nil_append, List.length_nil, Nat.add_zero, List.take_append_drop]
/-- bytes laid over a file's -/
theorem FileAt.copy {w : World} {l b : List UInt8} {A : Option Addr} {c : Nat} (h : FileAt w l A c) {a dl dc : Nat} {Ad : Option Addr} (ha : a + b.length ≤ l.length) (hdl : dl = l.length - a) (hAd : Ad = A.map (·.add a) ∨ b = [])
    {F : Nat → Prop} {B : Option Addr} {m d : Nat} (hb : Sl w F B m d b) (ty : TypeId) :
    ∃ w', (Builtin.copy_ #[31, 31] ty #[.slice Ad dl dc, .slice B m d]).run Try.prog w = .ok (.int .i64 (min m dl : Nat)) w' ∧ FileAt w' (overL l a b) A c ∧ Fr (Blk A) w w' := by
  obtain ⟨i0, hi, hz0, hz1, hz2⟩ := info_parts Try.infoB
  have hsz : (Try.prog.info? 5).map (·.size) = some 1 := by rw [hi]; simp [hz1]
  have hbl := hb.len
  by_cases hn : b = []
  · subst hn
    have hm : m = 0 := by rw [← hbl]; rfl
    refine ⟨w, ?_, by rw [overL_nil]; exact h, Fr.refl _ _⟩
    have := run_copy_none (P := Try.prog) w 31 31 ty 5 Ad B dl dc m d Try.underlying31 hsz (by simp [hm])
    rw [this, hm, Nat.zero_min]; rfl
  · have hAd := hAd.resolve_right hn
    have hp : 0 < b.length := List.length_pos_iff.2 hn
    have h0 := h
    obtain ⟨C, h1, h2, h3⟩ := h
    rcases h0.form with ⟨_, _, e⟩ | ⟨g, rfl, _⟩
    · subst e; simp only [List.length_nil] at ha; omega
    · have e1 : Ad = some ⟨g, a, none⟩ := by rw [hAd]; simp [addr_add_zero]
      subst e1
      obtain ⟨w', hrun, hown, hg⟩ := run_copy_bytes ty 0 g a dl dc l.length C l h3 (by omega) hb
      have hm : min m dl = b.length := by omega
      have ht : b.take dl = b := List.take_of_length_le (by omega)
      rw [hm, ht] at hown
      have hl := overL_len ha
      refine ⟨w', hrun, ⟨C, h1, by omega, ?_⟩, (Fr.of_grown hg).mono (fun k _ e => ⟨_, rfl, by injection e.symm⟩)⟩
      rw [hl]; exact hown
theorem wp_file_copy {w : World} {o : Oper} {a : Act} {K : Act → World → Prop} {Q : Exit → Act → World → Prop} (s x : Operand)
    (ho : o.op = .call { callee := .builtin .copy, args := #[s, x], argTypes := #[31, 31] })
    {l b : List UInt8} {A Ad : Option Addr} {c p dl dc : Nat} (hs : a.eval s = .slice Ad dl dc) (hF : FileAt w l A c) (hp : p + b.length ≤ l.length) (hdl : dl = l.length - p) (hAd : Ad = A.map (·.add p) ∨ b = [])
    {F : Nat → Prop} {B : Option Addr} {m d : Nat} (hx : a.eval x = .slice B m d) (hb : Sl w F B m d b)
    (h : ∀ w', Hid (FileAt w' (overL l p b) A c) → Hid (Fr (Blk A) w w') → K (a.put o.dst (.int .i64 (min m dl : Nat))) w') : o.wp Try.prog a w K Q := by
  obtain ⟨w', hrun, h1, h2⟩ := hF.copy (dc := dc) hp hdl hAd hb o.type
  unfold Oper.wp execOp
  simp only [ho, resolve, invoke, builtin, Sem.run_bind, Sem.run_pure, Result.andThen_ok, List.map_toArray, List.map_cons, List.map_nil, hs, hx, hrun]
  exact h w' (Lib.hid h1) (Lib.hid h2)

set_option maxRecDepth 100000 in
set_option maxHeartbeats 1000000 in
theorem Sync1_any {w : World} {g : Nat} {D : DD} {vs : Vs} (h : DiskAt w g D vs) {f : Nat} (hf : f < 33) {bx : Nat} (hx : w.cell? ⟨bx, 0, none⟩ = some (.pointer (some ⟨g, 1 + f * 2, none⟩))) :
    Calls Try.prog 32 #[.pointer (some ⟨bx, 0, none⟩)] w fun e w' => e = .returned (.tuple #[]) ∧ Dstep g vs w w' (D.put f ⟨(D.file f).d, (D.file f).d.length⟩) := by
  have H := Lib.hid h; have HF := Lib.hid hf
  have hc := h.cData f hf
  have hc2 := h.cLast f hf
  have hz := h.frozen (1 + f * 2 + 1)
  have lx := block_lt_of hx
  have lg := h.gt
  clear h hf
  go_enter Try.func32, Try.ntmps32
  go_wp2_with fail
  refine wp_calm ?_
  refine wp_region_os (fun _ w' => Below (w).drew.heap.size (w).drew w') [0, 1, 4] (.take 0 (.take 1 (.move 2 (.move 3 (.take 4 (.move 5 (.move 6 (.move 7 (.run 8 [] .done))))))))) (by kernel_rfl) (by kernel_rfl) (fun _ _ _ _ _ h => nomatch h.1) ?_
  have hS0 : Below (w).drew.heap.size (w).drew (w).drew := Below.refl _ _
  refine os_yld hS0 rfl rfl rfl (Nat.le_of_ble_eq_true rfl) ?_
  apply Exists.intro
  refine ⟨fun w' hS' K hK => ?_, ?_⟩
  (focus
    obtain ⟨hcc, hff⟩ := bcellB (Below.undr hS')
    clear hS'
    go_simp
    exact hK)
  refine os_yld hS0 rfl rfl rfl (Nat.le_of_ble_eq_true rfl) ?_
  apply Exists.intro
  refine ⟨fun w' hS' K hK => ?_, ?_⟩
  (focus
    obtain ⟨hcc, hff⟩ := bcellB (Below.undr hS')
    clear hS'
    go_simp
    exact hK)
  refine os_move rfl rfl rfl (Nat.le_of_ble_eq_true rfl) ?_
  apply Exists.intro
  refine ⟨fun w' K hK => ?_, ?_⟩
  (focus
    go_simp
    exact hK)
  refine os_move rfl rfl rfl (Nat.le_of_ble_eq_true rfl) ?_
  apply Exists.intro
  refine ⟨fun w' K hK => ?_, ?_⟩
  (focus
    go_simp
    exact hK)
  refine os_yld hS0 rfl rfl rfl (Nat.le_of_ble_eq_true rfl) ?_
  apply Exists.intro
  refine ⟨fun w' hS' K hK => ?_, ?_⟩
  (focus
    obtain ⟨hcc, hff⟩ := bcellB (Below.undr hS')
    clear hS'
    go_simp
    exact hK)
  refine os_move rfl rfl rfl (Nat.le_of_ble_eq_true rfl) ?_
  apply Exists.intro
  refine ⟨fun w' K hK => ?_, ?_⟩
  (focus
    go_simp
    exact hK)
  refine os_move rfl rfl rfl (Nat.le_of_ble_eq_true rfl) ?_
  apply Exists.intro
  refine ⟨fun w' K hK => ?_, ?_⟩
  (focus
    go_simp
    exact hK)
  refine os_move rfl rfl rfl (Nat.le_of_ble_eq_true rfl) ?_
  apply Exists.intro
  refine ⟨fun w' K hK => ?_, ?_⟩
  (focus
    go_simp
    exact hK)
  refine os_run rfl rfl (fun K hK => ?_)
  go_wp2_with fail
  refine ⟨fun _ hk => absurd hk List.not_mem_nil, ?_⟩
  refine os_done ⟨rfl, ?_⟩
  go_wp2_with fail
  go_end0
  exact ⟨rfl, vs, (H.out.bel (Below.dr1 w)).setLast HF.out _, (Fr.of_below (M := dfoot g vs) (Below.dr1 w)).tr (Fr.of_set _ g _ _ (.inl rfl)), fun k hk => .inl hk⟩
set_option maxRecDepth 100000 in
set_option maxHeartbeats 1000000 in
theorem Over1_any {w : World} {g : Nat} {D : DD} {vs : Vs} (h : DiskAt w g D vs) {f : Nat} (hf : f < 33) {bx ba bb : Nat} (hx : w.cell? ⟨bx, 0, none⟩ = some (.pointer (some ⟨g, 1 + f * 2, none⟩)))
    {a : Nat} (ha : w.cell? ⟨ba, 0, none⟩ = some (.int .i64 (a : Nat)))
    {F : Nat → Prop} {B : Option Addr} {m d : Nat} {b : List UInt8} (hb : w.cell? ⟨bb, 0, none⟩ = some (.slice B m d)) (hS : Sl w F B m d b) (hfit : a + m ≤ (D.file f).d.length) (hxn : ¬ dfoot g vs bx) (han' : ¬ dfoot g vs ba) (hbn : ¬ dfoot g vs bb) (hsm : (D.file f).d.length ≤ 1000000000) :
    Calls Try.prog 35 #[.pointer (some ⟨bx, 0, none⟩), .pointer (some ⟨ba, 0, none⟩), .pointer (some ⟨bb, 0, none⟩)] w fun e w' => e = .returned (.tuple #[]) ∧ Dstep g vs w w' (D.put f ⟨overL (D.file f).d a b, (D.file f).k⟩) := by
  have H := Lib.hid h; have HF := Lib.hid hf; have HS := Lib.hid hS; have HT := Lib.hid hfit
  have hc := h.cData f hf
  have lx := block_lt_of hx
  have la := block_lt_of ha
  have lb := block_lt_of hb
  have lg := h.gt
  have hcap := (h.file f hf).sl.cap
  obtain ⟨n, hn⟩ : ∃ n, n = (D.file f).d.length := ⟨_, rfl⟩
  obtain ⟨c, hcc⟩ : ∃ c, c = vC vs f := ⟨_, rfl⟩
  have Hn := Lib.hid hn; have Hcc := Lib.hid hcc
  rw [← hn, ← hcc] at hc
  rw [← hn, ← hcc] at hcap
  rw [← hn] at hfit hsm
  clear h hf hS hn hcc
  have han : a ≤ n := by omega
  have haI : (a : Int) ≤ (n : Int) := by omega
  have hacI : (a : Int) ≤ (c : Int) := by omega
  have ha0 : (0 : Int) ≤ (a : Int) := by omega
  obtain ⟨M, hM⟩ : ∃ M : Nat → Prop, M = Blk (vA vs f) := ⟨_, rfl⟩
  have mg : ¬ M g := by rw [hM]; exact fun ⟨ad, e, hb⟩ => H.out.ne f ad HF.out e hb
  have mx : ¬ M bx := by rw [hM]; exact fun ⟨ad, e, hb⟩ => hxn (.inr ⟨f, ad, HF.out, e, hb⟩)
  have ma : ¬ M ba := by rw [hM]; exact fun ⟨ad, e, hb⟩ => han' (.inr ⟨f, ad, HF.out, e, hb⟩)
  have mb : ¬ M bb := by rw [hM]; exact fun ⟨ad, e, hb⟩ => hbn (.inr ⟨f, ad, HF.out, e, hb⟩)
  have HMe := Lib.hid hM
  clear hfit hM hxn hbn han'
  by_cases hac : c = a
  all_goals
    go_enter Try.func35, Try.ntmps35
    go_wp2_with fail
    refine wp_calm ?_
    refine wp_region_os (fun _ w' => Fr M (w).drew w') [0, 3, 4, 6] (.take 0 (.move 1 (.move 2 (.take 3 (.take 4 (.move 5 (.take 6 (.run 7 [0, 3, 4] .done)))))))) (by kernel_rfl) (by kernel_rfl) (fun _ _ _ _ _ h => nomatch h.1) ?_
    have hS0 : Fr M (w).drew (w).drew := Fr.refl _ _
    refine os_yld hS0 rfl rfl rfl (Nat.le_of_ble_eq_true rfl) ?_
    apply Exists.intro
    refine ⟨fun w' hS' K hK => ?_, ?_⟩
    (focus
      obtain ⟨hcc, hff⟩ := bcellM (Fr.undr hS')
      clear hS'
      go_simp
      exact hK)
    refine os_move rfl rfl rfl (Nat.le_of_ble_eq_true rfl) ?_
    apply Exists.intro
    refine ⟨fun w' K hK => ?_, ?_⟩
    (focus
      go_simp
      exact hK)
    refine os_move rfl rfl rfl (Nat.le_of_ble_eq_true rfl) ?_
    apply Exists.intro
    refine ⟨fun w' K hK => ?_, ?_⟩
    (focus
      go_simp
      exact hK)
    refine os_yld hS0 rfl rfl rfl (Nat.le_of_ble_eq_true rfl) ?_
    apply Exists.intro
    refine ⟨fun w' hS' K hK => ?_, ?_⟩
    (focus
      obtain ⟨hcc, hff⟩ := bcellM (Fr.undr hS')
      clear hS'
      go_simp
      exact hK)
    refine os_yld hS0 rfl rfl rfl (Nat.le_of_ble_eq_true rfl) ?_
    apply Exists.intro
    refine ⟨fun w' hS' K hK => ?_, ?_⟩
    (focus
      obtain ⟨hcc, hff⟩ := bcellM (Fr.undr hS')
      clear hS'
      go_simp
      exact hK)
    refine os_move rfl rfl rfl (Nat.le_of_ble_eq_true rfl) ?_
    apply Exists.intro
    refine ⟨fun w' K hK => ?_, ?_⟩
    (focus
      go_simp
      exact hK)
    refine os_yld hS0 rfl rfl rfl (Nat.le_of_ble_eq_true rfl) ?_
    apply Exists.intro
    refine ⟨fun w' hS' K hK => ?_, ?_⟩
    (focus
      obtain ⟨hcc, hff⟩ := bcellM (Fr.undr hS')
      clear hS'
      go_simp
      exact hK)
    refine os_run rfl rfl (fun K hK => ?_)
    refine wp_file_copy (.tmp 8) (.tmp 9) rfl (p := a) rfl (H.out.file f HF.out) (by have := HT.out; have := HS.out.len; omega) (by rw [Hn.out]) (by first | exact .inl rfl | exact .inr (List.eq_nil_of_length_eq_zero (by have := HS.out.len; have := HT.out; have := Hn.out; omega))) rfl (show Sl w.drew F B m d b from HS.out.dr 1) ?_
    intro w1 hF1 hfr
    have F1 : Hid (Fr M w.drew w1) := by rw [HMe.out]; exact hfr.out
    refine hK _ _ ⟨fun _ _ h => Fr.tr h (F1.out), ?_⟩
    clear hK
    replace hS0 := Fr.tr hS0 (F1.out)
    refine os_done ⟨rfl, ?_⟩
    go_wp2_with fail
    go_end0
    have hl : (overL (D.file f).d a b).length = (D.file f).d.length := overL_len (by have := HT.out; have := HS.out.len; omega)
    refine ⟨rfl, vs, H.out.turn HF.out (Fr.undr hfr.out) hF1.out hl, (Fr.undr hfr.out).mono (fun k _ ⟨ad, e, hb⟩ => .inr ⟨f, ad, HF.out, e, hb⟩), fun k hk => .inl hk⟩
set_option maxRecDepth 100000 in
set_option maxHeartbeats 1000000 in
theorem Cut1_any {w : World} {g : Nat} {D : DD} {vs : Vs} (h : DiskAt w g D vs) {f : Nat} (hf : f < 33) {bx bn : Nat} (hx : w.cell? ⟨bx, 0, none⟩ = some (.pointer (some ⟨g, 1 + f * 2, none⟩)))
    {n : Nat} (hn : w.cell? ⟨bn, 0, none⟩ = some (.int .i64 (n : Nat))) (hxn : bx ≠ g) (hnn : bn ≠ g) (hle : n ≤ (D.file f).d.length) (hsm : (D.file f).d.length ≤ 1000000000) :
    Calls Try.prog 36 #[.pointer (some ⟨bx, 0, none⟩), .pointer (some ⟨bn, 0, none⟩)] w fun e w' => e = .returned (.tuple #[]) ∧ Dstep g vs w w' (D.put f ⟨(D.file f).d.take n, n⟩) := by
  have H := Lib.hid h; have HF := Lib.hid hf
  have hc := h.cData f hf
  have hz := h.frozen (1 + f * 2)
  have hc2 := h.cLast f hf
  have hz2 := h.frozen (1 + f * 2 + 1)
  have lx := block_lt_of hx
  have ln := block_lt_of hn
  have lg := h.gt
  have hcap := (h.file f hf).sl.cap
  obtain ⟨v, hv⟩ : ∃ v, v = (D.file f).d.length := ⟨_, rfl⟩
  obtain ⟨c, hcc⟩ : ∃ c, c = vC vs f := ⟨_, rfl⟩
  have Hv := Lib.hid hv; have Hcc := Lib.hid hcc
  rw [← hv, ← hcc] at hc
  rw [← hv, ← hcc] at hcap
  rw [← hv] at hle hsm
  clear h hf hv hcc
  have hnI : (n : Int) ≤ (v : Int) := by omega
  have hncI : (n : Int) ≤ (c : Int) := by omega
  have hn0 : (0 : Int) ≤ (n : Int) := by omega
  obtain ⟨M, hM⟩ : ∃ M : Nat → Prop, M = (fun k => k = g) := ⟨_, rfl⟩
  have mg : M g := by rw [hM]
  have mx : ¬ M bx := by rw [hM]; exact hxn
  have mn : ¬ M bn := by rw [hM]; exact hnn
  have HMe := Lib.hid hM
  clear hM
  go_enter Try.func36, Try.ntmps36
  go_wp2_with fail
  refine wp_calm ?_
  refine wp_region_os (fun i w' => match i with | 1 => Fr M (w).drew w' | 9 => Fr M (w).drew w' | _ => Below (w).drew.heap.size (w).drew w') [0, 1, 2, 5, 6, 7, 9] (.take 0 (.take 1 (.take 2 (.move 3 (.move 4 (.take 5 (.take 6 (.take 7 (.move 8 (.take 9 (.move 10 (.move 11 (.run 12 [1, 9] (.move 13 (.move 14 (.run 15 [] .done)))))))))))))))) (by kernel_rfl) (by kernel_rfl) (fun _ _ _ _ _ h => nomatch h.1) ?_
  have hT0 : Fr M (w).drew (w).drew := Fr.refl _ _
  have hS0 : Below (w).drew.heap.size (w).drew (w).drew := Below.refl _ _
  refine os_yld hS0 rfl rfl rfl (Nat.le_of_ble_eq_true rfl) ?_
  apply Exists.intro
  refine ⟨fun w' hS' K hK => ?_, ?_⟩
  (focus
    obtain ⟨hcc, hff⟩ := bcellB (Below.undr hS')
    clear hS'
    go_simp
    exact hK)
  refine os_yld hT0 rfl rfl rfl (Nat.le_of_ble_eq_true rfl) ?_
  apply Exists.intro
  refine ⟨fun w' hS' K hK => ?_, ?_⟩
  (focus
    obtain ⟨hcc, hff⟩ := bcellM (Fr.undr hS')
    clear hS'
    go_simp
    exact hK)
  refine os_yld hS0 rfl rfl rfl (Nat.le_of_ble_eq_true rfl) ?_
  apply Exists.intro
  refine ⟨fun w' hS' K hK => ?_, ?_⟩
  (focus
    obtain ⟨hcc, hff⟩ := bcellB (Below.undr hS')
    clear hS'
    go_simp
    exact hK)
  refine os_move rfl rfl rfl (Nat.le_of_ble_eq_true rfl) ?_
  apply Exists.intro
  refine ⟨fun w' K hK => ?_, ?_⟩
  (focus
    go_simp
    exact hK)
  refine os_move rfl rfl rfl (Nat.le_of_ble_eq_true rfl) ?_
  apply Exists.intro
  refine ⟨fun w' K hK => ?_, ?_⟩
  (focus
    go_simp
    exact hK)
  refine os_yld hS0 rfl rfl rfl (Nat.le_of_ble_eq_true rfl) ?_
  apply Exists.intro
  refine ⟨fun w' hS' K hK => ?_, ?_⟩
  (focus
    obtain ⟨hcc, hff⟩ := bcellB (Below.undr hS')
    clear hS'
    go_simp
    exact hK)
  refine os_yld hS0 rfl rfl rfl (Nat.le_of_ble_eq_true rfl) ?_
  apply Exists.intro
  refine ⟨fun w' hS' K hK => ?_, ?_⟩
  (focus
    obtain ⟨hcc, hff⟩ := bcellB (Below.undr hS')
    clear hS'
    go_simp
    exact hK)
  refine os_yld hS0 rfl rfl rfl (Nat.le_of_ble_eq_true rfl) ?_
  apply Exists.intro
  refine ⟨fun w' hS' K hK => ?_, ?_⟩
  (focus
    obtain ⟨hcc, hff⟩ := bcellB (Below.undr hS')
    clear hS'
    go_simp
    exact hK)
  refine os_move rfl rfl rfl (Nat.le_of_ble_eq_true rfl) ?_
  apply Exists.intro
  refine ⟨fun w' K hK => ?_, ?_⟩
  (focus
    go_simp
    exact hK)
  refine os_yld hT0 rfl rfl rfl (Nat.le_of_ble_eq_true rfl) ?_
  apply Exists.intro
  refine ⟨fun w' hS' K hK => ?_, ?_⟩
  (focus
    obtain ⟨hcc, hff⟩ := bcellM (Fr.undr hS')
    clear hS'
    go_simp
    exact hK)
  refine os_move rfl rfl rfl (Nat.le_of_ble_eq_true rfl) ?_
  apply Exists.intro
  refine ⟨fun w' K hK => ?_, ?_⟩
  (focus
    go_simp
    exact hK)
  refine os_move rfl rfl rfl (Nat.le_of_ble_eq_true rfl) ?_
  apply Exists.intro
  refine ⟨fun w' K hK => ?_, ?_⟩
  (focus
    go_simp
    exact hK)
  refine os_run rfl rfl (fun K hK => ?_)
  go_wp2_with fail
  refine ⟨fun k hk h => by (simp only [List.mem_cons, List.not_mem_nil, or_false] at hk; rcases hk with rfl | rfl <;> exact Fr.tr h (Fr.of_set w.drew g (1 + f * 2) (.slice (vA vs f) n n) mg)), ?_⟩
  replace hT0 := Fr.tr hT0 (Fr.of_set w.drew g (1 + f * 2) (.slice (vA vs f) n n) mg)
  try clear hS0
  refine os_move rfl rfl rfl (Nat.le_of_ble_eq_true rfl) ?_
  apply Exists.intro
  refine ⟨fun w' K hK => ?_, ?_⟩
  (focus
    go_simp
    exact hK)
  refine os_move rfl rfl rfl (Nat.le_of_ble_eq_true rfl) ?_
  apply Exists.intro
  refine ⟨fun w' K hK => ?_, ?_⟩
  (focus
    go_simp
    exact hK)
  refine os_run rfl rfl (fun K hK => ?_)
  go_wp2_with fail
  refine ⟨fun _ hk => absurd hk List.not_mem_nil, ?_⟩
  refine os_done ⟨rfl, ?_⟩
  go_wp2_with fail
  go_end0
  have hl : ((D.file f).d.take n).length = n := by rw [List.length_take, ← Hv.out]; omega
  have hF : FileAt w.drew ((D.file f).d.take n) (vA vs f) n := FileAt.take (H.out.bel (Below.dr1 w) |>.file f HF.out) (by rw [← Hv.out]; exact hle)
  have h1 := (H.out.bel (Below.dr1 w)).setData HF.out hF (fun ad e => H.out.ne f ad HF.out e) (fun f' ad ad' a1 a2 a3 a4 => H.out.sep f f' ad ad' HF.out a1 (fun x => a2 x.symm) a3 a4)
  rw [hl] at h1
  have h2 := h1.setLast HF.out n
  rw [file_put (by rw [H.out.len]; exact HF.out), if_pos rfl] at h2
  have e : (D.put f ⟨(D.file f).d.take n, (D.file f).k⟩).put f ⟨(D.file f).d.take n, n⟩ = D.put f ⟨(D.file f).d.take n, n⟩ := by simp [DD.put]
  rw [e] at h2
  refine ⟨rfl, vs.set f (vA vs f, n), h2, ?_, fun k hk => ?_⟩
  · exact (Fr.of_below (M := dfoot g vs) (Below.dr1 w)).tr ((Fr.of_set _ g _ _ (.inl rfl)).tr (Fr.of_set _ g _ _ (.inl rfl)))
  · rcases dfoot_set (by rw [H.out.vlen]; exact HF.out) hk with hk | ⟨ad, e, rfl⟩
    · exact .inl hk
    · exact .inl (.inr ⟨f, ad, HF.out, e, rfl⟩)
end Go.Proofs.Ytjfnpndpigpaiaa
