/- does: a call of both disks; printed by gen_does.py. -/
import Derived.Test.YtjfnpndpigpaiaaDr9
import Derived.Test.YtjfnpndpigpaiaaKitJ
import Derived.Test.YtjfnpndpigpaiaaOpnO
namespace Go.Proofs.Ytjfnpndpigpaiaa
open Go.RowKit
attribute [local go_sem] yld yldUpon_value

/-- what a call was lent: the operation's box, its own lists, the bytes and whole numbers lent of them -/
structure Lo (w0 wx : World) (bx lo hi gb cb gk ck : Nat) (y : OpO) : Prop where
  h : wx.heap[bx]? = some (.cells #[.int .i64 y.kd, .int .i64 y.f, .int .i64 y.n, .slice y.dtA y.dtn y.dtc, .slice y.kpA y.kpn y.kpc] 54 (0, 0))
  ok : y.Ok wx (Old w0)
  own : wx.ownsRow lo 5 1 (.slice (some ⟨gb, 0, none⟩) (y.dtn + 5) cb) (y.dtn + 5) (bs (y.dt ++ marks))
  gbi : lo ≤ gb ∧ gb < hi
  ints : IntSl wx (fun k => lo ≤ k ∧ k < hi) (some ⟨gk, 0, none⟩) (y.kpn + 5) ck (y.kp ++ marksI)
  all : ∀ k, (k < w0.heap.size ∨ k = bx ∨ (lo ≤ k ∧ k < hi)) → k < wx.heap.size
section
variable {w0 wx wy : World} {bx lo hi gb cb gk ck : Nat} {y : OpO}
theorem Lo.fr {M : Nat → Prop} (h : Lo w0 wx bx lo hi gb cb gk ck y) (hf : Fr M wx wy) (hM : ∀ k, (k < w0.heap.size ∨ k = bx ∨ (lo ≤ k ∧ k < hi)) → ¬ M k) : Lo w0 wy bx lo hi gb cb gk ck y :=
  ⟨(hf.block bx (h.all bx (.inr (.inl rfl))) (hM bx (.inr (.inl rfl)))).trans h.h, h.ok.fr hf (fun k hk => ⟨h.all k (.inl hk), hM k (.inl hk)⟩),
    own_fr h.own hf (fun k hk => by injection hk with hk; subst hk; exact hM _ (.inr (.inr h.gbi))), h.gbi, h.ints.fr hf (fun k hk => ⟨h.all k (.inr (.inr hk)), hM k (.inr (.inr hk))⟩), fun k hk => Nat.lt_of_lt_of_le (h.all k hk) hf.size⟩
theorem Lo.bel (h : Lo w0 wx bx lo hi gb cb gk ck y) (hb : Below wx.heap.size wx wy) : Lo w0 wy bx lo hi gb cb gk ck y := h.fr (Fr.of_below (M := NoB) hb) (fun _ _ e => e)
theorem Lo.sbm (h : Lo w0 wx bx lo hi gb cb gk ck y) : Sl wx (fun k => lo ≤ k ∧ k < hi) (some ⟨gb, 0, none⟩) (y.dtn + 5) cb (y.dt ++ marks) := by
  have h1 := Sl.of_own h.own
  exact h1.mono (fun k hk => by have := hk.2.2; injection this with e; subst e; exact h.gbi)
theorem Lo.sb (h : Lo w0 wx bx lo hi gb cb gk ck y) : Sl wx (fun k => lo ≤ k ∧ k < hi) (some ⟨gb, 0, none⟩) y.dtn cb y.dt := Sl.take_ h.sbm h.ok.dt.len
theorem Lo.sk (h : Lo w0 wx bx lo hi gb cb gk ck y) : IntSl wx (fun k => lo ≤ k ∧ k < hi) (some ⟨gk, 0, none⟩) y.kpn ck y.kp := h.ints.take_ h.ok.kp.len
theorem Lo.cell (h : Lo w0 wx bx lo hi gb cb gk ck y) : wx.cell? ⟨bx, 0, none⟩ = some (.int .i64 y.kd) ∧ wx.cell? ⟨bx, 1, none⟩ = some (.int .i64 y.f) ∧ wx.cell? ⟨bx, 2, none⟩ = some (.int .i64 y.n) ∧ wx.cell? ⟨bx, 3, none⟩ = some (.slice y.dtA y.dtn y.dtc) ∧ wx.cell? ⟨bx, 4, none⟩ = some (.slice y.kpA y.kpn y.kpc) := by
  refine ⟨?_, ?_, ?_, ?_, ?_⟩ <;> (rw [cell_of_row _ _ _ _ _ _ h.h]; rfl)
end
/-- what a call touches is apart from what was lent -/
def Far (w0 : World) (bx lo hi : Nat) (M : Nat → Prop) : Prop := ∀ k, (k < w0.heap.size ∨ k = bx ∨ (lo ≤ k ∧ k < hi)) → ¬ M k
theorem opD_done1 (D D' : DD) (r : Int) (e : Bool) : (opD D r e D').2.done ≤ D.done + 1 := opD_done r e
theorem Lo.cells {w0 wx : World} {bx lo hi gb cb gk ck : Nat} {kd f n : Int} {dA kA : Option Addr} {dn dc kn kc : Nat} {dt : List UInt8} {kp : List Int} (h : Lo w0 wx bx lo hi gb cb gk ck ⟨kd, f, n, dA, dn, dc, dt, kA, kn, kc, kp⟩) :
    wx.cell? ⟨bx, 0, none⟩ = some (.int .i64 kd) ∧ wx.cell? ⟨bx, 1, none⟩ = some (.int .i64 f) ∧ wx.cell? ⟨bx, 2, none⟩ = some (.int .i64 n) ∧ wx.cell? ⟨bx, 3, none⟩ = some (.slice dA dn dc) ∧ wx.cell? ⟨bx, 4, none⟩ = some (.slice kA kn kc) ∧ Sl wx (Old w0) dA dn dc dt ∧ IntSl wx (Old w0) kA kn kc kp ∧
      Sl wx (fun k => lo ≤ k ∧ k < hi) (some ⟨gb, 0, none⟩) (dn + 5) cb (dt ++ marks) ∧ IntSl wx (fun k => lo ≤ k ∧ k < hi) (some ⟨gk, 0, none⟩) (kn + 5) ck (kp ++ marksI) ∧ wx.ownsRow lo 5 1 (.slice (some ⟨gb, 0, none⟩) (dn + 5) cb) (dn + 5) (bs (dt ++ marks)) :=
  ⟨h.cell.1, h.cell.2.1, h.cell.2.2.1, h.cell.2.2.2.1, h.cell.2.2.2.2, h.ok.dt, h.ok.kp, h.sbm, h.ints, h.own⟩
set_option maxRecDepth 100000 in
set_option maxHeartbeats 8000000 in
theorem does_any {w0 w : World} {g : Nat} {D : DD} {vs : Vs} {gr : Nat} {R : Nat → Prop} (h : Two w0 w g D vs gr D R) (hdn : D.done ≤ 100000000) (y : OpO) (hy : y.Ok w (Old w0)) (hn1 : y.dtn ≤ 4096) (hn2 : y.kpn ≤ 100) (hnn : (Lit.int .i64 y.n).wf = true) :
    Calls Try.prog 26 #[.pointer (some ⟨g, 0, none⟩), .pointer (some ⟨gr, 0, none⟩), .agg y.cells.toArray] w fun e w' => e = .returned (.bool true) ∧ ∃ D' vs' R', Two w0 w' g D' vs' gr D' R' ∧ D'.done ≤ D.done + 1 := by
  obtain ⟨kd, f, n, dA, dn, dc, dt, kA, kn, kc, kp⟩ := y
  have hn1 : dn ≤ 4096 := hn1
  have hn2 : kn ≤ 100 := hn2
  have HNB : Hid (n ≤ 9223372036854775807) := (bounds_i64 (show (Lit.int .i64 n).wf = true from hnn)).2
  have H := Lib.hid h; have HD := Lib.hid hdn; have HY : Hid (OpO.Ok ⟨kd, f, n, dA, dn, dc, dt, kA, kn, kc, kp⟩ w (Old w0)) := hy
  clear h hdn hy hnn
  show Calls Try.prog 26 #[.pointer (some ⟨g, 0, none⟩), .pointer (some ⟨gr, 0, none⟩), .agg #[.int .i64 kd, .int .i64 f, .int .i64 n, .slice dA dn dc, .slice kA kn kc]] w _
  have H0 := Lib.hid (H.out.old (Below.al w (.cells #[.int .i64 kd, .int .i64 f, .int .i64 n, .slice dA dn dc, .slice kA kn kc] 54)))
  have LT : Hid (∀ k, Old w0 k → k < w.heap.size) := Lib.hid (fun k hk => Nat.lt_of_lt_of_le hk H.out.bel.size)
  have Y0 := Lib.hid (HY.out.bel (Below.al w (.cells #[.int .i64 kd, .int .i64 f, .int .i64 n, .slice dA dn dc, .slice kA kn kc] 54)) LT.out)
  have hb0 : Hid ((w.alloc (.cells #[.int .i64 kd, .int .i64 f, .int .i64 n, .slice dA dn dc, .slice kA kn kc] 54)).heap[w.heap.size]? = some (.cells #[.int .i64 kd, .int .i64 f, .int .i64 n, .slice dA dn dc, .slice kA kn kc] 54 (0, 0))) := heap_alloc_new w _
  have BN : Hid (∀ k, (dfoot g vs k ∨ k = gr ∨ R k) → w0.heap.size ≤ k ∧ k < w.heap.size) := Lib.hid (fun k hk => by
    rcases hk with hk | hk
    · exact H.out.foot k hk
    · exact H.out.footr k hk)
  have W0Z : Hid (w0.heap.size ≤ w.heap.size) := H.out.bel.size
  have B0 : Hid (w0.heap.size ≤ gr) := (H.out.footr gr (.inl rfl)).1
  have ZA0 : Hid (w.heap.size < (w.alloc (.cells #[.int .i64 kd, .int .i64 f, .int .i64 n, .slice dA dn dc, .slice kA kn kc] 54)).heap.size) := by show _ < _; rw [World.size_alloc]; omega
  have lx0 := heap_alloc_new w (.cells #[.int .i64 kd, .int .i64 f, .int .i64 n, .slice dA dn dc, .slice kA kn kc] 54)
  have k0 := cell_of_row _ w.heap.size 0 _ _ _ lx0
  have k3 := cell_of_row _ w.heap.size 3 _ _ _ lx0
  simp at k0 k3
  clear lx0
  go_enter Try.func26, Try.ntmps26
  go_wp2_with fail
  generalize w.alloc (.cells #[.int .i64 kd, .int .i64 f, .int .i64 n, .slice dA dn dc, .slice kA kn kc] 54) = wa at H0 Y0 hb0 ZA0 k0 k3 ⊢
  have ZA : Hid (w.heap.size < wa.heap.size) := ZA0
  clear ZA0 H HY k0 k3
  have LT0 : Hid (∀ k, Old w0 k → k < wa.heap.size) := Lib.hid (fun k hk => Nat.lt_trans (LT.out k hk) ZA.out)
  have sd0 : Hid (Sl wa (Old w0) dA dn dc dt) := Y0.out.dt
  refine (LentBytes_sl sd0.out LT0.out (by omega)).mono ?_
  rintro e wb ⟨gb, cb, rfl, ho1, hb1⟩
  have OB := Lib.hid ho1
  have H1 := Lib.hid (H0.out.old hb1)
  have Y1 := Lib.hid (Y0.out.bel hb1 LT0.out)
  have hx1 := Lib.hid (heap_bel hb0.out hb1)
  have ZB : Hid (wa.heap.size ≤ wb.heap.size) := hb1.size
  have LT1 : Hid (∀ k, Old w0 k → k < wb.heap.size) := Lib.hid (fun k hk => Nat.lt_of_lt_of_le (LT0.out k hk) ZB.out)
  have LB := Lib.hid (ho1.lt gb rfl)
  clear ho1 hb1 H0 sd0 Y0 hb0
  have cx4 : wb.cell? ⟨w.heap.size, 4, none⟩ = some (.slice kA kn kc) := by rw [cell_of_row _ _ 4 _ _ _ hx1.out]; rfl
  have sk1 : Hid (IntSl wb (Old w0) kA kn kc kp) := Y1.out.kp
  go_wp2_with fail
  refine (LentInts_any sk1.out LT1.out (by omega)).mono ?_
  rintro e wc ⟨gk, ck, rfl, ho2, hb2⟩
  have IK := Lib.hid (IntSl.of_own ho2 (fun x hx => by
    rcases List.mem_append.1 hx with hx | hx
    · exact sk1.out.wf x hx
    · exact marksI_wf x hx))
  have H2 := Lib.hid (H1.out.old hb2)
  have ZC : Hid (wb.heap.size ≤ wc.heap.size) := hb2.size
  have LO : Hid (Lo w0 wc w.heap.size wa.heap.size wc.heap.size gb cb gk ck ⟨kd, f, n, dA, dn, dc, dt, kA, kn, kc, kp⟩) := by
    refine ⟨heap_bel hx1.out hb2, Y1.out.bel hb2 LT1.out, own_fr OB.out (Fr.of_below (M := NoB) hb2) (fun _ _ e => e), ⟨LB.out.1, Nat.lt_of_lt_of_le LB.out.2 ZC.out⟩, IK.out.mono (fun k hk => ⟨Nat.le_trans ZB.out hk.1, hk.2.1⟩), fun k hk => ?_⟩
    rcases hk with hk | hk | hk
    · exact Nat.lt_of_lt_of_le (LT1.out k hk) ZC.out
    · rw [hk]; have h1 := ZA.out; have h2 := ZB.out; have h3 := ZC.out; omega
    · exact hk.2
  have FA : Hid (Far w0 w.heap.size wa.heap.size wc.heap.size (fun k => dfoot g vs k ∨ k = gr ∨ R k)) := Lib.hid (fun k hk e => by
    have h1 := BN.out k e
    have h2 := ZA.out
    rcases hk with hk | hk | hk <;> omega)
  clear ho2 hb2 H1 Y1 hx1 OB cx4 sk1 IK LB LT1 LT0 ZB BN LT
  obtain ⟨c0, c1, c2, c3, c4, -, -, sbm, skm, -⟩ := LO.out.cells
  have SB : Hid (Sl wc (fun k => wa.heap.size ≤ k ∧ k < wc.heap.size) (some ⟨gb, 0, none⟩) dn cb dt) := Sl.take_ sbm LO.out.ok.dt.len
  have SK : Hid (IntSl wc (fun k => wa.heap.size ≤ k ∧ k < wc.heap.size) (some ⟨gk, 0, none⟩) kn ck kp) := skm.take_ LO.out.ok.kp.len
  have hcb : dn ≤ cb := SB.out.cap
  have hck : kn ≤ ck := SK.out.cap
  clear sbm skm
  go_wp2_with fail
  refine (Pick_any kd 7 wc (by decide)).mono ?_
  rintro e w' ⟨rfl, rfl⟩
  clear c0
  obtain ⟨v, hv⟩ : ∃ v, v = kd % 7 := ⟨_, rfl⟩
  rw [if_neg (by decide), ← hv]
  have hv7 : v = 0 ∨ v = 1 ∨ v = 2 ∨ v = 3 ∨ v = 4 ∨ v = 5 ∨ v = 6 := by omega
  clear hv
  have lw : w.heap.size < wc.heap.size := block_lt_of c1
  have HDN : Hid (D.done ≤ 1000000000) := Nat.le_trans HD.out (by decide)
  have FD : Hid (∀ k, wa.heap.size ≤ k ∧ k < wc.heap.size → k < wc.heap.size ∧ ¬ dfoot g vs k) := Lib.hid (fun k hk => ⟨hk.2, fun e => FA.out k (.inr (.inr hk)) (.inl e)⟩)
  rcases hv7 with rfl | rfl | rfl | rfl | rfl | rfl | rfl
  · go_wp2_with fail
    refine wp_calm ?_
    refine wp_region_oc (fun _ w' => Below (wc).drew.heap.size (wc).drew w') [2, 5] [(8, 5, [7, 6])] (.move 0 (.move 1 (.take 2 (.move 3 (.move 4 (.take 5 (.move 6 (.move 7 (.run 8 [] (.move 9 .done)))))))))) (by kernel_rfl) (by kernel_rfl) (fun _ _ _ _ _ h => nomatch h.1) ?_
    have hS0 : Below (wc).drew.heap.size (wc).drew (wc).drew := Below.refl _ _
    refine os_move rfl rfl rfl (Nat.le_of_ble_eq_true rfl) ?_
    apply Exists.intro
    refine ⟨fun w' K hK => ?_, ?_⟩
    (focus
      go_simp
      exact hK)
    refine os_move rfl rfl rfl (Nat.le_of_ble_eq_true rfl) ?_
    apply Exists.intro
    refine ⟨fun w' K hK => ?_, ?_⟩
    (focus
      go_simp
      exact hK)
    refine os_yld hS0 rfl rfl rfl (Nat.le_of_ble_eq_true rfl) ?_
    apply Exists.intro
    refine ⟨fun w' hS' K hK => ?_, ?_⟩
    (focus
      obtain ⟨hcc, hff⟩ := bcellB (Below.undr hS')
      clear hS'
      go_simp
      exact hK)
    refine os_move rfl rfl rfl (Nat.le_of_ble_eq_true rfl) ?_
    apply Exists.intro
    refine ⟨fun w' K hK => ?_, ?_⟩
    (focus
      go_simp
      exact hK)
    refine os_move rfl rfl rfl (Nat.le_of_ble_eq_true rfl) ?_
    apply Exists.intro
    refine ⟨fun w' K hK => ?_, ?_⟩
    (focus
      go_simp
      exact hK)
    refine os_yld hS0 rfl rfl rfl (Nat.le_of_ble_eq_true rfl) ?_
    apply Exists.intro
    refine ⟨fun w' hS' K hK => ?_, ?_⟩
    (focus
      obtain ⟨hcc, hff⟩ := bcellB (Below.undr hS')
      clear hS'
      go_simp
      exact hK)
    refine os_move rfl rfl rfl (Nat.le_of_ble_eq_true rfl) ?_
    apply Exists.intro
    refine ⟨fun w' K hK => ?_, ?_⟩
    (focus
      go_simp
      exact hK)
    refine os_move rfl rfl rfl (Nat.le_of_ble_eq_true rfl) ?_
    apply Exists.intro
    refine ⟨fun w' K hK => ?_, ?_⟩
    (focus
      go_simp
      exact hK)
    refine os_run rfl rfl (fun K hK => ?_)
    go_wp2_with fail
    refine (Write_any (H2.out.disk.bel (Below.dr1 wc)) H2.out.ok HDN.out f (SB.out.dr 1) FD.out (by omega)).mono ?_
    rintro e wd ⟨rfl, hst⟩
    have HST := Lib.hid hst
    clear hst
    go_wp2_with fail
    refine ⟨fun _ hk => absurd hk List.not_mem_nil, ?_⟩
    refine os_move rfl rfl rfl (Nat.le_of_ble_eq_true rfl) ?_
    apply Exists.intro
    refine ⟨fun w' K hK => ?_, ?_⟩
    (focus
      go_simp
      exact hK)
    refine os_done ⟨rfl, ?_⟩
    have HOK : Hid (DOK ((writeD D f dt).2)) := H2.out.ok.write f dt
    obtain ⟨vs1, h3, f3, p3⟩ := H2.out.stepD (D' := (writeD D f dt).2) (Dstep.old (Below.dr1 wc) HST.out) HOK.out
    have H3 := Lib.hid h3; have P3 := Lib.hid p3
    have L3 : Hid (Lo w0 wd w.heap.size wa.heap.size wc.heap.size gb cb gk ck ⟨kd, f, n, dA, dn, dc, dt, kA, kn, kc, kp⟩) := Lib.hid (LO.out.fr f3 (fun k hk e => FA.out k hk (.inl e)))
    have Z3 : Hid (wc.heap.size ≤ wd.heap.size) := f3.size
    obtain ⟨-, c1, c2, c3, c4, sd, sk, -, -, -⟩ := L3.out.cells
    have SD := Lib.hid sd; have SKI := Lib.hid sk
    have LT3 : Hid (∀ k, Old w0 k → k < wd.heap.size ∧ k ≠ gr) := Lib.hid (fun k hk => ⟨L3.out.all k (.inl hk), fun e => by have h0 := B0.out; have h1 : k < w0.heap.size := hk; omega⟩)
    clear h3 f3 p3 HST sd sk
    go_wp2_with fail
    refine (RWrite_any H3.out.ref H3.out.okr HDN.out f SD.out LT3.out (by omega)).mono ?_
    rintro e we ⟨rfl, hst⟩
    obtain ⟨R1, h4, f4, p4⟩ := H3.out.stepR (E' := (writeD D f dt).2) hst HOK.out
    have H4 := Lib.hid h4; have P4 := Lib.hid p4
    have L4 : Hid (Lo w0 we w.heap.size wa.heap.size wc.heap.size gb cb gk ck ⟨kd, f, n, dA, dn, dc, dt, kA, kn, kc, kp⟩) := Lib.hid (L3.out.fr f4 (fun k hk e => FA.out k hk (.inr (.inl e))))
    obtain ⟨-, -, -, c3, c4, sd, sk, sbm, skm, own⟩ := L4.out.cells
    have SD4 := Lib.hid sd; have SK4 := Lib.hid sk; have SBM := Lib.hid sbm; have SKM := Lib.hid skm; have OWN := Lib.hid own
    have LT4 : Hid (∀ k, Old w0 k → k < we.heap.size) := Lib.hid (fun k hk => L4.out.all k (.inl hk))
    have LI4 : Hid (∀ k, wa.heap.size ≤ k ∧ k < wc.heap.size → k < we.heap.size) := Lib.hid (fun k hk => L4.out.all k (.inr (.inr hk)))
    have GI : Hid (wa.heap.size ≤ gb ∧ gb < wc.heap.size) := L4.out.gbi
    have LD : Hid (((writeD D f dt).2).done ≤ D.done + 1) := Lib.hid (by first | exact opD_done _ _ | exact Nat.le_succ _)
    have GB : Hid (∀ k, k = gb → w0.heap.size ≤ k ∧ ¬ dfoot g vs1 k ∧ ¬ (k = gr ∨ R1 k)) := Lib.hid (fun k hk => by
      subst hk
      have h0 := FA.out k (.inr (.inr GI.out))
      refine ⟨?_, fun e => ?_, fun e => ?_⟩
      · have h2 := W0Z.out
        have h3 := ZA.out
        have h5 := GI.out
        omega
      · rcases P3.out k e with h | h
        · exact h0 (.inl h)
        · have h5 := GI.out; omega
      · rcases e with e | e
        · exact h0 (.inr (.inl e))
        · rcases P4.out k e with h | h
          · exact h0 (.inr (.inr h))
          · have h5 := GI.out; have h6 := Z3.out; omega)
    clear h4 f4 p4 hst H3 L3 SD SKI LT3 HOK sd sk sbm skm own P3 P4 c1 c2
    obtain ⟨er, her⟩ : ∃ er, er = (writeD D f dt).1 := ⟨_, rfl⟩
    rw [← her]
    have herr : (er == er) = true := by simp
    clear her
    go_wp2_with fail
    refine (KeptBytes_sl SBM.out LI4.out SD4.out LT4.out (by omega)).mono ?_
    rintro e wf ⟨rfl, hbf⟩
    have H5 := Lib.hid (H4.out.old hbf)
    have SKM5 := Lib.hid (SKM.out.belF hbf LI4.out)
    have SK5 := Lib.hid (SK4.out.belF hbf LT4.out)
    have OWN5 := Lib.hid (own_fr OWN.out (Fr.of_below (M := NoB) hbf) (fun _ _ e => e))
    have ZF : Hid (we.heap.size ≤ wf.heap.size) := hbf.size
    replace c4 := cell_bel c4 hbf
    clear hbf H4 SKM SK4 OWN SBM SD4 L4 c3
    go_wp2_with fail
    refine (KeptInts_any SKM5.out (fun k hk => Nat.lt_of_lt_of_le (LI4.out k hk) ZF.out) SK5.out (fun k hk => Nat.lt_of_lt_of_le (LT4.out k hk) ZF.out) (by omega)).mono ?_
    rintro e wg ⟨rfl, hbg⟩
    have H6 := Lib.hid (H5.out.old hbg)
    have OWN6 := Lib.hid (own_fr OWN5.out (Fr.of_below (M := NoB) hbg) (fun _ _ e => e))
    clear hbg H5 SKM5 SK5 OWN5 c4
    go_wp2_with fail
    refine (SpoilBytes_any wa.heap.size (some ⟨gb, 0, none⟩) (dn + 5) cb (dn + 5) _ wg OWN6.out (Nat.le_refl _) (by omega)).mono ?_
    rintro e wh ⟨rfl, hg⟩
    have FIN : Hid (∃ D' vs' R', Two w0 wh g D' vs' gr D' R' ∧ D'.done ≤ D.done + 1) := ⟨_, vs1, R1, H6.out.wr ((Fr.of_grown hg).mono (fun k _ e => by injection e.symm with e; exact e.symm) : Fr (fun k => k = gb) wg wh) GB.out, LD.out⟩
    clear hg H6 OWN6
    go_wp2_with fail
    go_ret
    exact ⟨rfl, FIN.out⟩
  · go_wp2_with fail
    refine wp_calm ?_
    refine wp_region_oc (fun _ w' => Below (wc).drew.heap.size (wc).drew w') [2, 5] [(8, 5, [7, 6])] (.move 0 (.move 1 (.take 2 (.move 3 (.move 4 (.take 5 (.move 6 (.move 7 (.run 8 [] (.move 9 .done)))))))))) (by kernel_rfl) (by kernel_rfl) (fun _ _ _ _ _ h => nomatch h.1) ?_
    have hS0 : Below (wc).drew.heap.size (wc).drew (wc).drew := Below.refl _ _
    refine os_move rfl rfl rfl (Nat.le_of_ble_eq_true rfl) ?_
    apply Exists.intro
    refine ⟨fun w' K hK => ?_, ?_⟩
    (focus
      go_simp
      exact hK)
    refine os_move rfl rfl rfl (Nat.le_of_ble_eq_true rfl) ?_
    apply Exists.intro
    refine ⟨fun w' K hK => ?_, ?_⟩
    (focus
      go_simp
      exact hK)
    refine os_yld hS0 rfl rfl rfl (Nat.le_of_ble_eq_true rfl) ?_
    apply Exists.intro
    refine ⟨fun w' hS' K hK => ?_, ?_⟩
    (focus
      obtain ⟨hcc, hff⟩ := bcellB (Below.undr hS')
      clear hS'
      go_simp
      exact hK)
    refine os_move rfl rfl rfl (Nat.le_of_ble_eq_true rfl) ?_
    apply Exists.intro
    refine ⟨fun w' K hK => ?_, ?_⟩
    (focus
      go_simp
      exact hK)
    refine os_move rfl rfl rfl (Nat.le_of_ble_eq_true rfl) ?_
    apply Exists.intro
    refine ⟨fun w' K hK => ?_, ?_⟩
    (focus
      go_simp
      exact hK)
    refine os_yld hS0 rfl rfl rfl (Nat.le_of_ble_eq_true rfl) ?_
    apply Exists.intro
    refine ⟨fun w' hS' K hK => ?_, ?_⟩
    (focus
      obtain ⟨hcc, hff⟩ := bcellB (Below.undr hS')
      clear hS'
      go_simp
      exact hK)
    refine os_move rfl rfl rfl (Nat.le_of_ble_eq_true rfl) ?_
    apply Exists.intro
    refine ⟨fun w' K hK => ?_, ?_⟩
    (focus
      go_simp
      exact hK)
    refine os_move rfl rfl rfl (Nat.le_of_ble_eq_true rfl) ?_
    apply Exists.intro
    refine ⟨fun w' K hK => ?_, ?_⟩
    (focus
      go_simp
      exact hK)
    refine os_run rfl rfl (fun K hK => ?_)
    go_wp2_with fail
    refine (Write_any (H2.out.disk.bel (Below.dr1 wc)) H2.out.ok HDN.out f (SB.out.dr 1) FD.out (by omega)).mono ?_
    rintro e wd ⟨rfl, hst⟩
    have HST := Lib.hid hst
    clear hst
    go_wp2_with fail
    refine ⟨fun _ hk => absurd hk List.not_mem_nil, ?_⟩
    refine os_move rfl rfl rfl (Nat.le_of_ble_eq_true rfl) ?_
    apply Exists.intro
    refine ⟨fun w' K hK => ?_, ?_⟩
    (focus
      go_simp
      exact hK)
    refine os_done ⟨rfl, ?_⟩
    have HOK : Hid (DOK ((writeD D f dt).2)) := H2.out.ok.write f dt
    obtain ⟨vs1, h3, f3, p3⟩ := H2.out.stepD (D' := (writeD D f dt).2) (Dstep.old (Below.dr1 wc) HST.out) HOK.out
    have H3 := Lib.hid h3; have P3 := Lib.hid p3
    have L3 : Hid (Lo w0 wd w.heap.size wa.heap.size wc.heap.size gb cb gk ck ⟨kd, f, n, dA, dn, dc, dt, kA, kn, kc, kp⟩) := Lib.hid (LO.out.fr f3 (fun k hk e => FA.out k hk (.inl e)))
    have Z3 : Hid (wc.heap.size ≤ wd.heap.size) := f3.size
    obtain ⟨-, c1, c2, c3, c4, sd, sk, -, -, -⟩ := L3.out.cells
    have SD := Lib.hid sd; have SKI := Lib.hid sk
    have LT3 : Hid (∀ k, Old w0 k → k < wd.heap.size ∧ k ≠ gr) := Lib.hid (fun k hk => ⟨L3.out.all k (.inl hk), fun e => by have h0 := B0.out; have h1 : k < w0.heap.size := hk; omega⟩)
    clear h3 f3 p3 HST sd sk
    go_wp2_with fail
    refine (RWrite_any H3.out.ref H3.out.okr HDN.out f SD.out LT3.out (by omega)).mono ?_
    rintro e we ⟨rfl, hst⟩
    obtain ⟨R1, h4, f4, p4⟩ := H3.out.stepR (E' := (writeD D f dt).2) hst HOK.out
    have H4 := Lib.hid h4; have P4 := Lib.hid p4
    have L4 : Hid (Lo w0 we w.heap.size wa.heap.size wc.heap.size gb cb gk ck ⟨kd, f, n, dA, dn, dc, dt, kA, kn, kc, kp⟩) := Lib.hid (L3.out.fr f4 (fun k hk e => FA.out k hk (.inr (.inl e))))
    obtain ⟨-, -, -, c3, c4, sd, sk, sbm, skm, own⟩ := L4.out.cells
    have SD4 := Lib.hid sd; have SK4 := Lib.hid sk; have SBM := Lib.hid sbm; have SKM := Lib.hid skm; have OWN := Lib.hid own
    have LT4 : Hid (∀ k, Old w0 k → k < we.heap.size) := Lib.hid (fun k hk => L4.out.all k (.inl hk))
    have LI4 : Hid (∀ k, wa.heap.size ≤ k ∧ k < wc.heap.size → k < we.heap.size) := Lib.hid (fun k hk => L4.out.all k (.inr (.inr hk)))
    have GI : Hid (wa.heap.size ≤ gb ∧ gb < wc.heap.size) := L4.out.gbi
    have LD : Hid (((writeD D f dt).2).done ≤ D.done + 1) := Lib.hid (by first | exact opD_done _ _ | exact Nat.le_succ _)
    have GB : Hid (∀ k, k = gb → w0.heap.size ≤ k ∧ ¬ dfoot g vs1 k ∧ ¬ (k = gr ∨ R1 k)) := Lib.hid (fun k hk => by
      subst hk
      have h0 := FA.out k (.inr (.inr GI.out))
      refine ⟨?_, fun e => ?_, fun e => ?_⟩
      · have h2 := W0Z.out
        have h3 := ZA.out
        have h5 := GI.out
        omega
      · rcases P3.out k e with h | h
        · exact h0 (.inl h)
        · have h5 := GI.out; omega
      · rcases e with e | e
        · exact h0 (.inr (.inl e))
        · rcases P4.out k e with h | h
          · exact h0 (.inr (.inr h))
          · have h5 := GI.out; have h6 := Z3.out; omega)
    clear h4 f4 p4 hst H3 L3 SD SKI LT3 HOK sd sk sbm skm own P3 P4 c1 c2
    obtain ⟨er, her⟩ : ∃ er, er = (writeD D f dt).1 := ⟨_, rfl⟩
    rw [← her]
    have herr : (er == er) = true := by simp
    clear her
    go_wp2_with fail
    refine (KeptBytes_sl SBM.out LI4.out SD4.out LT4.out (by omega)).mono ?_
    rintro e wf ⟨rfl, hbf⟩
    have H5 := Lib.hid (H4.out.old hbf)
    have SKM5 := Lib.hid (SKM.out.belF hbf LI4.out)
    have SK5 := Lib.hid (SK4.out.belF hbf LT4.out)
    have OWN5 := Lib.hid (own_fr OWN.out (Fr.of_below (M := NoB) hbf) (fun _ _ e => e))
    have ZF : Hid (we.heap.size ≤ wf.heap.size) := hbf.size
    replace c4 := cell_bel c4 hbf
    clear hbf H4 SKM SK4 OWN SBM SD4 L4 c3
    go_wp2_with fail
    refine (KeptInts_any SKM5.out (fun k hk => Nat.lt_of_lt_of_le (LI4.out k hk) ZF.out) SK5.out (fun k hk => Nat.lt_of_lt_of_le (LT4.out k hk) ZF.out) (by omega)).mono ?_
    rintro e wg ⟨rfl, hbg⟩
    have H6 := Lib.hid (H5.out.old hbg)
    have OWN6 := Lib.hid (own_fr OWN5.out (Fr.of_below (M := NoB) hbg) (fun _ _ e => e))
    clear hbg H5 SKM5 SK5 OWN5 c4
    go_wp2_with fail
    refine (SpoilBytes_any wa.heap.size (some ⟨gb, 0, none⟩) (dn + 5) cb (dn + 5) _ wg OWN6.out (Nat.le_refl _) (by omega)).mono ?_
    rintro e wh ⟨rfl, hg⟩
    have FIN : Hid (∃ D' vs' R', Two w0 wh g D' vs' gr D' R' ∧ D'.done ≤ D.done + 1) := ⟨_, vs1, R1, H6.out.wr ((Fr.of_grown hg).mono (fun k _ e => by injection e.symm with e; exact e.symm) : Fr (fun k => k = gb) wg wh) GB.out, LD.out⟩
    clear hg H6 OWN6
    go_wp2_with fail
    go_ret
    exact ⟨rfl, FIN.out⟩
  · go_wp2_with fail
    refine (Sync_any H2.out.disk H2.out.ok HDN.out f).mono ?_
    rintro e wd ⟨rfl, hst⟩
    have HST := Lib.hid hst
    clear hst
    have HOK : Hid (DOK ((syncD D f).2)) := H2.out.ok.sync f
    obtain ⟨vs1, h3, f3, p3⟩ := H2.out.stepD (D' := (syncD D f).2) (HST.out) HOK.out
    have H3 := Lib.hid h3; have P3 := Lib.hid p3
    have L3 : Hid (Lo w0 wd w.heap.size wa.heap.size wc.heap.size gb cb gk ck ⟨kd, f, n, dA, dn, dc, dt, kA, kn, kc, kp⟩) := Lib.hid (LO.out.fr f3 (fun k hk e => FA.out k hk (.inl e)))
    have Z3 : Hid (wc.heap.size ≤ wd.heap.size) := f3.size
    obtain ⟨-, c1, c2, c3, c4, sd, sk, -, -, -⟩ := L3.out.cells
    have SD := Lib.hid sd; have SKI := Lib.hid sk
    have LT3 : Hid (∀ k, Old w0 k → k < wd.heap.size ∧ k ≠ gr) := Lib.hid (fun k hk => ⟨L3.out.all k (.inl hk), fun e => by have h0 := B0.out; have h1 : k < w0.heap.size := hk; omega⟩)
    clear h3 f3 p3 HST sd sk
    go_wp2_with fail
    refine (RSync_any H3.out.ref H3.out.okr HDN.out f).mono ?_
    rintro e we ⟨rfl, hst⟩
    obtain ⟨R1, h4, f4, p4⟩ := H3.out.stepR (E' := (syncD D f).2) hst HOK.out
    have H4 := Lib.hid h4; have P4 := Lib.hid p4
    have L4 : Hid (Lo w0 we w.heap.size wa.heap.size wc.heap.size gb cb gk ck ⟨kd, f, n, dA, dn, dc, dt, kA, kn, kc, kp⟩) := Lib.hid (L3.out.fr f4 (fun k hk e => FA.out k hk (.inr (.inl e))))
    obtain ⟨-, -, -, c3, c4, sd, sk, sbm, skm, own⟩ := L4.out.cells
    have SD4 := Lib.hid sd; have SK4 := Lib.hid sk; have SBM := Lib.hid sbm; have SKM := Lib.hid skm; have OWN := Lib.hid own
    have LT4 : Hid (∀ k, Old w0 k → k < we.heap.size) := Lib.hid (fun k hk => L4.out.all k (.inl hk))
    have LI4 : Hid (∀ k, wa.heap.size ≤ k ∧ k < wc.heap.size → k < we.heap.size) := Lib.hid (fun k hk => L4.out.all k (.inr (.inr hk)))
    have GI : Hid (wa.heap.size ≤ gb ∧ gb < wc.heap.size) := L4.out.gbi
    have LD : Hid (((syncD D f).2).done ≤ D.done + 1) := Lib.hid (by first | exact opD_done _ _ | exact Nat.le_succ _)
    have GB : Hid (∀ k, k = gb → w0.heap.size ≤ k ∧ ¬ dfoot g vs1 k ∧ ¬ (k = gr ∨ R1 k)) := Lib.hid (fun k hk => by
      subst hk
      have h0 := FA.out k (.inr (.inr GI.out))
      refine ⟨?_, fun e => ?_, fun e => ?_⟩
      · have h2 := W0Z.out
        have h3 := ZA.out
        have h5 := GI.out
        omega
      · rcases P3.out k e with h | h
        · exact h0 (.inl h)
        · have h5 := GI.out; omega
      · rcases e with e | e
        · exact h0 (.inr (.inl e))
        · rcases P4.out k e with h | h
          · exact h0 (.inr (.inr h))
          · have h5 := GI.out; have h6 := Z3.out; omega)
    clear h4 f4 p4 hst H3 L3 SD SKI LT3 HOK sd sk sbm skm own P3 P4 c1 c2
    obtain ⟨er, her⟩ : ∃ er, er = (syncD D f).1 := ⟨_, rfl⟩
    rw [← her]
    have herr : (er == er) = true := by simp
    clear her
    go_wp2_with fail
    refine (KeptBytes_sl SBM.out LI4.out SD4.out LT4.out (by omega)).mono ?_
    rintro e wf ⟨rfl, hbf⟩
    have H5 := Lib.hid (H4.out.old hbf)
    have SKM5 := Lib.hid (SKM.out.belF hbf LI4.out)
    have SK5 := Lib.hid (SK4.out.belF hbf LT4.out)
    have OWN5 := Lib.hid (own_fr OWN.out (Fr.of_below (M := NoB) hbf) (fun _ _ e => e))
    have ZF : Hid (we.heap.size ≤ wf.heap.size) := hbf.size
    replace c4 := cell_bel c4 hbf
    clear hbf H4 SKM SK4 OWN SBM SD4 L4 c3
    go_wp2_with fail
    refine (KeptInts_any SKM5.out (fun k hk => Nat.lt_of_lt_of_le (LI4.out k hk) ZF.out) SK5.out (fun k hk => Nat.lt_of_lt_of_le (LT4.out k hk) ZF.out) (by omega)).mono ?_
    rintro e wg ⟨rfl, hbg⟩
    have H6 := Lib.hid (H5.out.old hbg)
    have OWN6 := Lib.hid (own_fr OWN5.out (Fr.of_below (M := NoB) hbg) (fun _ _ e => e))
    clear hbg H5 SKM5 SK5 OWN5 c4
    go_wp2_with fail
    refine (SpoilBytes_any wa.heap.size (some ⟨gb, 0, none⟩) (dn + 5) cb (dn + 5) _ wg OWN6.out (Nat.le_refl _) (by omega)).mono ?_
    rintro e wh ⟨rfl, hg⟩
    have FIN : Hid (∃ D' vs' R', Two w0 wh g D' vs' gr D' R' ∧ D'.done ≤ D.done + 1) := ⟨_, vs1, R1, H6.out.wr ((Fr.of_grown hg).mono (fun k _ e => by injection e.symm with e; exact e.symm) : Fr (fun k => k = gb) wg wh) GB.out, LD.out⟩
    clear hg H6 OWN6
    go_wp2_with fail
    go_ret
    exact ⟨rfl, FIN.out⟩
  · go_wp2_with fail
    refine (Cut_any H2.out.disk H2.out.ok HDN.out f n).mono ?_
    rintro e wd ⟨rfl, hst⟩
    have HST := Lib.hid hst
    clear hst
    have HOK : Hid (DOK ((cutD D f n).2)) := H2.out.ok.cut f n
    obtain ⟨vs1, h3, f3, p3⟩ := H2.out.stepD (D' := (cutD D f n).2) (HST.out) HOK.out
    have H3 := Lib.hid h3; have P3 := Lib.hid p3
    have L3 : Hid (Lo w0 wd w.heap.size wa.heap.size wc.heap.size gb cb gk ck ⟨kd, f, n, dA, dn, dc, dt, kA, kn, kc, kp⟩) := Lib.hid (LO.out.fr f3 (fun k hk e => FA.out k hk (.inl e)))
    have Z3 : Hid (wc.heap.size ≤ wd.heap.size) := f3.size
    obtain ⟨-, c1, c2, c3, c4, sd, sk, -, -, -⟩ := L3.out.cells
    have SD := Lib.hid sd; have SKI := Lib.hid sk
    have LT3 : Hid (∀ k, Old w0 k → k < wd.heap.size ∧ k ≠ gr) := Lib.hid (fun k hk => ⟨L3.out.all k (.inl hk), fun e => by have h0 := B0.out; have h1 : k < w0.heap.size := hk; omega⟩)
    clear h3 f3 p3 HST sd sk
    go_wp2_with fail
    refine (RCut_any H3.out.ref H3.out.okr HDN.out f n).mono ?_
    rintro e we ⟨rfl, hst⟩
    obtain ⟨R1, h4, f4, p4⟩ := H3.out.stepR (E' := (cutD D f n).2) hst HOK.out
    have H4 := Lib.hid h4; have P4 := Lib.hid p4
    have L4 : Hid (Lo w0 we w.heap.size wa.heap.size wc.heap.size gb cb gk ck ⟨kd, f, n, dA, dn, dc, dt, kA, kn, kc, kp⟩) := Lib.hid (L3.out.fr f4 (fun k hk e => FA.out k hk (.inr (.inl e))))
    obtain ⟨-, -, -, c3, c4, sd, sk, sbm, skm, own⟩ := L4.out.cells
    have SD4 := Lib.hid sd; have SK4 := Lib.hid sk; have SBM := Lib.hid sbm; have SKM := Lib.hid skm; have OWN := Lib.hid own
    have LT4 : Hid (∀ k, Old w0 k → k < we.heap.size) := Lib.hid (fun k hk => L4.out.all k (.inl hk))
    have LI4 : Hid (∀ k, wa.heap.size ≤ k ∧ k < wc.heap.size → k < we.heap.size) := Lib.hid (fun k hk => L4.out.all k (.inr (.inr hk)))
    have GI : Hid (wa.heap.size ≤ gb ∧ gb < wc.heap.size) := L4.out.gbi
    have LD : Hid (((cutD D f n).2).done ≤ D.done + 1) := Lib.hid (by first | exact opD_done _ _ | exact Nat.le_succ _)
    have GB : Hid (∀ k, k = gb → w0.heap.size ≤ k ∧ ¬ dfoot g vs1 k ∧ ¬ (k = gr ∨ R1 k)) := Lib.hid (fun k hk => by
      subst hk
      have h0 := FA.out k (.inr (.inr GI.out))
      refine ⟨?_, fun e => ?_, fun e => ?_⟩
      · have h2 := W0Z.out
        have h3 := ZA.out
        have h5 := GI.out
        omega
      · rcases P3.out k e with h | h
        · exact h0 (.inl h)
        · have h5 := GI.out; omega
      · rcases e with e | e
        · exact h0 (.inr (.inl e))
        · rcases P4.out k e with h | h
          · exact h0 (.inr (.inr h))
          · have h5 := GI.out; have h6 := Z3.out; omega)
    clear h4 f4 p4 hst H3 L3 SD SKI LT3 HOK sd sk sbm skm own P3 P4 c1 c2
    obtain ⟨er, her⟩ : ∃ er, er = (cutD D f n).1 := ⟨_, rfl⟩
    rw [← her]
    have herr : (er == er) = true := by simp
    clear her
    go_wp2_with fail
    refine (KeptBytes_sl SBM.out LI4.out SD4.out LT4.out (by omega)).mono ?_
    rintro e wf ⟨rfl, hbf⟩
    have H5 := Lib.hid (H4.out.old hbf)
    have SKM5 := Lib.hid (SKM.out.belF hbf LI4.out)
    have SK5 := Lib.hid (SK4.out.belF hbf LT4.out)
    have OWN5 := Lib.hid (own_fr OWN.out (Fr.of_below (M := NoB) hbf) (fun _ _ e => e))
    have ZF : Hid (we.heap.size ≤ wf.heap.size) := hbf.size
    replace c4 := cell_bel c4 hbf
    clear hbf H4 SKM SK4 OWN SBM SD4 L4 c3
    go_wp2_with fail
    refine (KeptInts_any SKM5.out (fun k hk => Nat.lt_of_lt_of_le (LI4.out k hk) ZF.out) SK5.out (fun k hk => Nat.lt_of_lt_of_le (LT4.out k hk) ZF.out) (by omega)).mono ?_
    rintro e wg ⟨rfl, hbg⟩
    have H6 := Lib.hid (H5.out.old hbg)
    have OWN6 := Lib.hid (own_fr OWN5.out (Fr.of_below (M := NoB) hbg) (fun _ _ e => e))
    clear hbg H5 SKM5 SK5 OWN5 c4
    go_wp2_with fail
    refine (SpoilBytes_any wa.heap.size (some ⟨gb, 0, none⟩) (dn + 5) cb (dn + 5) _ wg OWN6.out (Nat.le_refl _) (by omega)).mono ?_
    rintro e wh ⟨rfl, hg⟩
    have FIN : Hid (∃ D' vs' R', Two w0 wh g D' vs' gr D' R' ∧ D'.done ≤ D.done + 1) := ⟨_, vs1, R1, H6.out.wr ((Fr.of_grown hg).mono (fun k _ e => by injection e.symm with e; exact e.symm) : Fr (fun k => k = gb) wg wh) GB.out, LD.out⟩
    clear hg H6 OWN6
    go_wp2_with fail
    go_ret
    exact ⟨rfl, FIN.out⟩
  · go_wp2_with fail
    refine wp_calm ?_
    refine wp_region_oc (fun _ w' => Below (wc).drew.heap.size (wc).drew w') [2, 4, 7] [(10, 7, [9, 8])] (.move 0 (.move 1 (.take 2 (.move 3 (.take 4 (.move 5 (.move 6 (.take 7 (.move 8 (.move 9 (.run 10 [] (.move 11 .done)))))))))))) (by kernel_rfl) (by kernel_rfl) (fun _ _ _ _ _ h => nomatch h.1) ?_
    have hS0 : Below (wc).drew.heap.size (wc).drew (wc).drew := Below.refl _ _
    refine os_move rfl rfl rfl (Nat.le_of_ble_eq_true rfl) ?_
    apply Exists.intro
    refine ⟨fun w' K hK => ?_, ?_⟩
    (focus
      go_simp
      exact hK)
    refine os_move rfl rfl rfl (Nat.le_of_ble_eq_true rfl) ?_
    apply Exists.intro
    refine ⟨fun w' K hK => ?_, ?_⟩
    (focus
      go_simp
      exact hK)
    refine os_yld hS0 rfl rfl rfl (Nat.le_of_ble_eq_true rfl) ?_
    apply Exists.intro
    refine ⟨fun w' hS' K hK => ?_, ?_⟩
    (focus
      obtain ⟨hcc, hff⟩ := bcellB (Below.undr hS')
      clear hS'
      go_simp
      exact hK)
    refine os_move rfl rfl rfl (Nat.le_of_ble_eq_true rfl) ?_
    apply Exists.intro
    refine ⟨fun w' K hK => ?_, ?_⟩
    (focus
      go_simp
      exact hK)
    refine os_yld hS0 rfl rfl rfl (Nat.le_of_ble_eq_true rfl) ?_
    apply Exists.intro
    refine ⟨fun w' hS' K hK => ?_, ?_⟩
    (focus
      obtain ⟨hcc, hff⟩ := bcellB (Below.undr hS')
      clear hS'
      go_simp
      exact hK)
    refine os_move rfl rfl rfl (Nat.le_of_ble_eq_true rfl) ?_
    apply Exists.intro
    refine ⟨fun w' K hK => ?_, ?_⟩
    (focus
      go_simp
      exact hK)
    refine os_move rfl rfl rfl (Nat.le_of_ble_eq_true rfl) ?_
    apply Exists.intro
    refine ⟨fun w' K hK => ?_, ?_⟩
    (focus
      go_simp
      exact hK)
    refine os_yld hS0 rfl rfl rfl (Nat.le_of_ble_eq_true rfl) ?_
    apply Exists.intro
    refine ⟨fun w' hS' K hK => ?_, ?_⟩
    (focus
      obtain ⟨hcc, hff⟩ := bcellB (Below.undr hS')
      clear hS'
      go_simp
      exact hK)
    refine os_move rfl rfl rfl (Nat.le_of_ble_eq_true rfl) ?_
    apply Exists.intro
    refine ⟨fun w' K hK => ?_, ?_⟩
    (focus
      go_simp
      exact hK)
    refine os_move rfl rfl rfl (Nat.le_of_ble_eq_true rfl) ?_
    apply Exists.intro
    refine ⟨fun w' K hK => ?_, ?_⟩
    (focus
      go_simp
      exact hK)
    refine os_run rfl rfl (fun K hK => ?_)
    go_wp2_with fail
    refine (Over_any (H2.out.disk.bel (Below.dr1 wc)) H2.out.ok HDN.out f n (SB.out.dr 1) FD.out (by omega)).mono ?_
    rintro e wd ⟨rfl, hst⟩
    have HST := Lib.hid hst
    clear hst
    go_wp2_with fail
    refine ⟨fun _ hk => absurd hk List.not_mem_nil, ?_⟩
    refine os_move rfl rfl rfl (Nat.le_of_ble_eq_true rfl) ?_
    apply Exists.intro
    refine ⟨fun w' K hK => ?_, ?_⟩
    (focus
      go_simp
      exact hK)
    refine os_done ⟨rfl, ?_⟩
    have HOK : Hid (DOK ((overD D f n dt).2)) := H2.out.ok.over f n dt
    obtain ⟨vs1, h3, f3, p3⟩ := H2.out.stepD (D' := (overD D f n dt).2) (Dstep.old (Below.dr1 wc) HST.out) HOK.out
    have H3 := Lib.hid h3; have P3 := Lib.hid p3
    have L3 : Hid (Lo w0 wd w.heap.size wa.heap.size wc.heap.size gb cb gk ck ⟨kd, f, n, dA, dn, dc, dt, kA, kn, kc, kp⟩) := Lib.hid (LO.out.fr f3 (fun k hk e => FA.out k hk (.inl e)))
    have Z3 : Hid (wc.heap.size ≤ wd.heap.size) := f3.size
    obtain ⟨-, c1, c2, c3, c4, sd, sk, -, -, -⟩ := L3.out.cells
    have SD := Lib.hid sd; have SKI := Lib.hid sk
    have LT3 : Hid (∀ k, Old w0 k → k < wd.heap.size ∧ k ≠ gr) := Lib.hid (fun k hk => ⟨L3.out.all k (.inl hk), fun e => by have h0 := B0.out; have h1 : k < w0.heap.size := hk; omega⟩)
    clear h3 f3 p3 HST sd sk
    go_wp2_with fail
    refine (ROver_any H3.out.ref H3.out.okr HDN.out f n SD.out LT3.out (by omega)).mono ?_
    rintro e we ⟨rfl, hst⟩
    obtain ⟨R1, h4, f4, p4⟩ := H3.out.stepR (E' := (overD D f n dt).2) hst HOK.out
    have H4 := Lib.hid h4; have P4 := Lib.hid p4
    have L4 : Hid (Lo w0 we w.heap.size wa.heap.size wc.heap.size gb cb gk ck ⟨kd, f, n, dA, dn, dc, dt, kA, kn, kc, kp⟩) := Lib.hid (L3.out.fr f4 (fun k hk e => FA.out k hk (.inr (.inl e))))
    obtain ⟨-, -, -, c3, c4, sd, sk, sbm, skm, own⟩ := L4.out.cells
    have SD4 := Lib.hid sd; have SK4 := Lib.hid sk; have SBM := Lib.hid sbm; have SKM := Lib.hid skm; have OWN := Lib.hid own
    have LT4 : Hid (∀ k, Old w0 k → k < we.heap.size) := Lib.hid (fun k hk => L4.out.all k (.inl hk))
    have LI4 : Hid (∀ k, wa.heap.size ≤ k ∧ k < wc.heap.size → k < we.heap.size) := Lib.hid (fun k hk => L4.out.all k (.inr (.inr hk)))
    have GI : Hid (wa.heap.size ≤ gb ∧ gb < wc.heap.size) := L4.out.gbi
    have LD : Hid (((overD D f n dt).2).done ≤ D.done + 1) := Lib.hid (by first | exact opD_done _ _ | exact Nat.le_succ _)
    have GB : Hid (∀ k, k = gb → w0.heap.size ≤ k ∧ ¬ dfoot g vs1 k ∧ ¬ (k = gr ∨ R1 k)) := Lib.hid (fun k hk => by
      subst hk
      have h0 := FA.out k (.inr (.inr GI.out))
      refine ⟨?_, fun e => ?_, fun e => ?_⟩
      · have h2 := W0Z.out
        have h3 := ZA.out
        have h5 := GI.out
        omega
      · rcases P3.out k e with h | h
        · exact h0 (.inl h)
        · have h5 := GI.out; omega
      · rcases e with e | e
        · exact h0 (.inr (.inl e))
        · rcases P4.out k e with h | h
          · exact h0 (.inr (.inr h))
          · have h5 := GI.out; have h6 := Z3.out; omega)
    clear h4 f4 p4 hst H3 L3 SD SKI LT3 HOK sd sk sbm skm own P3 P4 c1 c2
    obtain ⟨er, her⟩ : ∃ er, er = (overD D f n dt).1 := ⟨_, rfl⟩
    rw [← her]
    have herr : (er == er) = true := by simp
    clear her
    go_wp2_with fail
    refine (KeptBytes_sl SBM.out LI4.out SD4.out LT4.out (by omega)).mono ?_
    rintro e wf ⟨rfl, hbf⟩
    have H5 := Lib.hid (H4.out.old hbf)
    have SKM5 := Lib.hid (SKM.out.belF hbf LI4.out)
    have SK5 := Lib.hid (SK4.out.belF hbf LT4.out)
    have OWN5 := Lib.hid (own_fr OWN.out (Fr.of_below (M := NoB) hbf) (fun _ _ e => e))
    have ZF : Hid (we.heap.size ≤ wf.heap.size) := hbf.size
    replace c4 := cell_bel c4 hbf
    clear hbf H4 SKM SK4 OWN SBM SD4 L4 c3
    go_wp2_with fail
    refine (KeptInts_any SKM5.out (fun k hk => Nat.lt_of_lt_of_le (LI4.out k hk) ZF.out) SK5.out (fun k hk => Nat.lt_of_lt_of_le (LT4.out k hk) ZF.out) (by omega)).mono ?_
    rintro e wg ⟨rfl, hbg⟩
    have H6 := Lib.hid (H5.out.old hbg)
    have OWN6 := Lib.hid (own_fr OWN5.out (Fr.of_below (M := NoB) hbg) (fun _ _ e => e))
    clear hbg H5 SKM5 SK5 OWN5 c4
    go_wp2_with fail
    refine (SpoilBytes_any wa.heap.size (some ⟨gb, 0, none⟩) (dn + 5) cb (dn + 5) _ wg OWN6.out (Nat.le_refl _) (by omega)).mono ?_
    rintro e wh ⟨rfl, hg⟩
    have FIN : Hid (∃ D' vs' R', Two w0 wh g D' vs' gr D' R' ∧ D'.done ≤ D.done + 1) := ⟨_, vs1, R1, H6.out.wr ((Fr.of_grown hg).mono (fun k _ e => by injection e.symm with e; exact e.symm) : Fr (fun k => k = gb) wg wh) GB.out, LD.out⟩
    clear hg H6 OWN6
    go_wp2_with fail
    go_ret
    exact ⟨rfl, FIN.out⟩
  · go_wp2_with fail
    refine (Arm_any H2.out.disk n).mono ?_
    rintro e wd ⟨rfl, hst⟩
    have HST := Lib.hid hst
    clear hst
    have HOK : Hid (DOK (armD D n)) := H2.out.ok.arm n HNB.out
    obtain ⟨vs1, h3, f3, p3⟩ := H2.out.stepD (D' := armD D n) (HST.out) HOK.out
    have H3 := Lib.hid h3; have P3 := Lib.hid p3
    have L3 : Hid (Lo w0 wd w.heap.size wa.heap.size wc.heap.size gb cb gk ck ⟨kd, f, n, dA, dn, dc, dt, kA, kn, kc, kp⟩) := Lib.hid (LO.out.fr f3 (fun k hk e => FA.out k hk (.inl e)))
    have Z3 : Hid (wc.heap.size ≤ wd.heap.size) := f3.size
    obtain ⟨-, c1, c2, c3, c4, sd, sk, -, -, -⟩ := L3.out.cells
    have SD := Lib.hid sd; have SKI := Lib.hid sk
    have LT3 : Hid (∀ k, Old w0 k → k < wd.heap.size ∧ k ≠ gr) := Lib.hid (fun k hk => ⟨L3.out.all k (.inl hk), fun e => by have h0 := B0.out; have h1 : k < w0.heap.size := hk; omega⟩)
    clear h3 f3 p3 HST sd sk
    go_wp2_with fail
    refine (RArm_any H3.out.ref n).mono ?_
    rintro e we ⟨rfl, hst⟩
    obtain ⟨R1, h4, f4, p4⟩ := H3.out.stepR (E' := armD D n) hst HOK.out
    have H4 := Lib.hid h4; have P4 := Lib.hid p4
    have L4 : Hid (Lo w0 we w.heap.size wa.heap.size wc.heap.size gb cb gk ck ⟨kd, f, n, dA, dn, dc, dt, kA, kn, kc, kp⟩) := Lib.hid (L3.out.fr f4 (fun k hk e => FA.out k hk (.inr (.inl e))))
    obtain ⟨-, -, -, c3, c4, sd, sk, sbm, skm, own⟩ := L4.out.cells
    have SD4 := Lib.hid sd; have SK4 := Lib.hid sk; have SBM := Lib.hid sbm; have SKM := Lib.hid skm; have OWN := Lib.hid own
    have LT4 : Hid (∀ k, Old w0 k → k < we.heap.size) := Lib.hid (fun k hk => L4.out.all k (.inl hk))
    have LI4 : Hid (∀ k, wa.heap.size ≤ k ∧ k < wc.heap.size → k < we.heap.size) := Lib.hid (fun k hk => L4.out.all k (.inr (.inr hk)))
    have GI : Hid (wa.heap.size ≤ gb ∧ gb < wc.heap.size) := L4.out.gbi
    have LD : Hid ((armD D n).done ≤ D.done + 1) := Lib.hid (by first | exact opD_done _ _ | exact Nat.le_succ _)
    have GB : Hid (∀ k, k = gb → w0.heap.size ≤ k ∧ ¬ dfoot g vs1 k ∧ ¬ (k = gr ∨ R1 k)) := Lib.hid (fun k hk => by
      subst hk
      have h0 := FA.out k (.inr (.inr GI.out))
      refine ⟨?_, fun e => ?_, fun e => ?_⟩
      · have h2 := W0Z.out
        have h3 := ZA.out
        have h5 := GI.out
        omega
      · rcases P3.out k e with h | h
        · exact h0 (.inl h)
        · have h5 := GI.out; omega
      · rcases e with e | e
        · exact h0 (.inr (.inl e))
        · rcases P4.out k e with h | h
          · exact h0 (.inr (.inr h))
          · have h5 := GI.out; have h6 := Z3.out; omega)
    clear h4 f4 p4 hst H3 L3 SD SKI LT3 HOK sd sk sbm skm own P3 P4 c1 c2
    have her0 : ((0 : Int) == 0) = true := rfl
    go_wp2_with fail
    refine (KeptBytes_sl SBM.out LI4.out SD4.out LT4.out (by omega)).mono ?_
    rintro e wf ⟨rfl, hbf⟩
    have H5 := Lib.hid (H4.out.old hbf)
    have SKM5 := Lib.hid (SKM.out.belF hbf LI4.out)
    have SK5 := Lib.hid (SK4.out.belF hbf LT4.out)
    have OWN5 := Lib.hid (own_fr OWN.out (Fr.of_below (M := NoB) hbf) (fun _ _ e => e))
    have ZF : Hid (we.heap.size ≤ wf.heap.size) := hbf.size
    replace c4 := cell_bel c4 hbf
    clear hbf H4 SKM SK4 OWN SBM SD4 L4 c3
    go_wp2_with fail
    refine (KeptInts_any SKM5.out (fun k hk => Nat.lt_of_lt_of_le (LI4.out k hk) ZF.out) SK5.out (fun k hk => Nat.lt_of_lt_of_le (LT4.out k hk) ZF.out) (by omega)).mono ?_
    rintro e wg ⟨rfl, hbg⟩
    have H6 := Lib.hid (H5.out.old hbg)
    have OWN6 := Lib.hid (own_fr OWN5.out (Fr.of_below (M := NoB) hbg) (fun _ _ e => e))
    clear hbg H5 SKM5 SK5 OWN5 c4
    go_wp2_with fail
    refine (SpoilBytes_any wa.heap.size (some ⟨gb, 0, none⟩) (dn + 5) cb (dn + 5) _ wg OWN6.out (Nat.le_refl _) (by omega)).mono ?_
    rintro e wh ⟨rfl, hg⟩
    have FIN : Hid (∃ D' vs' R', Two w0 wh g D' vs' gr D' R' ∧ D'.done ≤ D.done + 1) := ⟨_, vs1, R1, H6.out.wr ((Fr.of_grown hg).mono (fun k _ e => by injection e.symm with e; exact e.symm) : Fr (fun k => k = gb) wg wh) GB.out, LD.out⟩
    clear hg H6 OWN6
    go_wp2_with fail
    go_ret
    exact ⟨rfl, FIN.out⟩
  · go_wp2_with fail
    refine (Crash_any H2.out.disk H2.out.ok SK.out FD.out (by omega)).mono ?_
    rintro e wd ⟨rfl, hst⟩
    have HST := Lib.hid hst
    clear hst
    have HOK : Hid (DOK (crashD D kp)) := H2.out.ok.crash kp
    obtain ⟨vs1, h3, f3, p3⟩ := H2.out.stepD (D' := crashD D kp) (HST.out) HOK.out
    have H3 := Lib.hid h3; have P3 := Lib.hid p3
    have L3 : Hid (Lo w0 wd w.heap.size wa.heap.size wc.heap.size gb cb gk ck ⟨kd, f, n, dA, dn, dc, dt, kA, kn, kc, kp⟩) := Lib.hid (LO.out.fr f3 (fun k hk e => FA.out k hk (.inl e)))
    have Z3 : Hid (wc.heap.size ≤ wd.heap.size) := f3.size
    obtain ⟨-, c1, c2, c3, c4, sd, sk, -, -, -⟩ := L3.out.cells
    have SD := Lib.hid sd; have SKI := Lib.hid sk
    have LT3 : Hid (∀ k, Old w0 k → k < wd.heap.size ∧ k ≠ gr) := Lib.hid (fun k hk => ⟨L3.out.all k (.inl hk), fun e => by have h0 := B0.out; have h1 : k < w0.heap.size := hk; omega⟩)
    clear h3 f3 p3 HST sd sk
    go_wp2_with fail
    refine (RCrash_any H3.out.ref H3.out.okr SKI.out LT3.out (by omega)).mono ?_
    rintro e we ⟨rfl, hst⟩
    obtain ⟨R1, h4, f4, p4⟩ := H3.out.stepR (E' := crashD D kp) hst HOK.out
    have H4 := Lib.hid h4; have P4 := Lib.hid p4
    have L4 : Hid (Lo w0 we w.heap.size wa.heap.size wc.heap.size gb cb gk ck ⟨kd, f, n, dA, dn, dc, dt, kA, kn, kc, kp⟩) := Lib.hid (L3.out.fr f4 (fun k hk e => FA.out k hk (.inr (.inl e))))
    obtain ⟨-, -, -, c3, c4, sd, sk, sbm, skm, own⟩ := L4.out.cells
    have SD4 := Lib.hid sd; have SK4 := Lib.hid sk; have SBM := Lib.hid sbm; have SKM := Lib.hid skm; have OWN := Lib.hid own
    have LT4 : Hid (∀ k, Old w0 k → k < we.heap.size) := Lib.hid (fun k hk => L4.out.all k (.inl hk))
    have LI4 : Hid (∀ k, wa.heap.size ≤ k ∧ k < wc.heap.size → k < we.heap.size) := Lib.hid (fun k hk => L4.out.all k (.inr (.inr hk)))
    have GI : Hid (wa.heap.size ≤ gb ∧ gb < wc.heap.size) := L4.out.gbi
    have LD : Hid ((crashD D kp).done ≤ D.done + 1) := Lib.hid (by first | exact opD_done _ _ | exact Nat.le_succ _)
    have GB : Hid (∀ k, k = gb → w0.heap.size ≤ k ∧ ¬ dfoot g vs1 k ∧ ¬ (k = gr ∨ R1 k)) := Lib.hid (fun k hk => by
      subst hk
      have h0 := FA.out k (.inr (.inr GI.out))
      refine ⟨?_, fun e => ?_, fun e => ?_⟩
      · have h2 := W0Z.out
        have h3 := ZA.out
        have h5 := GI.out
        omega
      · rcases P3.out k e with h | h
        · exact h0 (.inl h)
        · have h5 := GI.out; omega
      · rcases e with e | e
        · exact h0 (.inr (.inl e))
        · rcases P4.out k e with h | h
          · exact h0 (.inr (.inr h))
          · have h5 := GI.out; have h6 := Z3.out; omega)
    clear h4 f4 p4 hst H3 L3 SD SKI LT3 HOK sd sk sbm skm own P3 P4 c1 c2
    have her0 : ((0 : Int) == 0) = true := rfl
    go_wp2_with fail
    refine (KeptBytes_sl SBM.out LI4.out SD4.out LT4.out (by omega)).mono ?_
    rintro e wf ⟨rfl, hbf⟩
    have H5 := Lib.hid (H4.out.old hbf)
    have SKM5 := Lib.hid (SKM.out.belF hbf LI4.out)
    have SK5 := Lib.hid (SK4.out.belF hbf LT4.out)
    have OWN5 := Lib.hid (own_fr OWN.out (Fr.of_below (M := NoB) hbf) (fun _ _ e => e))
    have ZF : Hid (we.heap.size ≤ wf.heap.size) := hbf.size
    replace c4 := cell_bel c4 hbf
    clear hbf H4 SKM SK4 OWN SBM SD4 L4 c3
    go_wp2_with fail
    refine (KeptInts_any SKM5.out (fun k hk => Nat.lt_of_lt_of_le (LI4.out k hk) ZF.out) SK5.out (fun k hk => Nat.lt_of_lt_of_le (LT4.out k hk) ZF.out) (by omega)).mono ?_
    rintro e wg ⟨rfl, hbg⟩
    have H6 := Lib.hid (H5.out.old hbg)
    have OWN6 := Lib.hid (own_fr OWN5.out (Fr.of_below (M := NoB) hbg) (fun _ _ e => e))
    clear hbg H5 SKM5 SK5 OWN5 c4
    go_wp2_with fail
    refine (SpoilBytes_any wa.heap.size (some ⟨gb, 0, none⟩) (dn + 5) cb (dn + 5) _ wg OWN6.out (Nat.le_refl _) (by omega)).mono ?_
    rintro e wh ⟨rfl, hg⟩
    have FIN : Hid (∃ D' vs' R', Two w0 wh g D' vs' gr D' R' ∧ D'.done ≤ D.done + 1) := ⟨_, vs1, R1, H6.out.wr ((Fr.of_grown hg).mono (fun k _ e => by injection e.symm with e; exact e.symm) : Fr (fun k => k = gb) wg wh) GB.out, LD.out⟩
    clear hg H6 OWN6
    go_wp2_with fail
    go_ret
    exact ⟨rfl, FIN.out⟩
end Go.Proofs.Ytjfnpndpigpaiaa
