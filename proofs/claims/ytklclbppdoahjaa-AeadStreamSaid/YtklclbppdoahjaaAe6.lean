/- Aead: Open. -/
import Derived.Test.YtklclbppdoahjaaAe5
import Derived.Deep.CutRange
namespace Go.Proofs.Ytklclbppdoahjaa
set_option maxRecDepth 100000
open Go.RowKit
attribute [local go_sem] yld yldUpon_value

theorem or_byte (a b : UInt8) : bits .or .u8 (a.toNat : Int) (b.toNat : Int) = ((a ||| b).toNat : Int) := by
  show IntKind.u8.wrap ((BitVec.ofInt _ _ ||| BitVec.ofInt _ _).toNat : Int) = _
  have e : ∀ u : UInt8, BitVec.ofInt (IntKind.u8.bits) (u.toNat : Int) = u.toBitVec := fun u => by
    apply BitVec.eq_of_toNat_eq
    have := u.toNat_lt
    show (BitVec.ofInt 8 _).toNat = _
    rw [BitVec.toNat_ofInt]
    simp only [Nat.reducePow]
    show _ = u.toNat
    omega
  rw [e, e]
  have h := (a ||| b).toNat_lt
  show IntKind.u8.wrap ((a ||| b).toNat : Int) = _
  generalize (a ||| b).toNat = x at h
  simp [IntKind.wrap, IntKind.signed, IntKind.bits]
  omega
/-- what is odd of the first k -/
def oddL (s t : List UInt8) : Nat → UInt8
  | 0 => 0
  | k + 1 => oddL s t k ||| (s.getD k 0 ^^^ t.getD k 0)
theorem or_zero8 (a b : UInt8) : a ||| b = 0 ↔ a = 0 ∧ b = 0 := by
  constructor
  · intro h
    have h2 : a.toNat ||| b.toNat = 0 := by rw [← UInt8.toNat_or, h]; rfl
    have h3 := Nat.or_eq_zero_iff.1 h2
    exact ⟨UInt8.toNat_inj.1 h3.1, UInt8.toNat_inj.1 h3.2⟩
  · rintro ⟨rfl, rfl⟩; rfl
theorem oddL_zero (s t : List UInt8) (k : Nat) : oddL s t k = 0 ↔ ∀ i, i < k → s.getD i 0 = t.getD i 0 := by
  induction k with
  | zero => simp [oddL]
  | succ k ih =>
    rw [oddL, or_zero8, ih, UInt8.xor_eq_zero_iff]
    constructor
    · rintro ⟨h1, h2⟩ i hi
      by_cases h : i = k
      · subst h; exact h2
      · exact h1 i (by omega)
    · intro h
      exact ⟨fun i hi => h i (by omega), h k (by omega)⟩
theorem oddL_eq {s t : List UInt8} {k : Nat} (hs : s.length = k) (ht : t.length = k) : oddL s t k = 0 ↔ s = t := by
  rw [oddL_zero]
  constructor
  · intro h
    apply List.ext_getElem (by omega)
    intro i h1 h2
    have := h i (by omega)
    rwa [getD_eq h1, getD_eq h2] at this
  · rintro rfl i _; rfl
/-- what is opened -/
def openL (ky nc head s : List UInt8) : Option (List UInt8) :=
  if s.length < 16 then none else if s.drop (s.length - 16) = aeadTag ky nc head (s.take (s.length - 16)) then some (streamL ky nc (s.take (s.length - 16))) else none
theorem openL_len {ky nc head s p : List UInt8} (h : openL ky nc head s = some p) : p.length + 16 = s.length := by
  unfold openL at h
  split at h
  · cases h
  · split at h
    · injection h with h; subst h; rw [streamL_len, List.length_take]; omega
    · cases h

set_option maxHeartbeats 8000000 in
theorem Open_any {w : World} (rc : Value) {ky nc : List UInt8} (hk : ky.length = 32) (hn : nc.length = 12) {F G : Nat → Prop} {A B : Option Addr} {n c m d : Nat} {head s : List UInt8} (h1 : Sl w F A n c head) (hF : ∀ k, F k → k < w.heap.size) (h2 : Sl w G B m d s) (hG : ∀ k, G k → k < w.heap.size) (hb1 : n ≤ 10000000) (hb2 : m ≤ 1000000) :
    Calls Try.prog 18 #[rc, .agg (bs ky).toArray, .agg (bs nc).toArray, .slice A n c, .slice B m d] w fun e w' => (∃ A' n' c', e = .returned (.tuple #[.slice A' n' c', .bool (openL ky nc head s).isSome]) ∧ w'.ownsRow w.heap.size 5 1 (.slice A' n' c') n' (bs ((openL ky nc head s).getD []))) ∧ Below w.heap.size w w' := by
  have HK := Lib.hid hk; have HN := Lib.hid hn; have H1 := Lib.hid h1; have H2 := Lib.hid h2; have HF := Lib.hid hF; have HG := Lib.hid hG
  have L1 := Lib.hid h1.len; have L2 := Lib.hid h2.len
  by_cases hlt : m < 16
  · have ho : openL ky nc head s = none := by unfold openL; rw [if_pos (by have := L2.out; omega)]
    rw [ho]
    have hltI : (m : Int) - 16 < 0 := by omega
    have hltI2 : -100 ≤ (m : Int) - 16 := by omega
    clear hk hn h1 h2 hF hG ho
    go_enter Try.func18, Try.ntmps18
    go_wp2_with fail
    go_ret2
    exact ⟨⟨none, 0, 0, rfl, World.ownsRow_nil _ _ _ _⟩, Below.tr (Below.al _ _) (Below.al _ _)⟩
  · obtain ⟨q, hq⟩ : ∃ q, m = q + 16 := ⟨m - 16, by omega⟩
    subst hq
    have hsq : s.length - 16 = q := by have := L2.out; omega
    obtain ⟨C, hC⟩ : ∃ C, C = s.take q := ⟨_, rfl⟩
    obtain ⟨S, hS⟩ : ∃ S, S = s.drop q := ⟨_, rfl⟩
    obtain ⟨T, hT⟩ : ∃ T, T = aeadTag ky nc head C := ⟨_, rfl⟩
    have ho : Hid (openL ky nc head s = if S = T then some (streamL ky nc C) else none) := by
      show _ = _
      unfold openL; rw [if_neg (by have := L2.out; omega), hsq, ← hC, ← hS, ← hT]
    have HT := Lib.hid hT
    have HTl : Hid (T.length = 16) := by rw [hT]; exact aeadTag_len _ _ _ _
    have HSl : Hid (S.length = 16) := by rw [hS]; show _ = _; rw [List.length_drop]; have := L2.out; omega
    have HCl : Hid (C.length = q) := by rw [hC]; show _ = _; rw [List.length_take]; have := L2.out; omega
    obtain ⟨ad, rfl⟩ : ∃ ad, B = some ad := by
      cases B with
      | some ad => exact ⟨ad, rfl⟩
      | none => have := (h2.zero rfl).1; omega
    have hcapN := h2.cap
    have Sc : Hid (Sl w G (some ad) q d C) := by rw [hC]; exact Sl.take_ (l' := s.drop q) (by rw [List.take_append_drop]; exact h2) (by rw [List.length_take]; have := L2.out; omega)
    have Ss : Hid (Sl w G (some (ad.add q)) 16 (d - q) S) := by
      have h := h2.drop_ (m := q) (A' := some (ad.add q)) (by omega) (.inr rfl)
      rw [show q + 16 - q = 16 by omega] at h; rw [hS]; exact h
    have hcapI : (q : Int) < d := by omega
    have hqd : q ≤ d := by omega
    have hqI : ((q + 16 : Nat) : Int) - 16 = (q : Int) := by omega
    have hqI2 : ((q : Int) + 16) - 16 = (q : Int) := by omega
    have hqI3 : (q : Int) ≤ (q : Int) + 16 := by omega
    have hq0 : (0 : Int) ≤ (q : Int) := by omega
    clear hk hn h1 h2 hF hG hC hS hT hsq H2
    obtain ⟨iT, hiT, zT, _, _⟩ := info_parts Try.infoTag
    have HiT := Lib.hid hiT; have HzT := Lib.hid zT
    clear hiT zT
    have uK := Lib.hid Try.underlying23
    have uN := Lib.hid Try.underlying25
    have i1 : Hid ((Try.prog.info? 23).map (·.size) = some (bs ky).length) := by rw [bs_length, HK.out]; exact Try.sizeKey
    have i2 : Hid ((Try.prog.info? 25).map (·.size) = some (bs nc).length) := by rw [bs_length, HN.out]; exact Try.sizeN
    have i3 : Hid ((Try.prog.info? 46).map (·.size) = some (bs T).length) := by rw [bs_length, HTl.out]; exact Try.sizeTag
    obtain ⟨w0, hw0⟩ : ∃ w0, w0 = (w.alloc (.cells (bs ky).toArray 23)).alloc (.cells (bs nc).toArray 25) := ⟨_, rfl⟩
    have X0 : Hid (Has w w0 [(w.heap.size + 1, .cells (bs nc).toArray 25 (0, 0)), (w.heap.size, .cells (bs ky).toArray 23 (0, 0))]) := by
      have h1 : Has w (w.alloc (.cells (bs ky).toArray 23)) [(w.heap.size, .cells (bs ky).toArray 23 (0, 0))] := (Has.start (Below.refl _ w)).new (Below.al _ _) (Nat.le_refl _) (heap_alloc_new w _)
      have h2 := heap_alloc_new (w.alloc (.cells (bs ky).toArray 23)) (.cells (bs nc).toArray 25)
      rw [World.size_alloc] at h2
      rw [hw0]
      exact h1.new (Below.al _ _) (by rw [World.size_alloc]; exact Nat.le_refl _) h2
    subst hw0
    go_enter Try.func18, Try.ntmps18
    go_wp2_with fail
    generalize (w.alloc (.cells (bs ky).toArray 23)).alloc (.cells (bs nc).toArray 25) = w0 at X0 ⊢
    have r1 : Hid (w0.rangeAt w.heap.size 0 (bs ky)) := range_block (X0.out.get (by simp) : w0.heap[w.heap.size]? = some (.cells (bs ky).toArray 23 (0, 0)))
    have r2 : Hid (w0.rangeAt (w.heap.size + 1) 0 (bs nc)) := range_block (X0.out.get (by simp) : w0.heap[w.heap.size + 1]? = some (.cells (bs nc).toArray 25 (0, 0)))
    have z1 : Hid (w.heap.size < w0.heap.size ∧ w.heap.size + 1 < w0.heap.size) := ⟨(X0.out.lt (g := w.heap.size) (o := .cells (bs ky).toArray 23 (0, 0)) (by simp)), (X0.out.lt (g := w.heap.size + 1) (o := .cells (bs nc).toArray 25 (0, 0)) (by simp))⟩
    have Hh1 := Lib.hid (H1.out.belF X0.out.bel HF.out)
    have Sc0 := Lib.hid (Sc.out.belF X0.out.bel HG.out)
    go_cut [13] from 13 to 28 (fun s13 wx => ∃ g, s13 = .pointer (some ⟨g, 0, none⟩) ∧ Hid (Below w0.heap.size w0 wx ∧ w0.heap.size ≤ g ∧ wx.heap[g]? = some (.cells (bs T).toArray 46 (0, 0))))
    case first =>
      refine wp_calm ?_
      refine wp_region_os (fun _ w' => Below (w0).drew.heap.size (w0).drew w') [0, 1] (.take 0 (.take 1 (.move 2 (.move 3 (.move 4 (.move 5 (.two 6 [] (.run 7 [0, 1] (.run 8 [] .done)) 7 [0, 1] (.run 6 [] (.run 8 [] .done))))))))) (by kernel_rfl) (by kernel_rfl) (fun _ _ _ _ _ h => nomatch h.1) ?_
      have hS0 : Below (w0).drew.heap.size (w0).drew (w0).drew := Below.refl _ _
      refine os_load_mid 23 (.tmp 6) (w.heap.size) (0) (bs ky) _ hS0 rfl rfl rfl rfl rfl (uK.out) rfl (i1.out) (fun w' h => rangeAt_bel (range_dr (r1.out)) h z1.out.1) ⟨_, rfl, ?_⟩
      refine os_load_mid 25 (.tmp 7) (w.heap.size + 1) (0) (bs nc) _ hS0 rfl rfl rfl rfl rfl (uN.out) rfl (i2.out) (fun w' h => rangeAt_bel (range_dr (r2.out)) h z1.out.2) ⟨_, rfl, ?_⟩
      refine os_move rfl rfl rfl (Nat.le_of_ble_eq_true rfl) ?_
      apply Exists.intro
      refine ⟨fun w' K hK => ?_, ?_⟩
      (focus
        go_simp
        exact hK)
      refine os_move rfl rfl rfl (Nat.le_of_ble_eq_true rfl) ?_
      apply Exists.intro
      refine ⟨fun w' K hK => ?_, ?_⟩
      (focus
        go_simp
        exact hK)
      refine os_move rfl rfl rfl (Nat.le_of_ble_eq_true rfl) ?_
      apply Exists.intro
      refine ⟨fun w' K hK => ?_, ?_⟩
      (focus
        go_simp
        exact hK)
      refine os_move rfl rfl rfl (Nat.le_of_ble_eq_true rfl) ?_
      apply Exists.intro
      refine ⟨fun w' K hK => ?_, ?_⟩
      (focus
        go_simp
        exact hK)
      refine os_two rfl rfl rfl rfl (fun K hK => ?_) (fun K hK => ?_)
      · go_wp2_with fail
        refine (tag_any HK.out HN.out (Hh1.out.belF (Below.undr hS0) (fun k hk => Nat.lt_of_lt_of_le (HF.out k hk) X0.out.bel.size)) (fun k hk => Nat.lt_of_lt_of_le (HF.out k hk) (Nat.le_trans X0.out.bel.size (Below.undr hS0).size)) (Sc0.out.belF (Below.undr hS0) (fun k hk => Nat.lt_of_lt_of_le (HG.out k hk) X0.out.bel.size)) (fun k hk => Nat.lt_of_lt_of_le (HG.out k hk) (Nat.le_trans X0.out.bel.size (Below.undr hS0).size)) hb1 (by omega)).mono ?_
        rintro e wh ⟨rfl, hbh⟩
        rw [← HT.out]
        try replace Hh := Lib.hid (heap_bel Hh.out hbh)
        go_wp2_with fail
        refine ⟨fun _ hk => absurd hk List.not_mem_nil, ?_⟩
        replace hS0 := Below.tr hS0 (hbh)
        refine os_run rfl rfl (fun K hK => ?_)
        refine wp_alloc_abs 46 rfl iT _ HiT.out HzT.out ?_
        intro g wk Hg Hh hb
        have hE : w0.heap.size ≤ g := by
          have e1 := Hg.out.1; have e2 := hS0.size
          have e3 : w0.drew.heap.size = w0.heap.size := rfl
          omega
        clear Hg
        refine hK _ _ ⟨fun _ _ h => Below.tr h (hb), ?_⟩
        clear hK
        replace hS0 := Below.tr hS0 (hb)
        refine os_run rfl rfl (fun K hK => ?_)
        refine wp_store_abs 46 (.tmp 13) (.tmp 28) rfl g 46 _ (bs T).toArray rfl rfl Hh.out (by simpa using i3.out) (by simp [Value.cells, bs_length, HTl.out]) (by simp; exact bs_oneCell _) ?_
        intro w9 Hh9 hg9
        refine hK _ _ ⟨fun _ hk => absurd hk List.not_mem_nil, ?_⟩
        clear hK
        refine os_done ⟨rfl, ?_⟩
        go_wp2_with fail
        go_meet
        exact ⟨g, rfl, Lib.hid ⟨(Below.undr hS0).grown hg9 (Below.undr hS0).size (fun j hj => by injection hj with hj; omega), hE, Hh9.out⟩⟩
      · refine wp_alloc_abs 46 rfl iT _ HiT.out HzT.out ?_
        intro g wk Hg Hh hb
        have hE : w0.heap.size ≤ g := by
          have e1 := Hg.out.1; have e2 := hS0.size
          have e3 : w0.drew.heap.size = w0.heap.size := rfl
          omega
        clear Hg
        refine hK _ _ ⟨fun _ _ h => Below.tr h (hb), ?_⟩
        clear hK
        replace hS0 := Below.tr hS0 (hb)
        refine os_run rfl rfl (fun K hK => ?_)
        go_wp2_with fail
        refine (tag_any HK.out HN.out (Hh1.out.belF (Below.undr hS0) (fun k hk => Nat.lt_of_lt_of_le (HF.out k hk) X0.out.bel.size)) (fun k hk => Nat.lt_of_lt_of_le (HF.out k hk) (Nat.le_trans X0.out.bel.size (Below.undr hS0).size)) (Sc0.out.belF (Below.undr hS0) (fun k hk => Nat.lt_of_lt_of_le (HG.out k hk) X0.out.bel.size)) (fun k hk => Nat.lt_of_lt_of_le (HG.out k hk) (Nat.le_trans X0.out.bel.size (Below.undr hS0).size)) hb1 (by omega)).mono ?_
        rintro e wh ⟨rfl, hbh⟩
        rw [← HT.out]
        try replace Hh := Lib.hid (heap_bel Hh.out hbh)
        go_wp2_with fail
        refine ⟨fun _ hk => absurd hk List.not_mem_nil, ?_⟩
        replace hS0 := Below.tr hS0 (hbh)
        refine os_run rfl rfl (fun K hK => ?_)
        refine wp_store_abs 46 (.tmp 13) (.tmp 28) rfl g 46 _ (bs T).toArray rfl rfl Hh.out (by simpa using i3.out) (by simp [Value.cells, bs_length, HTl.out]) (by simp; exact bs_oneCell _) ?_
        intro w9 Hh9 hg9
        refine hK _ _ ⟨fun _ hk => absurd hk List.not_mem_nil, ?_⟩
        clear hK
        refine os_done ⟨rfl, ?_⟩
        go_wp2_with fail
        go_meet
        exact ⟨g, rfl, Lib.hid ⟨(Below.undr hS0).grown hg9 (Below.undr hS0).size (fun j hj => by injection hj with hj; omega), hE, Hh9.out⟩⟩
    case rest =>
      obtain ⟨g, rfl, hC⟩ := hcut
      have Bc := Lib.hid hC.out.1
      have Xc := Lib.hid (X0.out.bl hC.out.1)
      have Gc : Hid (∀ i (h : i < 16), wc.cell? ⟨g, i, none⟩ = some (.int .u8 ((T[i]'(by rw [HTl.out]; exact h)).toNat : Int))) := by
        intro i h
        have hr := range_block hC.out.2.2 i _ (bs_get T i (by rw [HTl.out]; exact h))
        rw [Nat.zero_add] at hr; exact hr
      have Sx := Lib.hid (Ss.out.belF Xc.out.bel HG.out)
      have Scx := Lib.hid (Sc0.out.belF hC.out.1 (fun k hk => Nat.lt_of_lt_of_le (HG.out k hk) X0.out.bel.size))
      clear hC r1 r2 z1 Hh1 Sc0 X0 Bc Ss
      go_wp2_with fail
      go_loopw [14, 33] (fun v i wr => ∃ k : Nat, k ≤ 16 ∧ i = .int .i64 (k : Nat) ∧ v = .int .u8 ((oddL S T k).toNat : Int) ∧ wc = wr) (fun _ i _ => 16 - (intOf i).toNat)
      case atStart => exact ⟨0, Nat.zero_le _, rfl, rfl, rfl⟩
      case round =>
        obtain ⟨k, hk, rfl, rfl, rfl⟩ := hrel
        by_cases hlt : k < 16
        · have hlI : (k : Int) < 16 := by omega
          have hkI : (0 : Int) ≤ (k : Int) := by omega
          have hct := Gc.out k hlt
          obtain ⟨ad', ha, hcs⟩ := Sx.out.rd.at_ (show k < S.length by rw [HSl.out]; exact hlt)
          injection ha with ha; subst ha
          have hst : Hid (oddL S T (k + 1) = oddL S T k ||| (S[k]'(by rw [HSl.out]; exact hlt) ^^^ T[k]'(by rw [HTl.out]; exact hlt))) := by
            show _ = _
            rw [oddL, getD_eq (by rw [HSl.out]; exact hlt), getD_eq (by rw [HTl.out]; exact hlt)]
          generalize S[k]'(by rw [HSl.out]; exact hlt) = x at hcs hst
          generalize T[k]'(by rw [HTl.out]; exact hlt) = y at hct hst
          have hxy := xor_byte x y
          generalize x ^^^ y = z at hxy hst
          have hoz := or_byte (oddL S T k) z
          rw [← hst.out] at hoz
          go_wp2_with fail
          go_roundw
          case rel => exact ⟨k + 1, by omega, by go_num, by first | rfl | trivial, by first | rfl | trivial⟩
          case measure => simp [intOf]; omega
        · have hk16 : k = 16 := by omega
          subst hk16
          have hod := oddL_eq HSl.out HTl.out
          by_cases hst : S = T
          · have hz : (oddL S T 16).toNat = 0 := by rw [hod.2 hst]; rfl
            rw [hz]
            have Ho : Hid (openL ky nc head s = some (streamL ky nc C)) := by show _ = _; rw [ho.out, if_pos hst]
            have r1 : Hid (wc.rangeAt w.heap.size 0 (bs ky)) := range_block (Xc.out.get (by simp) : wc.heap[w.heap.size]? = some (.cells (bs ky).toArray 23 (0, 0)))
            have r2 : Hid (wc.rangeAt (w.heap.size + 1) 0 (bs nc)) := range_block (Xc.out.get (by simp) : wc.heap[w.heap.size + 1]? = some (.cells (bs nc).toArray 25 (0, 0)))
            have z1 : Hid (w.heap.size < wc.heap.size ∧ w.heap.size + 1 < wc.heap.size) := ⟨(Xc.out.lt (g := w.heap.size) (o := .cells (bs ky).toArray 23 (0, 0)) (by simp)), (Xc.out.lt (g := w.heap.size + 1) (o := .cells (bs nc).toArray 25 (0, 0)) (by simp))⟩
            clear ho hst hod Gc Sx
            go_wp2_with fail
            refine wp_calm ?_
            refine wp_region_os (fun _ w' => Below (wc).drew.heap.size (wc).drew w') [0, 1] (.take 0 (.take 1 (.move 2 (.move 3 (.move 4 (.run 5 [] (.move 6 (.move 7 .done)))))))) (by kernel_rfl) (by kernel_rfl) (fun _ _ _ _ _ h => nomatch h.1) ?_
            have hS0 : Below (wc).drew.heap.size (wc).drew (wc).drew := Below.refl _ _
            refine os_load_mid 23 (.tmp 6) (w.heap.size) (0) (bs ky) _ hS0 rfl rfl rfl rfl rfl (uK.out) rfl (i1.out) (fun w' h => rangeAt_bel (range_dr (r1.out)) h z1.out.1) ⟨_, rfl, ?_⟩
            refine os_load_mid 25 (.tmp 7) (w.heap.size + 1) (0) (bs nc) _ hS0 rfl rfl rfl rfl rfl (uN.out) rfl (i2.out) (fun w' h => rangeAt_bel (range_dr (r2.out)) h z1.out.2) ⟨_, rfl, ?_⟩
            refine os_move rfl rfl rfl (Nat.le_of_ble_eq_true rfl) ?_
            apply Exists.intro
            refine ⟨fun w' K hK => ?_, ?_⟩
            (focus
              go_simp
              exact hK)
            refine os_move rfl rfl rfl (Nat.le_of_ble_eq_true rfl) ?_
            apply Exists.intro
            refine ⟨fun w' K hK => ?_, ?_⟩
            (focus
              go_simp
              exact hK)
            refine os_move rfl rfl rfl (Nat.le_of_ble_eq_true rfl) ?_
            apply Exists.intro
            refine ⟨fun w' K hK => ?_, ?_⟩
            (focus
              go_simp
              exact hK)
            refine os_run rfl rfl (fun K hK => ?_)
            go_wp2_with fail
            refine (Xor_any wc.drew ky nc 1 HK.out HN.out (Scx.out.belF (Below.undr hS0) (fun k hk => Nat.lt_of_lt_of_le (HG.out k hk) Xc.out.bel.size)) (fun k hk => Nat.lt_of_lt_of_le (HG.out k hk) (Nat.le_trans Xc.out.bel.size (Below.undr hS0).size)) (by omega)).mono ?_
            rintro e wx ⟨Ax, cx, rfl, hox, hbx⟩
            go_wp2_with fail
            refine ⟨fun _ hk => absurd hk List.not_mem_nil, ?_⟩
            replace hS0 := Below.tr hS0 (hbx)
            refine os_move rfl rfl rfl (Nat.le_of_ble_eq_true rfl) ?_
            apply Exists.intro
            refine ⟨fun w' K hK => ?_, ?_⟩
            (focus
              go_simp
              exact hK)
            refine os_move rfl rfl rfl (Nat.le_of_ble_eq_true rfl) ?_
            apply Exists.intro
            refine ⟨fun w' K hK => ?_, ?_⟩
            (focus
              go_simp
              exact hK)
            refine os_done ⟨rfl, ?_⟩
            go_wp2_with fail
            go_ret2
            rw [Ho.out]
            exact ⟨⟨Ax, q, cx, rfl, own_mono hox Xc.out.bel.size⟩, Below.tr Xc.out.bel (Below.undr hS0)⟩
          · have hz : ((oddL S T 16).toNat : Int) ≠ 0 := fun e => hst (hod.1 (UInt8.toNat_inj.1 (by rw [show (oddL S T 16).toNat = 0 by omega]; rfl)))
            have Ho : Hid (openL ky nc head s = none) := by show _ = _; rw [ho.out, if_neg hst]
            generalize ((oddL S T 16).toNat : Int) = z at hz
            clear ho hst hod Gc Sx
            go_wp2_with fail
            go_ret2
            rw [Ho.out]
            exact ⟨⟨none, 0, 0, rfl, World.ownsRow_nil _ _ _ _⟩, Xc.out.bel⟩
end Go.Proofs.Ytklclbppdoahjaa
