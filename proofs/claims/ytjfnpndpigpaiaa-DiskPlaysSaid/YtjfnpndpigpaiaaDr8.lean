/- The reference's disk: Crash. -/
import Derived.Test.YtjfnpndpigpaiaaDr7
namespace Go.Proofs.Ytjfnpndpigpaiaa
open Go.RowKit
attribute [local go_sem] yld yldUpon_value

structure RCrashI (w wr : World) (g : Nat) (D : DD) (R : Nat → Prop) (keep : List Int) (k kk : Nat) (pre : List FF) (L : Int) (vs1 : Vs) (R1 : Nat → Prop) : Prop where
  ref : RefAt wr g { D with fs := pre ++ D.fs.drop k } L vs1 R1
  len : pre.length = k
  eq : crashL D.fs keep = pre ++ crashL (D.fs.drop k) (keep.drop kk)
  fr : Fr (fun j => j = g) w wr
  up : ∀ j, R j → R1 j
  foot : ∀ j, R1 j → R j ∨ w.heap.size ≤ j
theorem RCrashI.file {w wr : World} {g : Nat} {D : DD} {R : Nat → Prop} {keep : List Int} {k kk : Nat} {pre : List FF} {L : Int} {vs1 : Vs} {R1 : Nat → Prop} (h : RCrashI w wr g D R keep k kk pre L vs1 R1) (hk : k < D.fs.length) :
    DD.file { D with fs := pre ++ D.fs.drop k } k = D.file k := by
  have hl := h.len
  show (pre ++ D.fs.drop k).getD k FF0 = _
  rw [drop_file hk, List.getD_eq_getElem?_getD, List.getElem?_append_right (by omega), hl, Nat.sub_self]; rfl
theorem RCrashI.skip {w wr : World} {g : Nat} {D : DD} {R : Nat → Prop} {keep : List Int} {k kk : Nat} {pre : List FF} {L : Int} {vs1 : Vs} {R1 : Nat → Prop} (h : RCrashI w wr g D R keep k kk pre L vs1 R1) (hk : k < D.fs.length)
    (hz : (D.file k).d.length = (D.file k).k) : RCrashI w wr g D R keep (k + 1) kk (pre ++ [D.file k]) L vs1 R1 := by
  refine ⟨?_, by simp [h.len], ?_, h.fr, h.up, h.foot⟩
  · rw [List.append_assoc, List.singleton_append, ← drop_file hk]; exact h.ref
  · rw [h.eq, drop_file hk, List.append_assoc, List.singleton_append]
    congr 1
    rw [crashL, if_pos hz]
theorem headD_drop (keep : List Int) (kk : Nat) : (keep.drop kk).headD 0 = keep.getD kk 0 := by
  rw [List.headD_eq_head?_getD, List.head?_drop, List.getD_eq_getElem?_getD]
theorem RCrashI.next {w wr : World} {g : Nat} {D : DD} {R : Nat → Prop} {keep : List Int} {k kk : Nat} {pre : List FF} {L : Int} {vs1 : Vs} {R1 : Nat → Prop} (h : RCrashI w wr g D R keep k kk pre L vs1 R1) (hk : k < D.fs.length) (hk33 : k < 33)
    (hz : (D.file k).d.length ≠ (D.file k).k) {st : Nat} (hst : st = (max 0 (min (keep.getD kk 0) (((D.file k).d.length : Int) - (D.file k).k))).toNat) (hle : (D.file k).k ≤ (D.file k).d.length)
    {a : World} (ha : Below wr.heap.size wr a) {A4 : Option Addr} {n4 c4 : Nat} (hn4 : n4 = (D.file k).k + st) (hs : Sl a (fun j => w.heap.size ≤ j ∧ j < a.heap.size ∧ j ≠ g) A4 n4 c4 ((D.file k).d.take ((D.file k).k + st))) :
    ∃ vs2, RCrashI w (a.setCells g (1 + k * 2) [.slice A4 n4 c4, .slice none 0 0]) g D R keep (k + 1) (kk + 1) (pre ++ [keepF (D.file k) (keep.getD kk 0)]) L vs2 (fun j => R1 j ∨ (w.heap.size ≤ j ∧ j < a.heap.size ∧ j ≠ g)) := by
  have hkf : keepF (D.file k) (keep.getD kk 0) = ⟨(D.file k).d.take ((D.file k).k + st), (D.file k).k + st⟩ := by unfold keepF; rw [← hst]
  have hst2 : (D.file k).k + st ≤ (D.file k).d.length := by omega
  have hl : ((D.file k).d.take ((D.file k).k + st)).length = (D.file k).k + st := by rw [List.length_take]; omega
  have h2 := h.ref.bel ha
  have hs2 := h2.store2 (R' := fun j => R1 j ∨ (w.heap.size ≤ j ∧ j < a.heap.size ∧ j ≠ g)) hk33 (keepF (D.file k) (keep.getD kk 0)) (A1 := A4) (A2 := none) (n1 := n4) (n2 := 0) (c1 := c4) (c2 := 0) (by rw [hkf]; exact hn4) (by rw [hkf]; simp only [hl]; omega)
    (by rw [hkf]; simp only [List.take_take, Nat.min_self]; exact hs.mono (fun j hj => .inr hj)) (by rw [hkf]; simp only; rw [List.drop_of_length_le (by rw [hl]; exact Nat.le_refl _)]; exact Sl.nil_ _ _) (fun j hj => .inl hj) (fun j hj => by
      rcases hj with hj | hj
      · exact h2.rlt j hj
      · exact hj.2)
  refine ⟨(vs1.set (2 * k) (A4, c4)).set (2 * k + 1) (none, 0), ?_, by simp [h.len], ?_, (h.fr.trans (Fr.of_below (M := fun j => j = g) ha) (fun _ _ e => e)).trans hs2.2 (fun _ _ e => e), fun j hj => .inl (h.up j hj), fun j hj => ?_⟩
  · have e : DD.put { D with fs := pre ++ D.fs.drop k } k (keepF (D.file k) (keep.getD kk 0)) = { D with fs := (pre ++ [keepF (D.file k) (keep.getD kk 0)]) ++ D.fs.drop (k + 1) } := by
      unfold DD.put
      congr 1
      rw [drop_file hk]
      have := set_mid pre (D.fs.drop (k + 1)) (D.file k) (keepF (D.file k) (keep.getD kk 0))
      rw [h.len] at this; exact this
    have h3 := hs2.1
    rw [e] at h3
    exact h3
  · rw [h.eq, drop_file hk, List.append_assoc, List.singleton_append]
    congr 1
    rw [crashL, if_neg hz, headD_drop, List.tail_drop]
  · rcases hj with hj | hj
    · exact h.foot j hj
    · exact .inr hj.1
set_option maxRecDepth 100000 in
set_option maxHeartbeats 4000000 in
theorem RCrash_any {w : World} {g : Nat} {D : DD} {R : Nat → Prop} (h : Ref w g D R) (ok : DOK D) {F : Nat → Prop} {A : Option Addr} {n c : Nat} {keep : List Int} (hI : IntSl w F A n c keep) (hF : ∀ k, F k → k < w.heap.size ∧ k ≠ g) (hn : n ≤ 140737488355328) :
    Calls Try.prog 45 #[.pointer (some ⟨g, 0, none⟩), .slice A n c] w fun e w' => e = .returned (.tuple #[]) ∧ Rstep g R w w' (crashD D keep) := by
  have OK := Lib.hid ok; have HF := Lib.hid hF; have HN := Lib.hid hn
  have HI := Lib.hid hI
  have LN := Lib.hid hI.len
  obtain ⟨L0, vs0, h⟩ := h
  have H := Lib.hid h
  have hlen : Hid (D.fs.length = 33) := h.len
  clear h ok hF hn hI
  go_enter Try.func45, Try.ntmps45
  go_wp2_with fail
  go_loopw [4, 5] (fun kv fv wr => ∃ (k kk : Nat) (pre : List FF) (L : Int) (vs1 : Vs) (R1 : Nat → Prop), k ≤ 33 ∧ kk ≤ 33 ∧ kk ≤ k ∧ fv = .int .i64 (k : Nat) ∧ kv = .int .i64 (kk : Nat) ∧ Hid (RCrashI w wr g D R keep k kk pre L vs1 R1)) (fun _ fv _ => 33 - (intOf fv).toNat)
  case atStart => exact ⟨0, 0, [], L0, vs0, R, Nat.zero_le _, Nat.zero_le _, Nat.zero_le _, rfl, rfl, Lib.hid ⟨H.out, rfl, rfl, Fr.refl _ _, fun _ h => h, fun _ h => .inl h⟩⟩
  case round =>
    obtain ⟨k, kk, pre, L, vs1, R1, hk, hkk, hkkk, rfl, rfl, HC⟩ := hrel
    have hk0 : (0 : Int) ≤ (k : Int) := by omega
    by_cases hlt : k < 33
    · have hlI : (k : Int) < 33 := by omega
      have hlI2 : (k : Int) ≤ 32 := by omega
      have hkl : Hid (k < D.fs.length) := by show _ < _; rw [hlen.out]; exact hlt
      have Hk33 := Lib.hid hlt
      have hfk := OK.out.file_k k
      have hVb := OK.out.file_le k
      have hcd := HC.out.ref.cLoose k hlt
      have hcl := HC.out.ref.cLasts k hlt
      have sd := HC.out.ref.slLoose k hlt
      have sl := HC.out.ref.slLasts k hlt
      rw [HC.out.file hkl.out] at hcd hcl sd sl
      obtain ⟨M, hM⟩ : ∃ M, M = (D.file k).d.length - (D.file k).k := ⟨_, rfl⟩
      obtain ⟨Kq, hK⟩ : ∃ Kq, Kq = (D.file k).k := ⟨_, rfl⟩
      rw [← hM] at hcd sd
      rw [← hK] at hcl sl sd
      have hMV : Hid ((D.file k).d.length = Kq + M) := Lib.hid (by omega)
      have hMb : M ≤ 262144 := by omega
      have hKb : Kq ≤ 262144 := by omega
      have HK := Lib.hid hK
      generalize vA vs1 (2 * k + 1) = A2 at hcd sd
      generalize vC vs1 (2 * k + 1) = c2 at hcd sd
      generalize vA vs1 (2 * k) = A1 at hcl sl
      generalize vC vs1 (2 * k) = c1 at hcl sl
      have lg := HC.out.ref.gt
      have RL : Hid (∀ k, R1 k → k < wr.heap.size) := Lib.hid (fun k hk => (HC.out.ref.rlt k hk).1)
      have SD := Lib.hid sd; have SL := Lib.hid sl
      have hMc : M ≤ c2 := sd.cap
      clear hM hK hfk hVb sd sl
      by_cases hz : M = 0
      · subst hz
        go_wp2_with fail
        go_roundw
        case rel => exact ⟨k + 1, kk, _, L, vs1, R1, by omega, hkk, by omega, by go_num, rfl, Lib.hid (HC.out.skip hkl.out (by rw [hMV.out, ← HK.out]; omega))⟩
        case measure => simp [intOf]; omega
      · have hne : ((M : Int) == 0) = false := by simp; omega
        have hMI : (0 : Int) < (M : Int) := by omega
        obtain ⟨ad, rfl⟩ : ∃ ad, A2 = some ad := by
          cases A2 with
          | some ad => exact ⟨ad, rfl⟩
          | none => have := (SD.out.zero rfl).1; omega
        have hkk0 : (0 : Int) ≤ (kk : Int) := by omega
        obtain ⟨st, hst⟩ : ∃ st : Nat, st = (max 0 (min (keep.getD kk 0) (M : Int))).toNat := ⟨_, rfl⟩
        have hstM : st ≤ M := by omega
        have hstc : st ≤ c2 := by omega
        have HSt : Hid (st = (max 0 (min (keep.getD kk 0) (((D.file k).d.length : Int) - (D.file k).k))).toNat) := by
          show _ = _
          rw [hMV.out, ← HK.out, show (((Kq + M : Nat) : Int) - (Kq : Int)) = (M : Int) by omega]; exact hst
        have hsum : Hid (Kq + st ≤ 140737488355328) := Lib.hid (by omega)
        have SSt : Hid (Sl wr R1 (some ad) st c2 (((D.file k).d.drop Kq).take st)) := Sl.take_ (l' := ((D.file k).d.drop Kq).drop st) (by rw [List.take_append_drop]; exact SD.out) (by rw [List.length_take, List.length_drop, hMV.out]; omega)
        have hjoin : Hid ((D.file k).d.take Kq ++ ((D.file k).d.drop Kq).take st = (D.file k).d.take (Kq + st)) := by show _ = _; rw [List.take_add]
        have fin : Hid (∀ (a : World) (A4 : Option Addr) (c4 : Nat), Below wr.heap.size wr a → a.ownsRow wr.heap.size 5 1 (.slice A4 (Kq + st) c4) (Kq + st) (bs ((D.file k).d.take (Kq + st))) →
            ∃ vs2, RCrashI w (a.setCells g (1 + k * 2) [.slice A4 (Kq + st) c4, .slice none 0 0]) g D R keep (k + 1) (kk + 1) (pre ++ [keepF (D.file k) (keep.getD kk 0)]) L vs2 (fun j => R1 j ∨ (w.heap.size ≤ j ∧ j < a.heap.size ∧ j ≠ g))) := Lib.hid (fun a A4 c4 hb ho => by
          refine HC.out.next hkl.out Hk33.out (by rw [hMV.out, ← HK.out]; omega) HSt.out (by rw [hMV.out, ← HK.out]; omega) hb (by rw [← HK.out]) ?_
          rw [← HK.out]
          exact (Sl.of_own ho).mono (fun j hj => ⟨Nat.le_trans HC.out.fr.size hj.1, hj.2.1, by have := hj.1; omega⟩))
        by_cases hkn : kk < n
        · have hknI : (kk : Int) < (n : Int) := by omega
          obtain ⟨adK, rfl, hFK, hcK⟩ := HI.out.at_ kk (by rw [LN.out]; exact hkn)
          obtain ⟨z, hzz⟩ : ∃ z, z = keep[kk]'(by rw [LN.out]; exact hkn) := ⟨_, rfl⟩
          rw [← hzz] at hcK
          have hcK' := cell_fr hcK HC.out.fr (by rw [addr_add_block]; exact (HF.out _ hFK).2)
          have hgd : keep.getD kk 0 = z := by rw [List.getD_eq_getElem?_getD, List.getElem?_eq_getElem (by rw [LN.out]; exact hkn), hzz]; rfl
          have hcut : cutI z 0 (M : Int) = (st : Int) := by unfold cutI; rw [hst, hgd]; omega
          have HCU := Lib.hid hcut
          clear hgd hcut hst hzz hcK
          go_wp2_with fail
          refine (KCut_any wr z 0 M).mono ?_
          rintro e w' ⟨rfl, rfl⟩
          rw [HCU.out]
          clear hcK'
          go_wp2_with fail
          refine wp_calm ?_
          refine wp_region_os (fun _ w' => Below (wr).drew.heap.size (wr).drew w') [8] (.move 0 (.move 1 (.move 2 (.move 3 (.move 4 (.move 5 (.move 6 (.move 7 (.take 8 (.move 10 (.move 11 (.move 12 (.move 15 (.move 16 (.run 9 [] (.run 13 [8] (.move 14 (.move 17 (.run 18 [] .done))))))))))))))))))) (by kernel_rfl) (by kernel_rfl) (fun _ _ _ _ _ h => nomatch h.1) ?_
          have hS0 : Below (wr).drew.heap.size (wr).drew (wr).drew := Below.refl _ _
          refine os_move rfl rfl rfl (Nat.le_of_ble_eq_true rfl) ?_
          apply Exists.intro
          refine ⟨fun w' K hK => ?_, ?_⟩
          (focus
            go_simp
            exact hK)
          refine os_move rfl rfl rfl (Nat.le_of_ble_eq_true rfl) ?_
          apply Exists.intro
          refine ⟨fun w' K hK => ?_, ?_⟩
          (focus
            go_simp
            exact hK)
          refine os_move rfl rfl rfl (Nat.le_of_ble_eq_true rfl) ?_
          apply Exists.intro
          refine ⟨fun w' K hK => ?_, ?_⟩
          (focus
            go_simp
            exact hK)
          refine os_move rfl rfl rfl (Nat.le_of_ble_eq_true rfl) ?_
          apply Exists.intro
          refine ⟨fun w' K hK => ?_, ?_⟩
          (focus
            go_simp
            exact hK)
          refine os_move rfl rfl rfl (Nat.le_of_ble_eq_true rfl) ?_
          apply Exists.intro
          refine ⟨fun w' K hK => ?_, ?_⟩
          (focus
            go_simp
            exact hK)
          refine os_move rfl rfl rfl (Nat.le_of_ble_eq_true rfl) ?_
          apply Exists.intro
          refine ⟨fun w' K hK => ?_, ?_⟩
          (focus
            go_simp
            exact hK)
          refine os_move rfl rfl rfl (Nat.le_of_ble_eq_true rfl) ?_
          apply Exists.intro
          refine ⟨fun w' K hK => ?_, ?_⟩
          (focus
            go_simp
            exact hK)
          refine os_move rfl rfl rfl (Nat.le_of_ble_eq_true rfl) ?_
          apply Exists.intro
          refine ⟨fun w' K hK => ?_, ?_⟩
          (focus
            go_simp
            exact hK)
          refine os_yld hS0 rfl rfl rfl (Nat.le_of_ble_eq_true rfl) ?_
          apply Exists.intro
          refine ⟨fun w' hS' K hK => ?_, ?_⟩
          (focus
            obtain ⟨hcc, hff⟩ := bcellB (Below.undr hS')
            clear hS'
            go_simp
            exact hK)
          refine os_move rfl rfl rfl (Nat.le_of_ble_eq_true rfl) ?_
          apply Exists.intro
          refine ⟨fun w' K hK => ?_, ?_⟩
          (focus
            go_simp
            exact hK)
          refine os_move rfl rfl rfl (Nat.le_of_ble_eq_true rfl) ?_
          apply Exists.intro
          refine ⟨fun w' K hK => ?_, ?_⟩
          (focus
            go_simp
            exact hK)
          refine os_move rfl rfl rfl (Nat.le_of_ble_eq_true rfl) ?_
          apply Exists.intro
          refine ⟨fun w' K hK => ?_, ?_⟩
          (focus
            go_simp
            exact hK)
          refine os_move rfl rfl rfl (Nat.le_of_ble_eq_true rfl) ?_
          apply Exists.intro
          refine ⟨fun w' K hK => ?_, ?_⟩
          (focus
            go_simp
            exact hK)
          refine os_move rfl rfl rfl (Nat.le_of_ble_eq_true rfl) ?_
          apply Exists.intro
          refine ⟨fun w' K hK => ?_, ?_⟩
          (focus
            go_simp
            exact hK)
          refine os_run rfl rfl (fun K hK => ?_)
          go_wp2_with fail
          refine (CopyBytes_sl (SL.out.belF (Below.undr hS0) RL.out) (fun k hk => Nat.lt_of_lt_of_le (RL.out k hk) (Below.undr hS0).size) (by omega)).mono ?_
          rintro e w3 ⟨A3, k3, rfl, ho, hb⟩
          have O3 := Lib.hid ho
          have SB3 := Lib.hid (SSt.out.belF (Below.tr (Below.undr hS0) hb) RL.out)
          clear ho
          go_wp2_with fail
          refine ⟨fun _ hk => absurd hk List.not_mem_nil, ?_⟩
          replace hS0 := Below.tr hS0 (hb)
          refine os_run rfl rfl (fun K hK => ?_)
          refine wp_append_bytes (.tmp 44) (.tmp 47) rfl wr.heap.size A3 Kq k3 _ rfl O3.out (some ad) st c2 _ rfl SB3.out.len SB3.out.rd hsum.out hS0.size ?_
          intro A4 k4 w4 ho4 hg4 _
          rw [hjoin.out] at ho4
          have O4 := Lib.hid ho4
          have B4 : Hid (Below wr.heap.size wr w4) := Below.undr (hS0.grown hg4 hS0.size (fun j hj => (O3.out.lt j hj).1))
          have TH : Hid (w4.there g (1 + k * 2) 2) := (HC.out.ref.bel B4.out).there Hk33.out
          clear ho4
          refine hK _ _ ⟨fun _ _ _ => hS0.grown hg4 hS0.size (fun j hj => (O3.out.lt j hj).1), ?_⟩
          clear hK
          replace hS0 := hS0.grown hg4 hS0.size (fun j hj => (O3.out.lt j hj).1)
          refine os_move rfl rfl rfl (Nat.le_of_ble_eq_true rfl) ?_
          apply Exists.intro
          refine ⟨fun w' K hK => ?_, ?_⟩
          (focus
            go_simp
            exact hK)
          refine os_move rfl rfl rfl (Nat.le_of_ble_eq_true rfl) ?_
          apply Exists.intro
          refine ⟨fun w' K hK => ?_, ?_⟩
          (focus
            go_simp
            exact hK)
          refine os_run rfl rfl (fun K hK => ?_)
          refine wp_store_mid 71 (.tmp 52) (.tmp 49) rfl g (1 + k * 2) #[.slice A4 (Kq + st) k4, .slice none 0 0] rfl rfl TH.out (by kernel_rfl) (by kernel_rfl) ?_
          refine hK _ _ ⟨fun _ hk => absurd hk List.not_mem_nil, ?_⟩
          clear hK
          refine os_done ⟨rfl, ?_⟩
          obtain ⟨vs2, hc2⟩ := fin.out w4 A4 k4 B4.out O4.out
          have HC2 := Lib.hid hc2
          clear hc2 hS0 TH O3 SB3 hg4
          go_wp2_with fail
          go_roundw
          case rel => exact ⟨k + 1, kk + 1, _, L, vs2, _, by omega, by omega, by omega, by go_num, by go_num, HC2⟩
          case measure => simp [intOf]; omega
        · have hknI : ¬ (kk : Int) < (n : Int) := by omega
          have hgd : keep.getD kk 0 = 0 := by rw [List.getD_eq_getElem?_getD, List.getElem?_eq_none (by rw [LN.out]; omega)]; rfl
          have hst0 : st = 0 := by rw [hst, hgd]; omega
          subst hst0
          clear hgd hst
          have hM0 : ¬ (M : Int) < 0 := by omega
          go_wp2_with fail
          refine wp_calm ?_
          refine wp_region_os (fun _ w' => Below (wr).drew.heap.size (wr).drew w') [8] (.move 0 (.move 1 (.move 2 (.move 3 (.move 4 (.move 5 (.move 6 (.move 7 (.take 8 (.move 10 (.move 11 (.move 12 (.move 15 (.move 16 (.run 9 [] (.run 13 [8] (.move 14 (.move 17 (.run 18 [] .done))))))))))))))))))) (by kernel_rfl) (by kernel_rfl) (fun _ _ _ _ _ h => nomatch h.1) ?_
          have hS0 : Below (wr).drew.heap.size (wr).drew (wr).drew := Below.refl _ _
          refine os_move rfl rfl rfl (Nat.le_of_ble_eq_true rfl) ?_
          apply Exists.intro
          refine ⟨fun w' K hK => ?_, ?_⟩
          (focus
            go_simp
            exact hK)
          refine os_move rfl rfl rfl (Nat.le_of_ble_eq_true rfl) ?_
          apply Exists.intro
          refine ⟨fun w' K hK => ?_, ?_⟩
          (focus
            go_simp
            exact hK)
          refine os_move rfl rfl rfl (Nat.le_of_ble_eq_true rfl) ?_
          apply Exists.intro
          refine ⟨fun w' K hK => ?_, ?_⟩
          (focus
            go_simp
            exact hK)
          refine os_move rfl rfl rfl (Nat.le_of_ble_eq_true rfl) ?_
          apply Exists.intro
          refine ⟨fun w' K hK => ?_, ?_⟩
          (focus
            go_simp
            exact hK)
          refine os_move rfl rfl rfl (Nat.le_of_ble_eq_true rfl) ?_
          apply Exists.intro
          refine ⟨fun w' K hK => ?_, ?_⟩
          (focus
            go_simp
            exact hK)
          refine os_move rfl rfl rfl (Nat.le_of_ble_eq_true rfl) ?_
          apply Exists.intro
          refine ⟨fun w' K hK => ?_, ?_⟩
          (focus
            go_simp
            exact hK)
          refine os_move rfl rfl rfl (Nat.le_of_ble_eq_true rfl) ?_
          apply Exists.intro
          refine ⟨fun w' K hK => ?_, ?_⟩
          (focus
            go_simp
            exact hK)
          refine os_move rfl rfl rfl (Nat.le_of_ble_eq_true rfl) ?_
          apply Exists.intro
          refine ⟨fun w' K hK => ?_, ?_⟩
          (focus
            go_simp
            exact hK)
          refine os_yld hS0 rfl rfl rfl (Nat.le_of_ble_eq_true rfl) ?_
          apply Exists.intro
          refine ⟨fun w' hS' K hK => ?_, ?_⟩
          (focus
            obtain ⟨hcc, hff⟩ := bcellB (Below.undr hS')
            clear hS'
            go_simp
            exact hK)
          refine os_move rfl rfl rfl (Nat.le_of_ble_eq_true rfl) ?_
          apply Exists.intro
          refine ⟨fun w' K hK => ?_, ?_⟩
          (focus
            go_simp
            exact hK)
          refine os_move rfl rfl rfl (Nat.le_of_ble_eq_true rfl) ?_
          apply Exists.intro
          refine ⟨fun w' K hK => ?_, ?_⟩
          (focus
            go_simp
            exact hK)
          refine os_move rfl rfl rfl (Nat.le_of_ble_eq_true rfl) ?_
          apply Exists.intro
          refine ⟨fun w' K hK => ?_, ?_⟩
          (focus
            go_simp
            exact hK)
          refine os_move rfl rfl rfl (Nat.le_of_ble_eq_true rfl) ?_
          apply Exists.intro
          refine ⟨fun w' K hK => ?_, ?_⟩
          (focus
            go_simp
            exact hK)
          refine os_move rfl rfl rfl (Nat.le_of_ble_eq_true rfl) ?_
          apply Exists.intro
          refine ⟨fun w' K hK => ?_, ?_⟩
          (focus
            go_simp
            exact hK)
          refine os_run rfl rfl (fun K hK => ?_)
          go_wp2_with fail
          refine (CopyBytes_sl (SL.out.belF (Below.undr hS0) RL.out) (fun k hk => Nat.lt_of_lt_of_le (RL.out k hk) (Below.undr hS0).size) (by omega)).mono ?_
          rintro e w3 ⟨A3, k3, rfl, ho, hb⟩
          have O3 := Lib.hid ho
          have SB3 := Lib.hid (SSt.out.belF (Below.tr (Below.undr hS0) hb) RL.out)
          clear ho
          go_wp2_with fail
          refine ⟨fun _ hk => absurd hk List.not_mem_nil, ?_⟩
          replace hS0 := Below.tr hS0 (hb)
          refine os_run rfl rfl (fun K hK => ?_)
          refine wp_append_bytes (.tmp 44) (.tmp 47) rfl wr.heap.size A3 Kq k3 _ rfl O3.out (some ad) 0 c2 _ rfl SB3.out.len SB3.out.rd hsum.out hS0.size ?_
          intro A4 k4 w4 ho4 hg4 _
          rw [hjoin.out] at ho4
          have O4 := Lib.hid ho4
          have B4 : Hid (Below wr.heap.size wr w4) := Below.undr (hS0.grown hg4 hS0.size (fun j hj => (O3.out.lt j hj).1))
          have TH : Hid (w4.there g (1 + k * 2) 2) := (HC.out.ref.bel B4.out).there Hk33.out
          clear ho4
          refine hK _ _ ⟨fun _ _ _ => hS0.grown hg4 hS0.size (fun j hj => (O3.out.lt j hj).1), ?_⟩
          clear hK
          replace hS0 := hS0.grown hg4 hS0.size (fun j hj => (O3.out.lt j hj).1)
          refine os_move rfl rfl rfl (Nat.le_of_ble_eq_true rfl) ?_
          apply Exists.intro
          refine ⟨fun w' K hK => ?_, ?_⟩
          (focus
            go_simp
            exact hK)
          refine os_move rfl rfl rfl (Nat.le_of_ble_eq_true rfl) ?_
          apply Exists.intro
          refine ⟨fun w' K hK => ?_, ?_⟩
          (focus
            go_simp
            exact hK)
          refine os_run rfl rfl (fun K hK => ?_)
          refine wp_store_mid 71 (.tmp 52) (.tmp 49) rfl g (1 + k * 2) #[.slice A4 (Kq + 0) k4, .slice none 0 0] rfl rfl TH.out (by kernel_rfl) (by kernel_rfl) ?_
          refine hK _ _ ⟨fun _ hk => absurd hk List.not_mem_nil, ?_⟩
          clear hK
          refine os_done ⟨rfl, ?_⟩
          obtain ⟨vs2, hc2⟩ := fin.out w4 A4 k4 B4.out O4.out
          have HC2 := Lib.hid hc2
          clear hc2 hS0 TH O3 SB3 hg4
          go_wp2_with fail
          go_roundw
          case rel => exact ⟨k + 1, kk + 1, _, L, vs2, _, by omega, by omega, by omega, by go_num, by go_num, HC2⟩
          case measure => simp [intOf]; omega
    · have hkl : k = 33 := by omega
      subst hkl
      have hlI : ¬ ((33 : Nat) : Int) ≤ 32 := by omega
      have e1 : D.fs.drop 33 = [] := List.drop_of_length_le (by rw [hlen.out]; exact Nat.le_refl _)
      have e2 : Hid (pre = crashL D.fs keep) := by show _ = _; rw [HC.out.eq, e1]; simp [crashL]
      have h1 := HC.out.ref
      rw [e1, List.append_nil, e2.out] at h1
      have H1 := Lib.hid h1
      have hc1 := h1.cOff
      have hz1 := h1.frozen 67
      have hc2 := h1.cArmed
      have hz2 := h1.frozen 68
      have F1 := Lib.hid HC.out.fr; have U1 := Lib.hid HC.out.up; have P1 := Lib.hid HC.out.foot
      clear h1 HC e1 hk hlt
      go_wp2_with fail
      go_end0
      refine ⟨rfl, R1, ⟨L, vs1, (H1.out.setOff false).disarm⟩, F1.out.trans ((Fr.of_set (M := fun j => j = g) wr g 67 _ rfl).setCell (p := ⟨g, 68, none⟩) (.inl rfl) _) (fun _ _ e => e), U1.out, P1.out⟩
end Go.Proofs.Ytjfnpndpigpaiaa
