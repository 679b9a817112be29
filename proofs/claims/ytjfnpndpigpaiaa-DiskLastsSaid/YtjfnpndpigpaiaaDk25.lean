/- DiskLasts' walk. -/
import Derived.Test.YtjfnpndpigpaiaaDk24
namespace Go.Proofs.Ytjfnpndpigpaiaa
open Go.RowKit
attribute [local go_sem] yld yldUpon_value

def upTo (k : Nat) (b : Nat → List UInt8) : Nat → Option (List UInt8) := fun i => if i < k then some (b i) else none
theorem upTo_succ {k : Nat} {b : Nat → List UInt8} : ∀ i l', upTo (k + 1) b i = some l' → (i = k ∧ l' = b k) ∨ (i ≠ k ∧ upTo k b i = some l') := fun i l' h => by
  unfold upTo at *
  by_cases e : i = k
  · subst e; rw [if_pos (by omega)] at h; injection h with h; exact .inl ⟨rfl, h.symm⟩
  · refine .inr ⟨e, ?_⟩
    by_cases h2 : i < k
    · rw [if_pos h2]; rw [if_pos (by omega)] at h; exact h
    · rw [if_neg (by omega)] at h; cases h
theorem upTo_zero {b : Nat → List UInt8} {i : Nat} {l : List UInt8} : upTo 0 b i ≠ some l := by unfold upTo; rw [if_neg (by omega)]; exact fun h => by cases h
def tr0 : List Tr := List.replicate 5 (none, 0, 0)
theorem read_nat (D : DD) {k : Nat} (hk : k < 33) : readD D (k : Nat) = (D.file k).d := by
  unfold readD
  rw [if_pos (by rw [okF_iff]; omega), Int.toNat_natCast]
/-- new bytes may lie beside -/
theorem new_side {w0 w w' : World} {g : Nat} {D : DD} {vs : Vs} {T g4 g5 : Nat} {L4 L5 : List Tr} {b4 b5 : Nat → Option (List UInt8)} (h : Side w0 w g vs T g4 g5 L4 L5 b4 b5) (hd : DS w0 w g D vs) {A : Option Addr} {n c : Nat} {l : List UInt8} (hown : w'.ownsRow w.heap.size 5 1 (.slice A n c) n (bs l)) :
    Sl w' (fun j => j < w'.heap.size ∧ ¬ dfoot g vs j ∧ j ≠ g4 ∧ j ≠ g5) A n c l := by
  have h4 := (Array.getElem?_eq_some_iff.1 h.a4).1
  have h5 := (Array.getElem?_eq_some_iff.1 h.a5).1
  exact (Sl.of_own hown).mono (fun j hj => ⟨hj.2.1, fun e => by have := hd.disk.foot_lt e; omega, by omega, by omega⟩)
set_option maxRecDepth 100000 in
set_option maxHeartbeats 16000000 in
theorem DiskLasts_any (w : World) (r : Int) (A1 : Option Addr) (n1 c1 : Nat) (p1 : List PutR) (A2 : Option Addr) (n2 c2 : Nat) (p2 : List PutR) (A3 : Option Addr) (n3 c3 : Nat) (keep : List Int)
    (s1 : PsSl w (Old w) A1 n1 c1 p1) (s2 : PsSl w (Old w) A2 n2 c2 p2) (s3 : IntSl w (Old w) A3 n3 c3 keep) :
    Calls Try.prog 3 #[.agg #[.int .i64 r, .slice A1 n1 c1, .slice A2 n2 c2, .slice A3 n3 c3]] w fun e w' => e = .returned (.bool true) ∧ Below w.heap.size w w' := by
  obtain ⟨wa, hwa⟩ : ∃ wa, wa = w.alloc (.cells #[.int .i64 r, .slice A1 n1 c1, .slice A2 n2 c2, .slice A3 n3 c3] 25) := ⟨_, rfl⟩
  have Ba : Hid (Below w.heap.size w wa) := by rw [hwa]; exact Below.al _ _
  have hbk : ∀ k, Old w k → wa.heap[k]? = w.heap[k]? := fun k hk => Ba.out.block k hk
  have P1 : Hid (PsSl wa (Old wa) A1 n1 c1 p1) := (s1.bel hbk).mono (fun k hk => Nat.lt_of_lt_of_le hk Ba.out.size)
  have P2 : Hid (PsSl wa (Old wa) A2 n2 c2 p2) := (s2.bel hbk).mono (fun k hk => Nat.lt_of_lt_of_le hk Ba.out.size)
  have P3 : Hid (IntSl wa (Old wa) A3 n3 c3 keep) := (s3.fr (Fr.of_below (M := NoB) Ba.out) (fun k hk => ⟨hk, id⟩)).mono (fun k hk => Nat.lt_of_lt_of_le hk Ba.out.size)
  have hk : wa.heap[w.heap.size]? = some (.cells #[.int .i64 r, .slice A1 n1 c1, .slice A2 n2 c2, .slice A3 n3 c3] 25 (0, 0)) := by rw [hwa]; exact heap_alloc_new w _
  have k0 := cell_of_row _ w.heap.size 0 _ _ _ hk
  have k1 := cell_of_row _ w.heap.size 1 _ _ _ hk
  have k2 := cell_of_row _ w.heap.size 2 _ _ _ hk
  have k3 := cell_of_row _ w.heap.size 3 _ _ _ hk
  have HWA := Lib.hid hwa
  clear hwa hk hbk s1 s2 s3
  simp at k0 k1 k2 k3
  have K1 := Lib.hid k1; have K2 := Lib.hid k2; have K3 := Lib.hid k3
  by_cases hkeep : (n3 : Int) ≤ 100
  · have hn3 : Hid (n3 ≤ 100) := by show _ ≤ _; omega
    go_enter Try.func3, Try.ntmps3
    go_wp2_with fail
    rw [← HWA.out]
    go_wp2_with fail
    refine (Pick_any r 6000 wa (by decide)).mono ?_
    rintro e w' ⟨rfl, rfl⟩
    obtain ⟨r6, hr6⟩ : ∃ r6, r6 = (if (6000 : Int) < 1 then 0 else r % 6000) := ⟨_, rfl⟩
    rw [← hr6]
    clear hr6
    go_wp2_with fail
    refine (New_any wa r6).mono ?_
    rintro e w1 ⟨g, vs0, rfl, d1, d2, d3, d4⟩
    have S0 : Hid (DS wa w1 g (newD r6) vs0) := ⟨d1, DOK.new _, d4, d2⟩
    have k1b := cell_bel K1.out d2
    clear d1 d2 d3 d4 k0 k1 k2 k3
    go_wp2_with fail
    refine (writes_any S0.out (calm_new _) (Nat.zero_le _) P1.out).mono ?_
    rintro e w2 ⟨D1, vs1, rfl, W1⟩
    have S1 := Lib.hid W1.ds
    have E1 := Lib.hid W1.ext
    have N1 : Hid (D1.done ≤ 40) := by have h := W1.done; show _ ≤ _; have e0 : (newD r6).done = 0 := rfl; omega
    clear W1 k1b S0
    go_wp2_with fail
    obtain ⟨w3, hw3⟩ : ∃ w3, w3 = (w2.alloc (.cells #[.slice none 0 0, .slice none 0 0, .slice none 0 0, .slice none 0 0, .slice none 0 0] 32)).alloc (.cells #[.slice none 0 0, .slice none 0 0, .slice none 0 0, .slice none 0 0, .slice none 0 0] 32) := ⟨_, rfl⟩
    have hz3 : (w2.alloc (.cells #[.slice none 0 0, .slice none 0 0, .slice none 0 0, .slice none 0 0, .slice none 0 0] 32)).heap.size = w2.heap.size + 1 := by simp
    have B3 : Below w2.heap.size w2 w3 := by rw [hw3]; exact Below.tr (Below.al _ _) (Below.al _ _)
    have ha4 : w3.heap[w2.heap.size]? = some (.cells (tr0.map slV).toArray 32 (0, 0)) := by rw [hw3]; exact heap_bel (heap_alloc_new w2 _) (Below.al _ _)
    have ha5 : w3.heap[w2.heap.size + 1]? = some (.cells (tr0.map slV).toArray 32 (0, 0)) := by
      rw [hw3, ← hz3]; exact heap_alloc_new _ _
    have Sd0 : Hid (Side wa w3 g vs1 32 w2.heap.size (w2.heap.size + 1) tr0 tr0 (upTo 0 (fun f => (D1.file f).d)) (upTo 0 (fun f => (D1.file f).d))) :=
      ⟨ha4, ha5, rfl, rfl, ⟨S1.out.bel.size, not_foot S1.out.disk (Nat.le_refl _)⟩, ⟨Nat.le_trans S1.out.bel.size (Nat.le_succ _), not_foot S1.out.disk (Nat.le_succ _)⟩, by omega, (fun _ _ _ h => absurd h upTo_zero), (fun _ _ _ h => absurd h upTo_zero)⟩
    have S3 := Lib.hid (S1.out.old B3)
    rw [← hw3]
    clear hw3 hz3 B3 ha4 ha5 S1
    generalize hg5 : w2.heap.size + 1 = g5 at Sd0 ⊢
    clear hg5
    generalize w2.heap.size = g4 at Sd0 ⊢
    have HC1 : Hid (∀ k, k ≤ 33 → Syn D1 (synced D1 k) k ∧ (synced D1 k).done = D1.done + k) := synced_ok E1.out.calm S3.out.ok.len
    have OK1 : Hid (DOK D1) := S3.out.ok
    go_loopw [6] (fun i wr => ∃ (k : Nat) (vs : Vs) (L4 : List Tr), k ≤ 5 ∧ i = .int .i64 (k : Nat) ∧ Hid (DS wa wr g (synced D1 k) vs ∧ Side wa wr g vs 32 g4 g5 L4 tr0 (upTo k (fun f => (D1.file f).d)) (upTo 0 (fun f => (D1.file f).d)))) (fun i _ => 5 - (intOf i).toNat)
    case atStart => exact ⟨0, vs1, tr0, Nat.zero_le _, rfl, S3.out, Sd0.out⟩
    case round =>
      clear S3 Sd0
      obtain ⟨k, vs2, L4, hk, rfl, HI⟩ := hrel
      by_cases hlt : k < 5
      · have hlI : (k : Int) < 5 := by omega
        have hk0 : (0 : Int) ≤ (k : Int) := by omega
        have hk5 : Hid (k < 5) := hlt
        have Sx := Lib.hid HI.out.1; have Sy := Lib.hid HI.out.2
        have hcalm := Lib.hid (HC1.out k (by omega)).1.calm
        have hdn := Lib.hid (HC1.out k (by omega)).2
        have hdat := Lib.hid ((HC1.out (k + 1) (by omega)).1.data k)
        clear HI hlt
        go_wp2_with fail
        refine (Sync_any Sx.out.disk Sx.out.ok (by rw [hdn.out]; have := N1.out; have := hk5.out; omega) (k : Nat)).mono ?_
        rintro e wb ⟨rfl, hst⟩
        rw [show (syncD (synced D1 k) (k : Nat)).1 = 0 by rw [sync_calm hcalm.out (by have := hk5.out; omega)]]
        obtain ⟨vs3, sx, fx, kx⟩ := Sx.out.step hst (Sx.out.ok.sync _)
        have Sz : Hid (DS wa wb g (synced D1 (k + 1)) vs3) := sx
        have Sw := Lib.hid (Sy.out.step fx kx)
        clear hst sx fx kx Sx Sy
        go_wp2_with fail
        refine (Read_any Sz.out.disk Sz.out.ok (k : Nat)).mono ?_
        rintro e wc ⟨A', n', c', rfl, hown, hb⟩
        rw [read_nat _ (by have := hk5.out; omega), hdat.out] at hown
        have hn := Lib.hid (new_side Sw.out Sz.out hown)
        have Sq := Lib.hid (Sz.out.old hb); have Sr := Lib.hid (Sw.out.old hb)
        clear hown hb Sz Sw
        obtain ⟨Ao, no, co, hco, hzo, _⟩ := Sr.out.cell4 hk5.out
        have Ss := Lib.hid (Sr.out.put4 hk5.out hn.out (upTo_succ (b := fun f => (D1.file f).d)))
        have St := Lib.hid (Sq.out.setSide (i := k) Sr.out.n4.2 Sr.out.n4.1 (.slice A' n' c'))
        clear Sq Sr hn
        go_wp2_with fail
        go_roundw
        case rel => exact ⟨k + 1, vs3, _, by have := hk5.out; omega, by go_num, St.out, Ss.out⟩
        case measure => simp [intOf]; have := hk5.out; omega
      · have hk5 : k = 5 := by omega
        subst hk5
        have Sx := Lib.hid HI.out.1; have Sy := Lib.hid HI.out.2
        have k2b := cell_bel K2.out Sx.out.bel
        have hcalm := Lib.hid (HC1.out 5 (by decide)).1.calm
        have hdn := Lib.hid (HC1.out 5 (by decide)).2
        clear HI hlt hk
        go_wp2_with fail
        refine (writes_any Sx.out hcalm.out (by rw [hdn.out]; have := N1.out; omega) P2.out).mono ?_
        rintro e w4 ⟨D3, vs3, rfl, W3⟩
        have S3 := Lib.hid W3.ds
        have Sd3 := Lib.hid (Sy.out.step W3.fr W3.foot)
        have LP := Lib.hid (lasts_plain E1.out OK1.out W3.ext W3.ds.ok keep)
        have U3 : Hid (usedL D3.fs ≤ 262144) := Nat.le_trans W3.ds.ok.used W3.ds.ok.room
        have N3 : Hid (D3.done ≤ 100) := by have h := W3.done; rw [hdn.out] at h; have := N1.out; show _ ≤ _; omega
        clear W3 k2b Sx Sy
        go_wp2_with fail
        go_loopw [7] (fun i wr => ∃ (k : Nat) (L5 : List Tr), k ≤ 5 ∧ i = .int .i64 (k : Nat) ∧ Hid (DS wa wr g D3 vs3 ∧ Side wa wr g vs3 32 g4 g5 L4 L5 (upTo 5 (fun f => (D1.file f).d)) (upTo k (fun f => (D3.file f).d)))) (fun i _ => 5 - (intOf i).toNat)
        case atStart => exact ⟨0, tr0, Nat.zero_le _, rfl, S3.out, { Sd3.out with r5 := fun _ _ _ h => absurd h upTo_zero }⟩
        case round =>
          clear S3 Sd3
          obtain ⟨k, L5, hk, rfl, HI⟩ := hrel
          by_cases hlt : k < 5
          · have hlI : (k : Int) < 5 := by omega
            have hk0 : (0 : Int) ≤ (k : Int) := by omega
            have hk5 : Hid (k < 5) := hlt
            have Sx := Lib.hid HI.out.1; have Sy := Lib.hid HI.out.2
            clear HI hlt
            go_wp2_with fail
            refine (Read_any Sx.out.disk Sx.out.ok (k : Nat)).mono ?_
            rintro e wc ⟨A', n', c', rfl, hown, hb⟩
            rw [read_nat _ (by have := hk5.out; omega)] at hown
            have hn := Lib.hid (new_side Sy.out.swap Sx.out hown)
            have Sq := Lib.hid (Sx.out.old hb); have Sr := Lib.hid (Sy.out.old hb).swap
            clear hown hb Sx Sy
            obtain ⟨Ao, no, co, hco, hzo, _⟩ := Sr.out.cell4 hk5.out
            have Ss := Lib.hid (Sr.out.put4 hk5.out hn.out (upTo_succ (b := fun f => (D3.file f).d))).swap
            have St := Lib.hid (Sq.out.setSide (i := k) Sr.out.n4.2 Sr.out.n4.1 (.slice A' n' c'))
            clear Sq Sr hn
            go_wp2_with fail
            go_roundw
            case rel => exact ⟨k + 1, _, by have := hk5.out; omega, by go_num, St.out, Ss.out⟩
            case measure => simp [intOf]; have := hk5.out; omega
          · have hk5 : k = 5 := by omega
            subst hk5
            have Sx := Lib.hid HI.out.1; have Sy := Lib.hid HI.out.2
            have k3b := cell_bel K3.out Sx.out.bel
            have P3b := Lib.hid (P3.out.fr (Fr.of_below (M := NoB) Sx.out.bel) (fun k hk => ⟨hk, id⟩))
            clear HI hlt hk
            go_wp2_with fail
            refine (Crash_any Sx.out.disk Sx.out.ok P3b.out (fun k hk => ⟨Nat.lt_of_lt_of_le hk Sx.out.bel.size, not_foot_of Sx.out hk⟩) (by have := hn3.out; omega)).mono ?_
            rintro e w5 ⟨rfl, hst⟩
            obtain ⟨vs4, sx, fx, kx⟩ := Sx.out.step hst (Sx.out.ok.crash keep)
            obtain ⟨D4, hD4⟩ : ∃ D4, D4 = crashD D3 keep := ⟨_, rfl⟩
            rw [← hD4] at sx LP
            have S4 := Lib.hid sx
            have Sd4 := Lib.hid (Sy.out.step fx kx)
            have U4 : Hid (usedL D4.fs ≤ 262144) := Nat.le_trans sx.ok.used sx.ok.room
            have O4 : Hid (D4.off = false) := by rw [hD4]; rfl
            clear hst sx fx kx Sx Sy k3b P3b hD4
            go_wp2_with fail
            go_loopw [8, 9] (fun u i wr => ∃ k : Nat, k ≤ 5 ∧ i = .int .i64 (k : Nat) ∧ u = .int .i64 (usedL (D4.fs.take k) : Nat) ∧ Hid (DS wa wr g D4 vs4 ∧ Side wa wr g vs4 32 g4 g5 L4 L5 (upTo 5 (fun f => (D1.file f).d)) (upTo 5 (fun f => (D3.file f).d)))) (fun _ i _ => 5 - (intOf i).toNat)
            case atStart => exact ⟨0, Nat.zero_le _, rfl, rfl, S4.out, Sd4.out⟩
            case round =>
              clear S4 Sd4
              obtain ⟨k, hk, rfl, rfl, HI⟩ := hrel
              by_cases hlt : k < 5
              · have hlI : (k : Int) < 5 := by omega
                have hk0 : (0 : Int) ≤ (k : Int) := by omega
                have hk5 : Hid (k < 5) := hlt
                have Sx := Lib.hid HI.out.1; have Sy := Lib.hid HI.out.2
                have HS := Lib.hid (usedL_take D4.fs k (by rw [Sx.out.ok.len]; omega))
                have hle := Nat.le_trans (usedL_take_le D4.fs (k + 1)) U4.out
                rw [HS.out] at hle
                have hfe : (D4.fs.getD k FF0).d.length = (D4.file k).d.length := rfl
                rw [hfe] at hle HS
                obtain ⟨u, hu⟩ : ∃ u, u = usedL (D4.fs.take k) := ⟨_, rfl⟩
                rw [← hu] at hle HS ⊢
                obtain ⟨bd, hbd⟩ : ∃ bd, bd = (D4.file k).d := ⟨_, rfl⟩
                have hB := LP.out.1 k hlt
                rw [← hbd] at hle HS hB
                have HB := Lib.hid hB; have Hbd := Lib.hid hbd
                have hle2 : bd.length ≤ 262144 := by omega
                clear HI hlt hfe hu hB hbd
                go_wp2_with fail
                refine (Read_any Sx.out.disk Sx.out.ok (k : Nat)).mono ?_
                rintro e wc ⟨A', n', c', rfl, hown, hb⟩
                rw [read_nat _ (by have := hk5.out; omega), ← Hbd.out] at hown
                have hnl : n' = bd.length := by have := hown.1; rw [bs_length] at this; omega
                subst hnl
                have Rn := Lib.hid (Sl.of_own hown)
                have Sq := Lib.hid (Sx.out.old hb); have Sr := Lib.hid (Sy.out.old hb)
                clear hown hb Sx Sy
                obtain ⟨⟨Al, nl_, cl⟩, tl, Hl⟩ := Sr.out.r4 k hk5.out _ (show upTo 5 (fun f => (D1.file f).d) k = some (D1.file k).d by unfold upTo; rw [if_pos hk5.out])
                obtain ⟨⟨Aa, na, ca⟩, ta, Ha⟩ := Sr.out.r5 k hk5.out _ (show upTo 5 (fun f => (D3.file f).d) k = some (D3.file k).d by unfold upTo; rw [if_pos hk5.out])
                obtain ⟨Ao, no, co, hco, _, to_⟩ := Sr.out.cell4 hk5.out
                rw [tl] at to_; injection to_ with to_; injection to_ with t1 t2; injection t2 with t2 t3
                subst t1; subst t2; subst t3
                obtain ⟨Ao, no, co, hco2, _, to_⟩ := Sr.out.swap.cell4 hk5.out
                rw [ta] at to_; injection to_ with to_; injection to_ with t1 t2; injection t2 with t2 t3
                subst t1; subst t2; subst t3
                have HLs := Lib.hid Hl; have HAs := Lib.hid Ha
                clear Hl Ha tl ta
                go_wp2_with fail
                refine (begins_yes Rn.out HLs.out HB.out.1 (by omega)).mono ?_
                rintro e w' ⟨rfl, kk, rfl⟩
                have hco3 : (wc.drewN kk).cell? ⟨g5, k, none⟩ = some (.slice Aa na ca) := hco2
                have Sq2 := Lib.hid (Sq.out.old (Below.drN _ kk)); have Sr2 := Lib.hid (Sr.out.old (Below.drN _ kk))
                have Rn2 := Lib.hid (Rn.out.dr kk); have HAs2 := Lib.hid (HAs.out.dr kk)
                generalize wc.drewN kk = wd at hco3 Sq2 Sr2 Rn2 HAs2 ⊢
                clear hco hco2 Sq Sr Rn HLs HAs
                go_wp2_with fail
                refine (begins_yes HAs2.out Rn2.out HB.out.2 (by have h1 := HAs2.out.len; have h2 := usedL_le D3.fs k; have h3 : (D3.fs.getD k FF0).d.length = (D3.file k).d.length := rfl; have := U3.out; omega)).mono ?_
                rintro e w' ⟨rfl, kk2, rfl⟩
                have Sq3 := Lib.hid (Sq2.out.old (Below.drN _ kk2)); have Sr3 := Lib.hid (Sr2.out.old (Below.drN _ kk2))
                generalize wd.drewN kk2 = we at Sq3 Sr3 ⊢
                clear hco3 Sq2 Sr2 Rn2 HAs2
                obtain ⟨bl, hbl⟩ : ∃ bl, bl = bd.length := ⟨_, rfl⟩
                rw [← hbl] at hle hle2 HS ⊢
                clear hbl
                go_wp2_with fail
                go_roundw
                case rel => exact ⟨k + 1, by have := hk5.out; omega, by go_num, by rw [HS.out]; go_num, Sq3.out, Sr3.out⟩
                case measure => simp [intOf]; have := hk5.out; omega
              · have hk5 : k = 5 := by omega
                subst hk5
                have Sx := Lib.hid HI.out.1
                obtain ⟨u, hu⟩ : ∃ u, u = usedL D4.fs := ⟨_, rfl⟩
                have HU5 : Hid (usedL (D4.fs.take 5) = u) := by rw [hu]; exact LP.out.2.1.symm
                rw [HU5.out]
                have HU := Lib.hid hu
                clear HI hlt hk hu
                go_wp2_with fail
                refine (Used_any Sx.out.disk (by have := U4.out; omega)).mono ?_
                rintro e w' ⟨rfl, rfl⟩
                rw [← HU.out]
                go_wp2_with fail
                have KI : Hid (IntSl (wr.alloc (.cells #[.int .i64 9, .int .i64 9, .int .i64 9] 3)) (fun k => k = wr.heap.size) (some ⟨wr.heap.size, 0, none⟩) 3 3 [9, 9, 9]) := int_block wr (l := [9, 9, 9]) (by decide)
                have Sg := Lib.hid (Sx.out.old (Below.al wr (.cells #[.int .i64 9, .int .i64 9, .int .i64 9] 3)))
                have NF := Lib.hid (not_foot Sx.out.disk (Nat.le_refl wr.heap.size))
                clear Sx
                refine (Crash_any Sg.out.disk Sg.out.ok KI.out (fun k hk => ⟨by rw [hk]; simp, by rw [hk]; exact NF.out⟩) (by decide)).mono ?_
                rintro e w6 ⟨rfl, hst⟩
                obtain ⟨vs5, sx, _, _⟩ := Sg.out.step hst (Sg.out.ok.crash _)
                have S6 := Lib.hid sx
                have HU6 : Hid (usedL (crashD D4 [9, 9, 9]).fs = u) := by show _ = _; rw [LP.out.2.2, HU.out]
                clear hst sx Sg KI NF
                go_wp2_with fail
                refine (Used_any S6.out.disk (by rw [HU6.out, HU.out]; have := U4.out; omega)).mono ?_
                rintro e w' ⟨rfl, rfl⟩
                rw [HU6.out]
                go_wp2_with fail
                refine (Down_any S6.out.disk).mono ?_
                rintro e w' ⟨rfl, rfl⟩
                rw [show (crashD D4 [9, 9, 9]).off = false from rfl]
                go_wp2_with fail
                refine (known_any _).mono ?_
                rintro e wz ⟨rfl, hbz⟩
                have BZ := Lib.hid (Below.tr Ba.out (Below.tr S6.out.bel hbz))
                clear hbz S6
                go_wp2_with fail
                go_ret
                exact ⟨rfl, BZ.out⟩
  · have hk2 : (100 : Int) < (n3 : Int) := by omega
    clear hkeep
    go_enter Try.func3, Try.ntmps3
    go_wp2_with fail
    rw [← HWA.out]
    go_wp2_with fail
    refine (known_any _).mono ?_
    rintro e w' ⟨rfl, hb⟩
    have HB := Lib.hid (Below.tr Ba.out hb)
    clear hb k0 k1 k2 k3
    go_wp2_with fail
    go_ret
    exact ⟨rfl, HB.out⟩

theorem DiskLasts_rec (w : World) (y : DaysR) (h : y.Ok w) : Calls Try.prog 3 #[.agg y.cells.toArray] w fun e w' => e = .returned (.bool true) ∧ Below w.heap.size w w' :=
  DiskLasts_any w y.room y.A1 y.n1 y.c1 y.p1 y.A2 y.n2 y.c2 y.p2 y.A3 y.n3 y.c3 y.keep h.s1 h.s2 h.s3
end Go.Proofs.Ytjfnpndpigpaiaa
