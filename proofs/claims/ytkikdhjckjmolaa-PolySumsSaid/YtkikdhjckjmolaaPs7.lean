/- The reference's rest. -/
import Derived.Test.YtkikdhjckjmolaaPs6
namespace Go.Proofs.Ytkikdhjckjmolaa
open Go.RowKit
attribute [local go_sem] yld yldUpon_value

def PP : Nat := 1361129467683753853853498429727072845819
theorem four65 : 4 ^ 65 = PP + 5 := by decide +kernel
/-- a slice's number, read off the world: for a measure -/
def rdv (w : World) : Value → Nat
  | .slice (some a) n _ => dgval ((List.range n).map fun j => match w.cell? ⟨a.block, a.off + j, none⟩ with | some (.int _ x) => x.toNat | _ => 0)
  | _ => 0
theorem Dg.rdv {w : World} {F : Nat → Prop} {A : Option Addr} {n c : Nat} {l : List Nat} (h : Dg w F A n c l) : rdv w (.slice A n c) = dgval l := by
  cases hn : n with
  | zero =>
    have hl : l = [] := List.eq_nil_of_length_eq_zero (by have := h.len; omega)
    subst hl
    cases A <;> rfl
  | succ n' =>
    obtain ⟨b, o, rfl, _⟩ := h.some_ (by omega)
    rw [← hn]
    show dgval _ = dgval l
    refine congrArg dgval ?_
    apply List.ext_getElem
    · simp [h.len]
    · intro j h1 h2
      obtain ⟨b', o', e, _, hc⟩ := h.at_ j h2
      injection e with e; injection e with e1 e2 _
      subst e1; subst e2
      simp [hc]
/-- where rest stands -/
structure ReI (w wr : World) (v0 : Nat) (A : Option Addr) (n c : Nat) (l : List Nat) : Prop where
  dg : Dg wr (fun k => k < wr.heap.size) A n c l
  d4 : D4 l
  val : dgval l % PP = v0 % PP
  top : n = 0 ∨ l.getD (n - 1) 0 ≠ 0
  le : n ≤ 400
  bel : Below w.heap.size w wr
theorem ReI.dr {w wr : World} {v0 : Nat} {A : Option Addr} {n c : Nat} {l : List Nat} (h : ReI w wr v0 A n c l) {wx : World} (hb : Below wr.heap.size wr wx) : ReI w wx v0 A n c l :=
  ⟨(h.dg.belF hb).mono (fun _ hk => Nat.lt_of_lt_of_le hk hb.size), h.d4, h.val, h.top, h.le, Below.tr h.bel hb⟩
theorem D4.take {l : List Nat} (h : D4 l) (m : Nat) : D4 (l.take m) := fun d hd => h d (List.mem_of_mem_take hd)
theorem D4.drop {l : List Nat} (h : D4 l) (m : Nat) : D4 (l.drop m) := fun d hd => h d (List.mem_of_mem_drop hd)
theorem getD_take {l : List Nat} {m j : Nat} (h : j < m) : (l.take m).getD j 0 = l.getD j 0 := by
  simp only [List.getD_eq_getElem?_getD]
  rw [List.getElem?_take_of_lt h]
theorem top_take {l : List Nat} {m : Nat} (h : m = 0 ∨ l.getD (m - 1) 0 ≠ 0) : m = 0 ∨ (l.take m).getD (m - 1) 0 ≠ 0 := by
  rcases h with h | h
  · exact .inl h
  · by_cases hm : m = 0
    · exact .inl hm
    · right; rw [getD_take (by omega)]; exact h
theorem PP_val : PP = 1361129467683753853853498429727072845819 := rfl
/-- what stands above the 65th digit -/
theorem high_pos {l : List Nat} {n : Nat} (hl : l.length = n) (hd : D4 l) (hn : 65 < n) (ht : l.getD (n - 1) 0 ≠ 0) : 1 ≤ dgval (l.drop 65) := by
  rcases Nat.eq_zero_or_pos (dgval (l.drop 65)) with h | h
  · have h1 := dgval_top (l := l) (m := n) (by omega) ht
    rw [List.take_of_length_le (by omega), dgval_take_drop l 65 (by omega), h] at h1
    have h2 := dgval_take_lt hd.le 65
    have h3 : 4 ^ 65 ≤ 4 ^ (n - 1) := Nat.pow_le_pow_right (by decide) (by omega)
    omega
  · exact h
theorem one_one : dgval [1, 1] = 5 := rfl
theorem len_of_lt {l : List Nat} {m n : Nat} (hm : m = 0 ∨ l.getD (m - 1) 0 ≠ 0) (h : dgval (l.take m) < 4 ^ n) : m ≤ n := by
  rcases hm with rfl | hm
  · exact Nat.zero_le _
  · rcases Nat.eq_zero_or_pos m with h0 | h0
    · omega
    · have h1 := dgval_top h0 hm
      rcases Nat.lt_or_ge n m with h2 | h2
      · have h3 : 4 ^ n ≤ 4 ^ (m - 1) := Nat.pow_le_pow_right (by decide) (by omega)
        omega
      · exact h2
theorem Dg.ones (w : World) : Dg (w.alloc (.cells #[.int .i64 1, .int .i64 1] 3)) (fun k => k = w.heap.size) (some ⟨w.heap.size, 0, none⟩) 2 2 [1, 1] :=
  ⟨rfl, Nat.le_refl _, fun j hj => ⟨_, _, rfl, rfl, by
    have hh := heap_alloc_new w (.cells #[.int .i64 1, .int .i64 1] 3)
    rw [Nat.zero_add, cell_of_row _ w.heap.size _ _ _ _ hh]
    have : j = 0 ∨ j = 1 := by simp at hj; omega
    rcases this with rfl | rfl <;> rfl⟩⟩
theorem ones_le : ∀ x ∈ [1, 1], x ≤ 3 := by decide
set_option maxRecDepth 100000 in
set_option maxHeartbeats 8000000 in
theorem rest_any {w : World} {F : Nat → Prop} {A : Option Addr} {n c : Nat} {l : List Nat} (h : Dg w F A n c l) (hF : ∀ k, F k → k < w.heap.size) (hn : n ≤ 400) (hd : D4 l) :
    Calls Try.prog 29 #[.slice A n c] w fun e w' => ∃ A' n' c' r, e = .returned (.slice A' n' c') ∧ Dg w' (fun k => k < w'.heap.size) A' n' c' r ∧ Below w.heap.size w w' ∧ D4 r ∧ dgval r = dgval l % PP ∧ n' ≤ 65 := by
  have H := Lib.hid (h.mono hF); have HD := Lib.hid hd; have HNb := Lib.hid hn
  clear h hF hd
  go_enter Try.func29, Try.ntmps29
  go_wp2_with fail
  refine (trimmed_any H.out (by omega)).mono ?_
  rintro e w' ⟨⟨m, rfl, hm1, hm2, hm3⟩, rfl⟩
  have I0 : Hid (ReI w w (dgval l) A m c (l.take m)) := ⟨H.out.take hm1, HD.out.take m, by rw [hm3], top_take hm2, by omega, Below.refl _ _⟩
  clear hm1 hm2 hm3
  go_wp2_with fail
  go_loopw [0] (fun v wr => ∃ (A' : Option Addr) (n' c' : Nat) (r : List Nat), v = .slice A' n' c' ∧ Hid (ReI w wr (dgval l) A' n' c' r)) (fun v wr => rdv wr v)
  case atStart => exact ⟨A, m, c, _, rfl, I0⟩
  case round =>
    clear I0
    obtain ⟨A1, n1, c1, r, rfl, I⟩ := hrel
    by_cases hlt : 65 < n1
    · obtain ⟨b, o, rfl, _⟩ := I.out.dg.some_ (by omega)
      have hcap := I.out.dg.cap
      have h65 : 65 ≤ c1 := by omega
      have h65I : (65 : Int) ≤ (c1 : Int) := by omega
      have h65n : 65 ≤ n1 := by omega
      have h65nI : (65 : Int) ≤ (n1 : Int) := by omega
      have hne : ¬ c1 = 65 := by omega
      have hltI : (65 : Int) < (n1 : Int) := by omega
      have hn4 := I.out.le
      have HLT := Lib.hid hlt
      have hhi := Lib.hid (high_pos I.out.dg.len I.out.d4 hlt (I.out.top.resolve_left (by omega)))
      have hsp := Lib.hid (dgval_take_drop r 65 (by have := I.out.dg.len; omega))
      go_wp2_with fail
      refine wp_calm ?_
      refine wp_region_os (fun _ w' => Below (wr).drew.heap.size (wr).drew w') [] (.move 0 (.move 1 (.move 2 (.move 3 (.run 4 [] (.run 5 [] (.run 6 [] (.run 7 [] (.move 8 .done))))))))) (by kernel_rfl) (by kernel_rfl) (fun _ _ _ _ _ h => nomatch h.1) ?_
      have hS0 : Below (wr).drew.heap.size (wr).drew (wr).drew := Below.refl _ _
      refine os_move rfl rfl rfl (Nat.le_of_ble_eq_true rfl) ?_
      apply Exists.intro
      refine ⟨fun w' K hK => ?_, ?_⟩
      (focus
        go_simp
        exact hK)
      refine os_move rfl rfl rfl (Nat.le_of_ble_eq_true rfl) ?_
      apply Exists.intro
      refine ⟨fun w' K hK => ?_, ?_⟩
      (focus
        go_simp
        exact hK)
      refine os_move rfl rfl rfl (Nat.le_of_ble_eq_true rfl) ?_
      apply Exists.intro
      refine ⟨fun w' K hK => ?_, ?_⟩
      (focus
        go_simp
        exact hK)
      refine os_move rfl rfl rfl (Nat.le_of_ble_eq_true rfl) ?_
      apply Exists.intro
      refine ⟨fun w' K hK => ?_, ?_⟩
      (focus
        go_simp
        exact hK)
      refine os_run rfl rfl (fun K hK => ?_)
      go_wp2_with fail
      have B4 : Hid (Below wr.heap.size wr (wr.drew.alloc (.cells #[.int .i64 1, .int .i64 1] 3))) := Below.tr (Below.dr1 wr) (Below.al wr.drew _)
      have D1 : Hid (Dg (wr.drew.alloc (.cells #[.int .i64 1, .int .i64 1] 3)) _ _ 2 2 [1, 1]) := Dg.ones wr.drew
      refine ⟨fun _ hk => absurd hk List.not_mem_nil, ?_⟩
      refine os_run rfl rfl (fun K hK => ?_)
      go_wp2_with fail
      refine (rTimes_any ((I.out.dg.drop (m := 65) (by omega)).belF B4.out) D1.out (by omega) (by decide) (D4.drop I.out.d4 65).le ones_le).mono ?_
      rintro e w3 ⟨A3, n3, c3, r3, rfl, ho3, hb3, hd3, hv3, hn3⟩
      have O3 := Lib.hid (Dg.of_own ho3); have B3 := Lib.hid hb3; have D3 := Lib.hid hd3; have V3 := Lib.hid hv3; have N3 := Lib.hid hn3
      clear ho3 hd3 hv3 hn3
      go_wp2_with fail
      refine ⟨fun _ hk => absurd hk List.not_mem_nil, ?_⟩
      replace hS0 := Below.tr hS0 ((Below.tr (Below.al wr.drew _) hb3))
      refine os_run rfl rfl (fun K hK => ?_)
      go_wp2_with fail
      refine (plus_any ((I.out.dg.take (m := 65) (by omega)).belF (Below.tr B4.out B3.out)) O3.out (by decide) (by have := N3.out; omega) (D4.take I.out.d4 65).le D3.out.le).mono ?_
      rintro e w4 ⟨A4, n4, c4, r4, rfl, ho4, hb4, hd4, hv4, hn4'⟩
      have O4 := Lib.hid (Dg.of_own ho4); have D4' := Lib.hid hd4; have V4 := Lib.hid hv4; have N4 := Lib.hid hn4'
      have Bx := Lib.hid (Below.tr (Below.tr B4.out B3.out) hb4)
      clear ho4 hd4 hv4 hn4'
      go_wp2_with fail
      refine ⟨fun _ hk => absurd hk List.not_mem_nil, ?_⟩
      replace hS0 := Below.tr hS0 (hb4)
      refine os_run rfl rfl (fun K hK => ?_)
      go_wp2_with fail
      refine (trimmed_any O4.out (by have := N4.out; have := N3.out; omega)).mono ?_
      rintro e w5 ⟨⟨m5, rfl, hm1, hm2, hm3⟩, rfl⟩
      go_wp2_with fail
      refine ⟨fun _ hk => absurd hk List.not_mem_nil, ?_⟩
      refine os_move rfl rfl rfl (Nat.le_of_ble_eq_true rfl) ?_
      apply Exists.intro
      refine ⟨fun w' K hK => ?_, ?_⟩
      (focus
        go_simp
        exact hK)
      refine os_done ⟨rfl, ?_⟩
      go_wp2_with fail
      have hval : dgval (r4.take m5) = dgval (r.take 65) + dgval (r.drop 65) * 5 := by rw [hm3, V4.out, V3.out, one_one]
      have hdec : dgval (r4.take m5) < dgval r := by rw [hval, hsp.out, four65]; have := hhi.out; rw [Nat.add_mul]; have h9 : 0 < PP * dgval (r.drop 65) := Nat.mul_pos (by decide) hhi.out; omega
      have hlt4 : dgval r < 4 ^ n1 := by have := dgval_lt I.out.d4; rw [I.out.dg.len] at this; exact this
      have hm5 : m5 ≤ n1 := len_of_lt hm2 (Nat.lt_trans hdec hlt4)
      have DN := (O4.out.take hm1).mono (G := fun k => k < w4.heap.size) (fun k hk => hk.2)
      refine ⟨⟨A4, m5, c4, r4.take m5, rfl, Lib.hid ⟨DN, D4'.out.take m5, ?_, top_take hm2, by have := I.out.le; omega, Below.tr I.out.bel Bx.out⟩⟩, ?_⟩
      · rw [← I.out.val, hval, hsp.out, four65, Nat.add_mul, show dgval (r.take 65) + (PP * dgval (r.drop 65) + 5 * dgval (r.drop 65)) = (dgval (r.take 65) + dgval (r.drop 65) * 5) + PP * dgval (r.drop 65) by omega, Nat.add_mul_mod_self_left]
      · rw [DN.rdv, I.out.dg.rdv]; exact hdec
    · have hlt2 : n1 ≤ 65 := by omega
      have hltI : ¬ (65 : Int) < (n1 : Int) := by omega
      have I1 : Hid (ReI w wr (dgval l) A1 n1 c1 r ∧ n1 ≤ 65) := ⟨I.out, hlt2⟩
      clear I hlt hlt2
      go_wp2_with fail
      go_loopw [0] (fun v w2 => ∃ (A' : Option Addr) (n' c' : Nat) (r : List Nat), v = .slice A' n' c' ∧ Hid (ReI w w2 (dgval l) A' n' c' r ∧ n' ≤ 65)) (fun v w2 => rdv w2 v)
      case atStart => exact ⟨A1, n1, c1, r, rfl, I1⟩
      case round =>
        clear I1
        obtain ⟨A1, n1, c1, r, rfl, I⟩ := hrel
        have BL := below_any I.out.1.dg (by have := I.out.2; omega) I.out.1.d4.le
        have hlt4 : Hid (dgval r < 4 ^ 65) := by
          have := dgval_lt I.out.1.d4
          rw [I.out.1.dg.len] at this
          exact Nat.lt_of_lt_of_le this (Nat.pow_le_pow_right (by decide) I.out.2)
        by_cases hb : dgval r < PP
        · rw [decide_eq_true (show dgval r < 1361129467683753853853498429727072845819 from hb)] at BL
          have hvv : Hid (dgval r = dgval l % PP) := by
            show _ = _
            rw [← I.out.1.val, Nat.mod_eq_of_lt hb]
          clear hb
          go_wp2_with fail
          refine BL.mono ?_
          rintro e w3 ⟨rfl, hb3⟩
          have I3 := Lib.hid (I.out.1.dr hb3)
          have B3 := Lib.hid hb3
          clear hb3
          go_wp2_with fail
          go_ret
          exact ⟨A1, n1, c1, r, rfl, I3.out.dg, I3.out.bel, I3.out.d4, hvv.out, I.out.2⟩
        · rw [decide_eq_false (show ¬ dgval r < 1361129467683753853853498429727072845819 from hb)] at BL
          have HB : Hid (PP ≤ dgval r) := Nat.le_of_not_lt hb
          clear hb
          go_wp2_with fail
          refine BL.mono ?_
          rintro e w3 ⟨rfl, hb3⟩
          have I3 := Lib.hid (I.out.1.dr hb3)
          have B3 := Lib.hid hb3
          clear hb3
          have D1 : Hid (Dg (w3.alloc (.cells #[.int .i64 1, .int .i64 1] 3)) _ _ 2 2 [1, 1]) := Dg.ones w3
          go_wp2_with fail
          refine (plus_any (I3.out.dg.belF (Below.al w3 _)) D1.out (by have := I.out.2; omega) (by decide) I3.out.d4.le ones_le).mono ?_
          rintro e w4 ⟨A4, n4, c4, r4, rfl, ho4, hb4, hd4, hv4, hn4'⟩
          have O4 := Lib.hid (Dg.of_own ho4); have D4' := Lib.hid hd4; have V4 := Lib.hid hv4; have N4 := Lib.hid hn4'
          have B4 := Lib.hid (Below.tr (Below.al w3 (.cells #[.int .i64 1, .int .i64 1] 3)) hb4)
          clear ho4 hb4 hd4 hv4 hn4'
          go_wp2_with fail
          refine (trimmed_any O4.out (by have := N4.out; have := I.out.2; omega)).mono ?_
          rintro e w5 ⟨⟨m5, rfl, hm1, hm2, hm3⟩, rfl⟩
          have hval : dgval (r4.take m5) = dgval r + 5 := by rw [hm3, V4.out, one_one]
          have h65 : 65 < m5 := by
            rcases Nat.lt_or_ge 65 m5 with h | h
            · exact h
            · have h1 := dgval_take_lt D4'.out.le m5
              have h2 : 4 ^ m5 ≤ 4 ^ 65 := Nat.pow_le_pow_right (by decide) h
              have h3 := HB.out
              rw [four65] at h2
              omega
          have h65I : (65 : Int) < (m5 : Int) := by omega
          have DN := Lib.hid (O4.out.take hm1)
          have hcap := DN.out.cap
          have h65c : 65 ≤ c4 := by omega
          have h65cI : (65 : Int) ≤ (c4 : Int) := by omega
          have H65 := Lib.hid h65; have HV := Lib.hid hval; have HM1 := Lib.hid hm1
          clear hm1 hm2 hm3 h65 hval hcap
          go_wp2_with fail
          refine (trimmed_any (DN.out.take (m := 65) (by have := H65.out; omega)) (by decide)).mono ?_
          rintro e w5 ⟨⟨m6, rfl, hm1, hm2, hm3⟩, rfl⟩
          have hv6 : Hid (dgval (((r4.take m5).take 65).take m6) + PP = dgval r) := by
            show _ = _
            have h1 := dgval_take_drop (r4.take m5) 65 (by have := DN.out.len; have := H65.out; omega)
            have h2 := dgval_take_lt (D4'.out.take m5).le 65
            rw [HV.out] at h1
            rw [hm3]
            have h3 := hlt4.out
            have h4 := HB.out
            rw [four65] at h1 h2 h3
            have h5 : dgval ((r4.take m5).drop 65) = 1 := by
              rcases Nat.lt_or_ge (dgval ((r4.take m5).drop 65)) 1 with h | h
              · have : dgval ((r4.take m5).drop 65) = 0 := by omega
                rw [this] at h1; omega
              · rcases Nat.lt_or_ge 1 (dgval ((r4.take m5).drop 65)) with h6 | h6
                · have h7 : (PP + 5) * 2 ≤ (PP + 5) * dgval ((r4.take m5).drop 65) := Nat.mul_le_mul_left _ h6
                  have h8 : 5 < PP := by decide
                  omega
                · omega
            rw [h5] at h1
            omega
          have DF := Lib.hid (((DN.out.take (m := 65) (by have := H65.out; omega)).take hm1).mono (G := fun k => k < w4.heap.size) (fun k hk => hk.2))
          have IN : Hid (ReI w w4 (dgval l) A4 m6 c4 (((r4.take m5).take 65).take m6) ∧ m6 ≤ 65) :=
            ⟨⟨DF.out, ((D4'.out.take m5).take 65).take m6, by rw [← I.out.1.val, ← hv6.out, Nat.add_mod_right], top_take hm2, by omega, Below.tr I3.out.bel B4.out⟩, hm1⟩
          clear hm1 hm2 hm3
          go_wp2_with fail
          refine ⟨⟨A4, m6, c4, _, rfl, IN⟩, ?_⟩
          rw [DF.out.rdv, I.out.1.dg.rdv]
          have := hv6.out
          have h8 : 5 < PP := by decide
          omega
end Go.Proofs.Ytkikdhjckjmolaa
