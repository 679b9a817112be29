/- RingPlays: the walk. -/
import Derived.Test.YtglbhoamknjdeaaRr7
import Derived.Test.YtglbhoamknjdeaaOpnQ
import Derived.Test.YtglbhoamknjdeaaArr
namespace Go.Proofs.Ytglbhoamknjdeaa
open Go.RowKit
attribute [local go_sem] yld yldUpon_value

/-- two arrays of bytes held against one another, in a drawn region -/
theorem os_neq_t {ops : Array Oper} {Q : Exit → Act → World → Prop} {S : Nat → World → Prop} {i d : Nat} {r : OS} {o : Oper} {a : Act} {w : World} (T : TypeId) (x y : Operand) (T' : TypeId) (n : Nat) (l l' : List UInt8) (ho : ops.toList[i]? = some o) (hw : Region.wanted o (yielded ops a.tmps) = true)
    (hop : o.op = .binOp .neq T x y T') (hd : o.dst = some d) (hx : a.eval x = .agg (bs l).toArray) (hy : a.eval y = .agg (bs l').toArray) (hu : Try.prog.underlying T = some (.array n 5)) (hg : Try.prog.eqGuardType Try.prog.depth T = false)
    (h : l.length = n) (h' : l'.length = n) (c : Bool) (hc : (l == l') = c) (hk : ∃ a1, a.put (some d) (.bool (!c)) = a1 ∧ wpOS Try.prog ops Q S r a1 w) : wpOS Try.prog ops Q S (.move i r) a w := by
  obtain ⟨a1, ha, hk⟩ := hk
  refine ⟨o, .bool (!c), by simpa using ho, .inl ⟨hw, fun w' _ => ?_⟩, by rw [hd, ha]; exact hk⟩
  have h1 := run_eq_arr w' T n l l' hu h h'
  have h2 := run_eqGuard_agg (P := Try.prog) w' .neq T x y (bs l).toArray (bs l').toArray hg
  subst hc
  unfold execOp
  simp only [hop, hx, hy, Sem.run_bind, h2, Result.andThen_ok, binOp, h1, Sem.run_pure]


/-- where a loop of RingPlays stands -/
structure PlayI (w wr : World) (lo b m g : Nat) (A : Option Addr) (n c : Nat) (L : List (Wk × Hd)) (k : Nat) : Prop where
  both : BothAt wr lo b m g A n c L
  len : L.length ≤ k
  fr : Fr (fun j => w.heap.size ≤ j) w wr
  lo' : w.heap.size ≤ m ∧ w.heap.size ≤ lo
theorem BM.ge {w wr : World} {lo b m g : Nat} {A : Option Addr} {n c : Nat} {L : List (Wk × Hd)} {k : Nat} (h : PlayI w wr lo b m g A n c L k) {j : Nat} (hj : BM m g A n c j) : w.heap.size ≤ j := by
  have h1 := h.lo'
  rcases hj with e | e | e
  · omega
  · have := h.both.rf.lo; omega
  · have := (h.both.rf.own.lt _ e).1; omega
theorem PlayI.bel {w wr wx : World} {lo b m g : Nat} {A : Option Addr} {n c : Nat} {L : List (Wk × Hd)} {k : Nat} (h : PlayI w wr lo b m g A n c L k) (hb : Below wr.heap.size wr wx) : PlayI w wx lo b m g A n c L k :=
  ⟨h.both.bel hb, h.len, h.fr.tr (Fr.of_below hb), h.lo'⟩
set_option maxRecDepth 100000 in
set_option maxHeartbeats 8000000 in
theorem RingPlays_any (w : World) {A : Option Addr} {n c : Nat} {ps : List OpQ} (h : QSl w (Old w) A n c ps) (_ : n ≤ 140737488355000) :
    Calls Try.prog 5 #[.slice A n c] w fun e w' => e = .returned (.bool true) ∧ Below w.heap.size w w' := by
  have H := Lib.hid h
  have HPL := Lib.hid h.len
  clear h
  have uN := Lib.hid Try.underlying36
  go_enter Try.func5, Try.ntmps5
  go_wp2_with fail
  refine (New_any w).mono ?_
  rintro e w1 ⟨b, m, rfl, hr1, hb1, hbb, hmm⟩
  have hh2 := heap_alloc_new w1 (.cells #[.slice none 0 0] 45)
  have I2 : Hid (PlayI w (w1.alloc (.cells #[.slice none 0 0] 45)) w1.heap.size b m w1.heap.size none 0 0 [] 0) :=
    ⟨⟨hr1.bel (Below.al w1 _), ⟨hh2, World.ownsRow_nil _ _ _ _, fun k hk => (by cases hk), Nat.le_refl _⟩, hr1.lt, (Below.al w1 _).size, fun p hp => (by cases hp), by decide⟩, Nat.le_refl _, Fr.of_below (Below.tr hb1 (Below.al w1 _)), hmm, hb1.size⟩
  clear hr1 hb1 hbb hmm hh2
  go_wp2_with fail
  generalize w1.alloc (.cells #[.slice none 0 0] 45) = w2 at I2 ⊢
  generalize w1.heap.size = g at I2 ⊢
  obtain ⟨lo, hlo⟩ : ∃ lo, lo = g := ⟨_, rfl⟩
  have I2 : Hid (PlayI w w2 lo b m g none 0 0 [] 0) := by rw [hlo]; exact I2
  clear hlo
  go_loopw [5] (fun v wr => ∃ (k : Nat) (A' : Option Addr) (n' c' : Nat) (L : List (Wk × Hd)), k ≤ n ∧ k ≤ 200 ∧ v = .int .i64 (k : Nat) ∧ Hid (PlayI w wr lo b m g A' n' c' L k)) (fun v _ => 200 - (intOf v).toNat)
  case atStart => exact ⟨0, none, 0, 0, [], Nat.zero_le _, Nat.zero_le _, rfl, I2⟩
  case round =>
    clear I2
    obtain ⟨k, A1, n1, c1, L, hkn, hk2, rfl, I⟩ := hrel
    have hk0 : (0 : Int) ≤ (k : Int) := by omega
    by_cases hlt : k < n ∧ k < 200
    · have hkI : (k : Int) < (n : Int) := by omega
      have hkI2 : (k : Int) < 200 := by omega
      have hkn2 : k < n := hlt.1
      have HK := Lib.hid hlt
      obtain ⟨b0, o, hA, hb0, hwv, hfit, hc⟩ := H.out.at_ k (by have := HPL.out; omega)
      obtain ⟨⟨kd, v, t, s⟩, hp⟩ : ∃ p, ps[k]'(by have := HPL.out; omega) = p := ⟨_, rfl⟩
      rw [hp] at hwv hfit hc
      subst hA
      have nM0 : ¬ w.heap.size ≤ b0 := Nat.not_le_of_lt hb0
      have q : ∀ i u, (OpQ.cells ⟨kd, v, t, s⟩)[i]? = some u → wr.cell? ⟨b0, o + k * 4 + i, none⟩ = some u := fun i u hu => cell_fr (hc i u hu) I.out.fr nM0
      have q0 : wr.cell? ⟨b0, o + k * 4, none⟩ = some (.int .i64 kd) := q 0 _ rfl
      have q1 : wr.cell? ⟨b0, o + k * 4 + 1, none⟩ = some (.int .i64 v) := q 1 _ rfl
      have q2 : wr.cell? ⟨b0, o + k * 4 + 2, none⟩ = some (.string t) := q 2 _ rfl
      have q3 : wr.cell? ⟨b0, o + k * 4 + 3, none⟩ = some (.string s) := q 3 _ rfl
      have hbl := block_lt_of q0
      obtain ⟨M, hM⟩ : ∃ M : Nat → Prop, M = fun j => w.heap.size ≤ j := ⟨_, rfl⟩
      have HM := Lib.hid hM
      have nM : ¬ M b0 := by rw [hM]; exact nM0
      have HW := Lib.hid hwv; have HF := Lib.hid hfit
      clear hc hp q hM nM0 hb0 hlt hwv hfit
      go_wp2_with fail
      refine wp_calm ?_
      refine wp_region_os (fun _ w' => Fr M (wr).drew w') [5, 14, 23, 29] (.move 0 (.move 1 (.move 2 (.move 3 (.move 4 (.take 5 (.run 6 [14, 23, 29] (.move 7 (.move 8 (.move 9 (.move 10 (.move 11 (.move 12 (.move 13 (.take 14 (.run 15 [5, 23, 29] (.move 16 (.move 17 (.move 18 (.move 19 (.move 20 (.move 21 (.move 22 (.take 23 (.move 25 (.move 26 (.move 27 (.move 28 (.take 29 (.run 24 [5, 14, 29] (.run 30 [5, 14, 23] (.move 31 (.move 32 .done))))))))))))))))))))))))))))))))) (by kernel_rfl) (by kernel_rfl) (fun _ _ _ _ _ h => nomatch h.1) ?_
      have hS0 : Fr M (wr).drew (wr).drew := Fr.refl _ _
      refine os_move rfl rfl rfl (Nat.le_of_ble_eq_true rfl) ?_
      apply Exists.intro
      refine ⟨fun w' K hK => ?_, ?_⟩
      (focus
        go_simp
        exact hK)
      refine os_move rfl rfl rfl (Nat.le_of_ble_eq_true rfl) ?_
      apply Exists.intro
      refine ⟨fun w' K hK => ?_, ?_⟩
      (focus
        go_simp
        exact hK)
      refine os_move rfl rfl rfl (Nat.le_of_ble_eq_true rfl) ?_
      apply Exists.intro
      refine ⟨fun w' K hK => ?_, ?_⟩
      (focus
        go_simp
        exact hK)
      refine os_move rfl rfl rfl (Nat.le_of_ble_eq_true rfl) ?_
      apply Exists.intro
      refine ⟨fun w' K hK => ?_, ?_⟩
      (focus
        go_simp
        exact hK)
      refine os_move rfl rfl rfl (Nat.le_of_ble_eq_true rfl) ?_
      apply Exists.intro
      refine ⟨fun w' K hK => ?_, ?_⟩
      (focus
        go_simp
        exact hK)
      refine os_yld hS0 rfl rfl rfl (Nat.le_of_ble_eq_true rfl) ?_
      apply Exists.intro
      refine ⟨fun w' hS' K hK => ?_, ?_⟩
      (focus
        obtain ⟨hcc, hff⟩ := bcellM (Fr.undr hS')
        clear hS'
        go_simp
        exact hK)
      refine os_run rfl rfl (fun K hK => ?_)
      go_wp2_with fail
      refine (does_any (I.out.both.bel (Below.dr1 _)) (by have := I.out.len; have := HK.out; omega) kd v HW.out t s HF.out).mono ?_
      rintro e w3 ⟨rfl, ⟨A2, n2, c2, L2, hX, hl2⟩, hf3⟩
      have Y := Lib.hid hX; have HL2 := Lib.hid hl2
      clear hX hl2
      go_wp2_with fail
      refine ⟨fun _ _ h => Fr.tr h ((hf3.mono (fun j _ e => by rw [HM.out]; exact BM.ge I.out e))), ?_⟩
      replace hS0 := Fr.tr hS0 ((hf3.mono (fun j _ e => by rw [HM.out]; exact BM.ge I.out e)))
      refine os_move rfl rfl rfl (Nat.le_of_ble_eq_true rfl) ?_
      apply Exists.intro
      refine ⟨fun w' K hK => ?_, ?_⟩
      (focus
        go_simp
        exact hK)
      refine os_move rfl rfl rfl (Nat.le_of_ble_eq_true rfl) ?_
      apply Exists.intro
      refine ⟨fun w' K hK => ?_, ?_⟩
      (focus
        go_simp
        exact hK)
      refine os_moveg rfl rfl rfl (Nat.le_of_ble_eq_true rfl) ?_
      apply Exists.intro
      refine ⟨fun w' K hK => ?_, ?_⟩
      (focus
        go_simp
        exact hK)
      refine os_moveg rfl rfl rfl (Nat.le_of_ble_eq_true rfl) ?_
      apply Exists.intro
      refine ⟨fun w' K hK => ?_, ?_⟩
      (focus
        go_simp
        exact hK)
      refine os_moveg rfl rfl rfl (Nat.le_of_ble_eq_true rfl) ?_
      apply Exists.intro
      refine ⟨fun w' K hK => ?_, ?_⟩
      (focus
        go_simp
        exact hK)
      refine os_moveg rfl rfl rfl (Nat.le_of_ble_eq_true rfl) ?_
      apply Exists.intro
      refine ⟨fun w' K hK => ?_, ?_⟩
      (focus
        go_simp
        exact hK)
      refine os_moveg rfl rfl rfl (Nat.le_of_ble_eq_true rfl) ?_
      apply Exists.intro
      refine ⟨fun w' K hK => ?_, ?_⟩
      (focus
        go_simp
        exact hK)
      refine os_yldg hS0 rfl rfl rfl (Nat.le_of_ble_eq_true rfl) ?_
      apply Exists.intro
      refine ⟨fun w' hS' K hK => ?_, ?_⟩
      (focus
        obtain ⟨hcc, hff⟩ := bcellM (Fr.undr hS')
        clear hS'
        go_simp
        exact hK)
      refine os_run rfl rfl (fun K hK => ?_)
      go_wp2_with fail
      refine (alike_any Y.out kd v t s HF.out).mono ?_
      rintro e w4 ⟨rfl, hb4⟩
      replace Y := Lib.hid (Y.out.bel hb4)
      go_wp2_with fail
      refine ⟨fun _ _ h => Fr.tr h ((Fr.of_below hb4)), ?_⟩
      replace hS0 := Fr.tr hS0 ((Fr.of_below hb4))
      refine os_moveg rfl rfl rfl (Nat.le_of_ble_eq_true rfl) ?_
      apply Exists.intro
      refine ⟨fun w' K hK => ?_, ?_⟩
      (focus
        go_simp
        exact hK)
      refine os_move rfl rfl rfl (Nat.le_of_ble_eq_true rfl) ?_
      apply Exists.intro
      refine ⟨fun w' K hK => ?_, ?_⟩
      (focus
        go_simp
        exact hK)
      refine os_move rfl rfl rfl (Nat.le_of_ble_eq_true rfl) ?_
      apply Exists.intro
      refine ⟨fun w' K hK => ?_, ?_⟩
      (focus
        go_simp
        exact hK)
      refine os_moveg rfl rfl rfl (Nat.le_of_ble_eq_true rfl) ?_
      apply Exists.intro
      refine ⟨fun w' K hK => ?_, ?_⟩
      (focus
        go_simp
        exact hK)
      refine os_moveg rfl rfl rfl (Nat.le_of_ble_eq_true rfl) ?_
      apply Exists.intro
      refine ⟨fun w' K hK => ?_, ?_⟩
      (focus
        go_simp
        exact hK)
      refine os_moveg rfl rfl rfl (Nat.le_of_ble_eq_true rfl) ?_
      apply Exists.intro
      refine ⟨fun w' K hK => ?_, ?_⟩
      (focus
        go_simp
        exact hK)
      refine os_moveg rfl rfl rfl (Nat.le_of_ble_eq_true rfl) ?_
      apply Exists.intro
      refine ⟨fun w' K hK => ?_, ?_⟩
      (focus
        go_simp
        exact hK)
      refine os_yldg hS0 rfl rfl rfl (Nat.le_of_ble_eq_true rfl) ?_
      apply Exists.intro
      refine ⟨fun w' hS' K hK => ?_, ?_⟩
      (focus
        obtain ⟨hcc, hff⟩ := bcellM (Fr.undr hS')
        clear hS'
        go_simp
        exact hK)
      refine os_moveg rfl rfl rfl (Nat.le_of_ble_eq_true rfl) ?_
      apply Exists.intro
      refine ⟨fun w' K hK => ?_, ?_⟩
      (focus
        go_simp
        exact hK)
      refine os_moveg rfl rfl rfl (Nat.le_of_ble_eq_true rfl) ?_
      apply Exists.intro
      refine ⟨fun w' K hK => ?_, ?_⟩
      (focus
        go_simp
        exact hK)
      refine os_moveg rfl rfl rfl (Nat.le_of_ble_eq_true rfl) ?_
      apply Exists.intro
      refine ⟨fun w' K hK => ?_, ?_⟩
      (focus
        go_simp
        exact hK)
      refine os_moveg rfl rfl rfl (Nat.le_of_ble_eq_true rfl) ?_
      apply Exists.intro
      refine ⟨fun w' K hK => ?_, ?_⟩
      (focus
        go_simp
        exact hK)
      refine os_yldg hS0 rfl rfl rfl (Nat.le_of_ble_eq_true rfl) ?_
      apply Exists.intro
      refine ⟨fun w' hS' K hK => ?_, ?_⟩
      (focus
        obtain ⟨hcc, hff⟩ := bcellM (Fr.undr hS')
        clear hS'
        go_simp
        exact hK)
      refine os_run rfl rfl (fun K hK => ?_)
      go_wp2_with fail
      refine (Nonce_any _ v HW.out).mono ?_
      rintro e w5 ⟨rfl, hb5⟩
      replace Y := Lib.hid (Y.out.bel hb5)
      go_wp2_with fail
      refine ⟨fun _ _ h => Fr.tr h ((Fr.of_below hb5)), ?_⟩
      replace hS0 := Fr.tr hS0 ((Fr.of_below hb5))
      refine os_run rfl rfl (fun K hK => ?_)
      go_wp2_with fail
      refine (rNonce_any _ v HW.out).mono ?_
      rintro e w6 ⟨rfl, hb6⟩
      replace Y := Lib.hid (Y.out.bel hb6)
      go_wp2_with fail
      refine ⟨fun _ _ h => Fr.tr h ((Fr.of_below hb6)), ?_⟩
      replace hS0 := Fr.tr hS0 ((Fr.of_below hb6))
      refine os_neq_t 36 (.tmp 46) (.tmp 52) _ 12 (nonceN v) (nonceN v) rfl rfl rfl rfl rfl rfl (uN.out) (by kernel_rfl) (nonceN_len v) (nonceN_len v) (true) (by simp) ⟨_, rfl, ?_⟩
      refine os_move rfl rfl rfl (Nat.le_of_ble_eq_true rfl) ?_
      apply Exists.intro
      refine ⟨fun w' K hK => ?_, ?_⟩
      (focus
        go_simp
        exact hK)
      refine os_done ⟨rfl, ?_⟩
      go_wp2_with fail
      have hS1 := hS0.undr
      rw [HM.out] at hS1
      refine ⟨⟨k + 1, A2, n2, c2, L2, by have := HK.out; omega, by have := HK.out; omega, by congr 1, Lib.hid ⟨Y.out, by have := HL2.out; have := I.out.len; omega, I.out.fr.tr hS1, I.out.lo'⟩⟩, by simp [intOf]; have := HK.out; omega⟩
    · have hrelx : ¬ (k < n ∧ k < 200) := hlt
      by_cases hkn3 : k < n
      · have hkI : (k : Int) < (n : Int) := by omega
        have hkI2 : ¬ (k : Int) < 200 := by omega
        clear hk0 hrelx
        go_wp2_with fail
        go_loopw [6] (fun v w3 => ∃ j : Nat, j ≤ n ∧ j ≤ 200 ∧ v = .int .i64 (j : Nat) ∧ Hid (PlayI w w3 lo b m g A1 n1 c1 L k)) (fun v _ => 200 - (intOf v).toNat)
        case atStart => exact ⟨0, Nat.zero_le _, Nat.zero_le _, rfl, I⟩
        case round =>
          clear I
          obtain ⟨j, hjn, hj2, rfl, I⟩ := hrel
          have hj0 : (0 : Int) ≤ (j : Int) := by omega
          by_cases hlt2 : j < n
          · by_cases hlt3 : j < 200
            · have hjI : (j : Int) < (n : Int) := by omega
              have hjI2 : (j : Int) < 200 := by omega
              have HJ : Hid (j < n ∧ j < 200) := ⟨hlt2, hlt3⟩
              obtain ⟨b0, o, hA, hb0, hwv, hfit, hc⟩ := H.out.at_ j (by have := HPL.out; omega)
              obtain ⟨⟨kd, v, t, s⟩, hp⟩ : ∃ p, ps[j]'(by have := HPL.out; omega) = p := ⟨_, rfl⟩
              rw [hp] at hwv hfit hc
              subst hA
              have q : ∀ i u, (OpQ.cells ⟨kd, v, t, s⟩)[i]? = some u → wr.cell? ⟨b0, o + j * 4 + i, none⟩ = some u := fun i u hu => cell_fr (hc i u hu) I.out.fr (Nat.not_le_of_lt hb0)
              have q0 : wr.cell? ⟨b0, o + j * 4, none⟩ = some (.int .i64 kd) := q 0 _ rfl
              have q1 : wr.cell? ⟨b0, o + j * 4 + 1, none⟩ = some (.int .i64 v) := q 1 _ rfl
              have q2 : wr.cell? ⟨b0, o + j * 4 + 2, none⟩ = some (.string t) := q 2 _ rfl
              have q3 : wr.cell? ⟨b0, o + j * 4 + 3, none⟩ = some (.string s) := q 3 _ rfl
              have HF := Lib.hid hfit
              clear hc hp q hb0 hlt3 hwv hfit
              go_wp2_with fail
              refine (alike_any I.out.both kd v t s HF.out).mono ?_
              rintro e w4 ⟨rfl, hb4⟩
              have I4 := Lib.hid (I.out.bel hb4)
              clear hb4
              go_wp2_with fail
              go_roundw
              case rel => exact ⟨j + 1, by have := HJ.out; omega, by have := HJ.out; omega, by go_num, I4⟩
              case measure => simp [intOf]; have := HJ.out; omega
            · have hjI : (j : Int) < (n : Int) := by omega
              have hjI2 : ¬ (j : Int) < 200 := by omega
              go_wp2_with fail
              refine (known_any _).mono ?_
              rintro e w4 ⟨rfl, hb4⟩
              go_wp2_with fail
              go_ret
              exact ⟨rfl, (I.out.bel hb4).fr.to_below (fun i hi e => by omega)⟩
          · have hjI : ¬ (j : Int) < (n : Int) := by omega
            go_wp2_with fail
            refine (known_any _).mono ?_
            rintro e w4 ⟨rfl, hb4⟩
            go_wp2_with fail
            go_ret
            exact ⟨rfl, (I.out.bel hb4).fr.to_below (fun i hi e => by omega)⟩
      · have hkI : ¬ (k : Int) < (n : Int) := by omega
        clear hk0 hrelx
        go_wp2_with fail
        go_loopw [6] (fun v w3 => ∃ j : Nat, j ≤ n ∧ j ≤ 200 ∧ v = .int .i64 (j : Nat) ∧ Hid (PlayI w w3 lo b m g A1 n1 c1 L k)) (fun v _ => 200 - (intOf v).toNat)
        case atStart => exact ⟨0, Nat.zero_le _, Nat.zero_le _, rfl, I⟩
        case round =>
          clear I
          obtain ⟨j, hjn, hj2, rfl, I⟩ := hrel
          have hj0 : (0 : Int) ≤ (j : Int) := by omega
          by_cases hlt2 : j < n
          · by_cases hlt3 : j < 200
            · have hjI : (j : Int) < (n : Int) := by omega
              have hjI2 : (j : Int) < 200 := by omega
              have HJ : Hid (j < n ∧ j < 200) := ⟨hlt2, hlt3⟩
              obtain ⟨b0, o, hA, hb0, hwv, hfit, hc⟩ := H.out.at_ j (by have := HPL.out; omega)
              obtain ⟨⟨kd, v, t, s⟩, hp⟩ : ∃ p, ps[j]'(by have := HPL.out; omega) = p := ⟨_, rfl⟩
              rw [hp] at hwv hfit hc
              subst hA
              have q : ∀ i u, (OpQ.cells ⟨kd, v, t, s⟩)[i]? = some u → wr.cell? ⟨b0, o + j * 4 + i, none⟩ = some u := fun i u hu => cell_fr (hc i u hu) I.out.fr (Nat.not_le_of_lt hb0)
              have q0 : wr.cell? ⟨b0, o + j * 4, none⟩ = some (.int .i64 kd) := q 0 _ rfl
              have q1 : wr.cell? ⟨b0, o + j * 4 + 1, none⟩ = some (.int .i64 v) := q 1 _ rfl
              have q2 : wr.cell? ⟨b0, o + j * 4 + 2, none⟩ = some (.string t) := q 2 _ rfl
              have q3 : wr.cell? ⟨b0, o + j * 4 + 3, none⟩ = some (.string s) := q 3 _ rfl
              have HF := Lib.hid hfit
              clear hc hp q hb0 hlt3 hwv hfit
              go_wp2_with fail
              refine (alike_any I.out.both kd v t s HF.out).mono ?_
              rintro e w4 ⟨rfl, hb4⟩
              have I4 := Lib.hid (I.out.bel hb4)
              clear hb4
              go_wp2_with fail
              go_roundw
              case rel => exact ⟨j + 1, by have := HJ.out; omega, by have := HJ.out; omega, by go_num, I4⟩
              case measure => simp [intOf]; have := HJ.out; omega
            · have hjI : (j : Int) < (n : Int) := by omega
              have hjI2 : ¬ (j : Int) < 200 := by omega
              go_wp2_with fail
              refine (known_any _).mono ?_
              rintro e w4 ⟨rfl, hb4⟩
              go_wp2_with fail
              go_ret
              exact ⟨rfl, (I.out.bel hb4).fr.to_below (fun i hi e => by omega)⟩
          · have hjI : ¬ (j : Int) < (n : Int) := by omega
            go_wp2_with fail
            refine (known_any _).mono ?_
            rintro e w4 ⟨rfl, hb4⟩
            go_wp2_with fail
            go_ret
            exact ⟨rfl, (I.out.bel hb4).fr.to_below (fun i hi e => by omega)⟩
end Go.Proofs.Ytglbhoamknjdeaa
