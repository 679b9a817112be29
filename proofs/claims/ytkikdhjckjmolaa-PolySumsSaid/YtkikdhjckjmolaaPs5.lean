/- The reference's times. -/
import Derived.Test.YtkikdhjckjmolaaPs4
namespace Go.Proofs.Ytkikdhjckjmolaa
open Go.RowKit
attribute [local go_sem] yld yldUpon_value

theorem dg_replicate (n : Nat) : dg (List.replicate n 0) = List.replicate n (.int .i64 0) := by simp [dg]
theorem make_ints {w : World} {ops : Array Oper} {rest : List Oper} {o : Oper} {a : Act} {Q : Exit → Act → World → Prop} (hgd : o.guard = none) (l c : Operand) (hop : o.op = .makeSlice 49 l c)
    (base : Nat) (L C : Int) (n : Nat) (hl : a.eval l = .int .i64 L) (hc : a.eval c = .int .i64 C) (hL : L = (n : Int)) (hC : C = (n : Int)) (hn : n ≤ 1000000) (hb : base ≤ w.heap.size)
    (hK : ∀ g w', Hid (g = w.heap.size) → base ≤ g → w'.ownsRow base 3 1 (.slice (some ⟨g, 0, none⟩) n n) n (dg (List.replicate n 0)) → w.grownBy w' none → wpList Try.prog ops Q rest (a.put o.dst (.slice (some ⟨g, 0, none⟩) n n)) w') :
    wpList Try.prog ops Q (o :: rest) a w := by
  obtain ⟨i0, hi, hz0, hz1, hz2⟩ := info_parts Try.infoZ
  refine wpList_make_full w hgd l c 49 hop base 3 i0 (.int .i64 0) 1 Try.underlying49 hi hz0 hz1 .i64 .i64 L C n hl hc hL hC (by rw [hz2]; omega) (by simp only [maxLen]; omega) hb ?_
  intro w' h1 h2
  refine hK _ w' (Lib.hid rfl) hb ?_ h2
  rw [dg_replicate]
  have e : (madeCells (Value.int .i64 0).cells (n * 1)).toList = List.replicate n (.int .i64 0) := by
    rw [Nat.mul_one]; exact toList_madeCells_one _ _
  rw [e] at h1
  exact h1
/-- where times stands: i rows, and k of the next -/
structure TiI (w wr : World) (g N i k m : Nat) (a b r : List Nat) : Prop where
  own : wr.ownsRow w.heap.size 3 1 (.slice (some ⟨g, 0, none⟩) N N) N (dg r)
  bel : Below w.heap.size w wr
  le : ∀ x ∈ r, x ≤ 9 * (i * m + k)
  val : dgval r = dgval (a.take i) * dgval b + a.getD i 0 * 4 ^ i * dgval (b.take k)
  ge : w.heap.size ≤ g
theorem TiI.rlen {w wr : World} {g N i k m : Nat} {a b r : List Nat} (h : TiI w wr g N i k m a b r) : r.length = N := by have := h.own.1; rw [dg_len] at this; omega
theorem TiI.step {w wr : World} {g N i k m x y e v : Nat} {a b r : List Nat} (h : TiI w wr g N i k m a b r) (hx : a.getD i 0 = x) (hy : b.getD k 0 = y) (hx3 : x ≤ 3) (hy3 : y ≤ 3) (hj : i + k < N) (he : r.getD (i + k) 0 = e) (hv : e + x * y = v) :
    TiI w (wr.setCell ⟨g, i + k, none⟩ (.int .i64 (v : Int))) g N i (k + 1) m a b (r.set (i + k) v) := by
  have hl := h.rlen
  have hs := h.own.stored (i + k) (.int .i64 (v : Int))
  have hjr : i + k < r.length := by omega
  have hee : e = r[i + k] := by rw [← he]; simp [List.getD, hjr]
  have hxy : x * y ≤ 9 := Nat.mul_le_mul hx3 hy3
  refine ⟨by rw [← dg_set]; exact hs.1, h.bel.grown hs.2 h.bel.size (fun j hj => by injection hj with hj; rw [← hj]; exact h.ge), ?_, ?_, h.ge⟩
  · intro z hz
    rcases List.mem_or_eq_of_mem_set hz with hz | hz
    · have := h.le z hz; omega
    · have := h.le r[i + k] (List.getElem_mem hjr); omega
  · rw [← hv, hee, dgval_set r (i + k) hjr, h.val, dgval_take_succ, hx, hy, Nat.mul_add, Nat.pow_add, Nat.add_assoc]
    congr 2
    ac_rfl
theorem TiI.next {w wr : World} {g N i m : Nat} {a b r : List Nat} (h : TiI w wr g N i m m a b r) (hb : b.length = m) : TiI w wr g N (i + 1) 0 m a b r := by
  refine ⟨h.own, h.bel, fun z hz => by have := h.le z hz; rw [Nat.add_mul, Nat.one_mul]; omega, ?_, h.ge⟩
  rw [h.val, show b.take m = b from List.take_of_length_le (by omega), dgval_take_succ, Nat.add_mul]
  simp only [List.take_zero, dgval, Nat.mul_zero, Nat.add_zero]
  congr 1
  ac_rfl
set_option maxRecDepth 100000 in
set_option maxHeartbeats 4000000 in
theorem rTimes_any {w : World} {F G : Nat → Prop} {A B : Option Addr} {n c m d : Nat} {a b : List Nat} (h : Dg w F A n c a) (h' : Dg w G B m d b) (hn : n ≤ 1000) (hm : m ≤ 1000) (ha : ∀ x ∈ a, x ≤ 3) (hb : ∀ x ∈ b, x ≤ 3) :
    Calls Try.prog 30 #[.slice A n c, .slice B m d] w fun e w' => ∃ A' n' c' r, e = .returned (.slice A' n' c') ∧ w'.ownsRow w.heap.size 3 1 (.slice A' n' c') n' (dg r) ∧ Below w.heap.size w w' ∧ D4 r ∧ dgval r = dgval a * dgval b ∧ n' ≤ n + m + 32 := by
  have H := Lib.hid h; have H' := Lib.hid h'; have HA := Lib.hid ha; have HB := Lib.hid hb
  have HL := Lib.hid h.len; have HL' := Lib.hid h'.len
  clear h h' ha hb
  obtain ⟨N, hN⟩ : ∃ N, n + m = N := ⟨_, rfl⟩
  have hNI : (n : Int) + (m : Int) = (N : Int) := by omega
  have hNb : N ≤ 2000 := by omega
  have HN := Lib.hid hN
  have Hnm : Hid (n ≤ 1000 ∧ m ≤ 1000) := ⟨hn, hm⟩
  clear hN
  go_enter Try.func30, Try.ntmps30
  go_wp2_with (first
    | (refine make_ints rfl (.tmp 12) (.tmp 12) rfl w.heap.size (N : Int) (N : Int) N rfl rfl rfl rfl (by omega) (Nat.le_refl _) ?_
       intro g w1 hg hge ho hgr
       have I1 : Hid (TiI w w1 g N 0 0 m a b (List.replicate N 0)) := ⟨ho, (Below.refl _ _).grown hgr (Nat.le_refl _) (fun j hj => by cases hj), fun x hx => by rw [(List.mem_replicate.1 hx).2]; exact Nat.zero_le _, by simp [dgval_replicate, dgval], hge⟩
       clear hg hge ho hgr))
  go_loopw [6] (fun z wr => ∃ (i : Nat) (r : List Nat), i ≤ n ∧ z = .int .i64 (i : Nat) ∧ Hid (TiI w wr g N i 0 m a b r)) (fun z _ => n - (intOf z).toNat)
  case atStart => exact ⟨0, _, Nat.zero_le _, rfl, I1⟩
  case round =>
    clear I1
    obtain ⟨i, r, hi, rfl, I⟩ := hrel
    have hi0 : (0 : Int) ≤ (i : Int) := by omega
    by_cases hlt : i < n
    · have hiI : (i : Int) < (n : Int) := by omega
      have HI := Lib.hid hlt
      obtain ⟨ba, oa, rfl, _, ca⟩ := H.out.at_ i (by have := HL.out; omega)
      obtain ⟨x, hx⟩ : ∃ x, a.getD i 0 = x := ⟨_, rfl⟩
      have hxe : a[i]'(by have := HL.out; omega) = x := by rw [← hx]; simp [List.getD, show i < a.length by have := HL.out; omega]
      rw [hxe] at ca
      have CA := Lib.hid ca
      have hx3 : Hid (x ≤ 3) := by rw [← hx]; exact getD_leD HA.out i
      have HX := Lib.hid hx
      clear hxe ca hx hlt
      go_wp2_with fail
      go_loopw [7] (fun z w2 => ∃ (k : Nat) (r : List Nat), k ≤ m ∧ z = .int .i64 (k : Nat) ∧ Hid (TiI w w2 g N i k m a b r)) (fun z _ => m - (intOf z).toNat)
      case atStart => exact ⟨0, r, Nat.zero_le _, rfl, I⟩
      case round =>
        clear I
        obtain ⟨k, r, hk, rfl, I⟩ := hrel
        have hk0 : (0 : Int) ≤ (k : Int) := by omega
        by_cases hkm : k < m
        · have hkI : (k : Int) < (m : Int) := by omega
          have HK := Lib.hid hkm
          obtain ⟨bb, ob, rfl, _, cb⟩ := H'.out.at_ k (by have := HL'.out; omega)
          obtain ⟨y, hy⟩ : ∃ y, b.getD k 0 = y := ⟨_, rfl⟩
          have hye : b[k]'(by have := HL'.out; omega) = y := by rw [← hy]; simp [List.getD, show k < b.length by have := HL'.out; omega]
          rw [hye] at cb
          have hy3 : Hid (y ≤ 3) := by rw [← hy]; exact getD_leD HB.out k
          have HY := Lib.hid hy
          obtain ⟨j, hj⟩ : ∃ j, i + k = j := ⟨_, rfl⟩
          have hjI : (i : Int) + (k : Int) = (j : Int) := by omega
          have hjN : j < N := by have := HI.out; have := HN.out; omega
          have hjN2 : (j : Int) < (N : Int) := by omega
          have hj0 : (0 : Int) ≤ (j : Int) := by omega
          have hjw : IntKind.i64.wrap (j : Int) = (j : Int) := by rw [IntKind.wrap_i64]; omega
          have hrl := I.out.rlen
          obtain ⟨e, he⟩ : ∃ e, r.getD j 0 = e := ⟨_, rfl⟩
          have hee : r[j]'(by omega) = e := by rw [← he]; simp [List.getD, show j < r.length by omega]
          have heb : e ≤ 9 * (i * m + k) := by rw [← hee]; exact I.out.le _ (List.getElem_mem _)
          have hib : i * m ≤ 1000 * 1000 := Nat.mul_le_mul (by have := HI.out; have := Hnm.out; omega) Hnm.out.2
          obtain ⟨p, hp⟩ : ∃ p, x * y = p := ⟨_, rfl⟩
          have hp9 : p ≤ 9 := by rw [← hp]; exact Nat.mul_le_mul hx3.out hy3.out
          have hpI : (x : Int) * (y : Int) = (p : Int) := by rw [← hp]; exact (Int.natCast_mul x y).symm
          have hpw : IntKind.i64.wrap (p : Int) = (p : Int) := by rw [IntKind.wrap_i64]; omega
          obtain ⟨v, hv⟩ : ∃ v, e + p = v := ⟨_, rfl⟩
          have hvI : (e : Int) + (p : Int) = (v : Int) := by omega
          have hvw : IntKind.i64.wrap (v : Int) = (v : Int) := by rw [IntKind.wrap_i64]; have := Hnm.out; omega
          have co : wr.cell? ⟨g, j, none⟩ = some (.int .i64 (e : Int)) := by
            rw [I.out.own.cellAt j (by omega), dg_get (by omega), hee]
          have fo := I.out.own.frozenAt j
          have ca := cell_bel CA.out I.out.bel
          have cb2 := cell_bel cb I.out.bel
          have la := block_lt_of ca
          have lb := block_lt_of cb2
          have lo := block_lt_of co
          have S2 := Lib.hid (I.out.step (e := e) (v := v) HX.out HY.out hx3.out hy3.out (by omega) (by rw [hj]; exact he) (by rw [hp]; first | done | exact hv))
          rw [hj] at S2
          have HJ := Lib.hid hj
          clear hy hye cb hj hrl he hee heb hib hp hv hkm
          go_wp2_with fail
          refine wp_calm ?_
          refine wp_region_os (fun _ w' => Below (wr).drew.heap.size (wr).drew w') [9, 13, 17] (.move 0 (.move 1 (.move 2 (.move 3 (.move 4 (.move 5 (.move 6 (.move 7 (.move 8 (.take 9 (.move 10 (.move 11 (.move 12 (.take 13 (.move 14 (.move 15 (.move 16 (.take 17 (.move 18 (.move 19 (.move 20 (.run 21 [] .done)))))))))))))))))))))) (by kernel_rfl) (by kernel_rfl) (fun _ _ _ _ _ h => nomatch h.1) ?_
          have hS0 : Below (wr).drew.heap.size (wr).drew (wr).drew := Below.refl _ _
          refine os_move rfl rfl rfl (Nat.le_of_ble_eq_true rfl) ?_
          apply Exists.intro
          refine ⟨fun w' K hK => ?_, ?_⟩
          (focus
            go_simp
            exact hK)
          refine os_move rfl rfl rfl (Nat.le_of_ble_eq_true rfl) ?_
          apply Exists.intro
          refine ⟨fun w' K hK => ?_, ?_⟩
          (focus
            go_simp
            exact hK)
          refine os_move rfl rfl rfl (Nat.le_of_ble_eq_true rfl) ?_
          apply Exists.intro
          refine ⟨fun w' K hK => ?_, ?_⟩
          (focus
            go_simp
            exact hK)
          refine os_move rfl rfl rfl (Nat.le_of_ble_eq_true rfl) ?_
          apply Exists.intro
          refine ⟨fun w' K hK => ?_, ?_⟩
          (focus
            go_simp
            exact hK)
          refine os_move rfl rfl rfl (Nat.le_of_ble_eq_true rfl) ?_
          apply Exists.intro
          refine ⟨fun w' K hK => ?_, ?_⟩
          (focus
            go_simp
            exact hK)
          refine os_move rfl rfl rfl (Nat.le_of_ble_eq_true rfl) ?_
          apply Exists.intro
          refine ⟨fun w' K hK => ?_, ?_⟩
          (focus
            go_simp
            exact hK)
          refine os_move rfl rfl rfl (Nat.le_of_ble_eq_true rfl) ?_
          apply Exists.intro
          refine ⟨fun w' K hK => ?_, ?_⟩
          (focus
            go_simp
            exact hK)
          refine os_move rfl rfl rfl (Nat.le_of_ble_eq_true rfl) ?_
          apply Exists.intro
          refine ⟨fun w' K hK => ?_, ?_⟩
          (focus
            go_simp
            exact hK)
          refine os_move rfl rfl rfl (Nat.le_of_ble_eq_true rfl) ?_
          apply Exists.intro
          refine ⟨fun w' K hK => ?_, ?_⟩
          (focus
            go_simp
            exact hK)
          refine os_yld hS0 rfl rfl rfl (Nat.le_of_ble_eq_true rfl) ?_
          apply Exists.intro
          refine ⟨fun w' hS' K hK => ?_, ?_⟩
          (focus
            obtain ⟨hcc, hff⟩ := bcellB (Below.undr hS')
            clear hS'
            go_simp
            exact hK)
          refine os_move rfl rfl rfl (Nat.le_of_ble_eq_true rfl) ?_
          apply Exists.intro
          refine ⟨fun w' K hK => ?_, ?_⟩
          (focus
            go_simp
            exact hK)
          refine os_move rfl rfl rfl (Nat.le_of_ble_eq_true rfl) ?_
          apply Exists.intro
          refine ⟨fun w' K hK => ?_, ?_⟩
          (focus
            go_simp
            exact hK)
          refine os_move rfl rfl rfl (Nat.le_of_ble_eq_true rfl) ?_
          apply Exists.intro
          refine ⟨fun w' K hK => ?_, ?_⟩
          (focus
            go_simp
            exact hK)
          refine os_yld hS0 rfl rfl rfl (Nat.le_of_ble_eq_true rfl) ?_
          apply Exists.intro
          refine ⟨fun w' hS' K hK => ?_, ?_⟩
          (focus
            obtain ⟨hcc, hff⟩ := bcellB (Below.undr hS')
            clear hS'
            go_simp
            exact hK)
          refine os_move rfl rfl rfl (Nat.le_of_ble_eq_true rfl) ?_
          apply Exists.intro
          refine ⟨fun w' K hK => ?_, ?_⟩
          (focus
            go_simp
            exact hK)
          refine os_move rfl rfl rfl (Nat.le_of_ble_eq_true rfl) ?_
          apply Exists.intro
          refine ⟨fun w' K hK => ?_, ?_⟩
          (focus
            go_simp
            exact hK)
          refine os_move rfl rfl rfl (Nat.le_of_ble_eq_true rfl) ?_
          apply Exists.intro
          refine ⟨fun w' K hK => ?_, ?_⟩
          (focus
            go_simp
            exact hK)
          refine os_yld hS0 rfl rfl rfl (Nat.le_of_ble_eq_true rfl) ?_
          apply Exists.intro
          refine ⟨fun w' hS' K hK => ?_, ?_⟩
          (focus
            obtain ⟨hcc, hff⟩ := bcellB (Below.undr hS')
            clear hS'
            go_simp
            exact hK)
          refine os_move rfl rfl rfl (Nat.le_of_ble_eq_true rfl) ?_
          apply Exists.intro
          refine ⟨fun w' K hK => ?_, ?_⟩
          (focus
            go_simp
            exact hK)
          refine os_move rfl rfl rfl (Nat.le_of_ble_eq_true rfl) ?_
          apply Exists.intro
          refine ⟨fun w' K hK => ?_, ?_⟩
          (focus
            go_simp
            exact hK)
          refine os_move rfl rfl rfl (Nat.le_of_ble_eq_true rfl) ?_
          apply Exists.intro
          refine ⟨fun w' K hK => ?_, ?_⟩
          (focus
            go_simp
            exact hK)
          refine os_run rfl rfl (fun K hK => ?_)
          go_wp2_with fail
          refine ⟨fun _ hk => absurd hk List.not_mem_nil, ?_⟩
          refine os_done ⟨rfl, ?_⟩
          go_wp2_with fail
          have I2 := Lib.hid ((Below.dr1 (wr.setCell ⟨g, j, none⟩ (.int .i64 (v : Int)))))
          have S3 : Hid (TiI w (wr.setCell ⟨g, j, none⟩ (.int .i64 (v : Int))).drew g N i (k + 1) m a b (r.set j v)) :=
            ⟨own_fr S2.out.own (Fr.of_below (M := NoB) I2.out) (fun _ _ e => e), Below.tr S2.out.bel I2.out, S2.out.le, S2.out.val, S2.out.ge⟩
          have hmb : m ≤ 1000 := Hnm.out.2
          clear S2 I2 I hm
          go_roundw
          case rel => exact ⟨k + 1, r.set j v, by have := HK.out; omega, by go_num, S3⟩
          case measure => simp [intOf]; have := HK.out; omega
        · have hkI : ¬ (k : Int) < (m : Int) := by omega
          have hkm2 : k = m := by omega
          have I2 : Hid (TiI w wr g N (i + 1) 0 m a b r) := by rw [hkm2] at I; exact I.out.next HL'.out
          have hnb : n ≤ 1000 := Hnm.out.1
          clear I hkm2 hn
          go_wp2_with fail
          go_roundw
          case rel => exact ⟨i + 1, r, by have := HI.out; omega, by go_num, I2⟩
          case measure => simp [intOf]; have := HI.out; omega
    · have hiI : ¬ (i : Int) < (n : Int) := by omega
      have hin : i = n := by omega
      have hall : Hid (dgval r = dgval a * dgval b) := by
        show _ = _
        rw [I.out.val, hin, show a.take n = a from List.take_of_length_le (by have := HL.out; omega)]
        simp [dgval]
      have hle : Hid (∀ x ∈ r, x ≤ 1152921504606846976) := fun z hz => by
        have h1 := I.out.le z hz
        have h2 : i * m ≤ 1000 * 1000 := Nat.mul_le_mul (by have := Hnm.out; omega) Hnm.out.2
        omega
      have O := Lib.hid I.out.own; have Bw := Lib.hid I.out.bel
      clear I hin
      go_wp2_with fail
      refine (carried_any (Dg.of_own O.out) (fun _ h => h.2) (by omega) hle.out).mono ?_
      rintro e w2 ⟨A2, n2, c2, r2, rfl, ho2, hb2, hd2, hv2, hn2⟩
      have O2 := Lib.hid ho2; have B2 := Lib.hid hb2; have D2 := Lib.hid hd2; have V2 := Lib.hid (hv2.trans hall.out); have N2 := Lib.hid hn2
      clear ho2 hb2 hd2 hv2 hn2
      go_wp2_with fail
      go_ret
      exact ⟨A2, n2, c2, r2, rfl, own_mono O2.out Bw.out.size, Below.tr Bw.out B2.out, D2.out, V2.out, by have := N2.out; have := HN.out; omega⟩
end Go.Proofs.Ytkikdhjckjmolaa
