/- ChachaStream's walk. -/
import Derived.Test.YtobbcnajmocpfaaCh12
namespace Go.Proofs.Ytobbcnajmocpfaa
open Go.RowKit
attribute [local go_sem] yld yldUpon_value

/-- a long load taken first in a region that draws -/
theorem os_load_mid {P : Program} {ops : Array Oper} {Q : Exit → Act → World → Prop} {S : Nat → World → Prop} {i d : Nat} {r : OS} {o : Oper} {a : Act} {w : World} (T : TypeId) (x : Operand) (b off : Nat) (cs : List Value) (D : TypeDesc)
    (hS : S i w) (ho : ops.toList[i]? = some o) (hw : Region.wanted o (yielded ops a.tmps) = true) (hop : o.op = .load T x) (hd : o.dst = some d) (hx : a.eval x = .pointer (some ⟨b, off, none⟩))
    (hu : P.underlying T = some D) (hrow : D.isRow = true) (hi : (P.info? T).map (·.size) = some cs.length) (hr : ∀ w', S i w' → w'.rangeAt b off cs)
    (h : ∃ a1, a.put (some d) (.agg cs.toArray) = a1 ∧ wpOS P ops Q S r a1 w) : wpOS P ops Q S (.take i r) a w := by
  obtain ⟨a1, ha, h⟩ := h
  refine ⟨hS, o, .agg cs.toArray, by simpa using ho, .inl ⟨hw, fun w' hS' => ?_⟩, by rw [hd, ha]; exact h⟩
  unfold execOp
  simp only [hop, hx, Instr.loadAt, Instr.sureAddr, Sem.run_bind, Sem.run_pure, Result.andThen_ok, run_loadVar_mid w' b off T cs D (hr w' hS') hu hrow hi]
/-- make of so many bytes, at one operation -/
theorem wp_make_bytes {w : World} {o : Oper} {a : Act} {K : Act → World → Prop} {Q : Exit → Act → World → Prop} (l c : Operand) (hop : o.op = .makeSlice 31 l c)
    (base : Nat) (L C : Int) (n : Nat) (hl : a.eval l = .int .i64 L) (hc : a.eval c = .int .i64 C) (hL : L = (n : Int)) (hC : C = (n : Int)) (hn : n ≤ 140737488355328) (hb : base ≤ w.heap.size)
    (hK : ∀ g w', Hid (g = w.heap.size) → w'.ownsRow base 5 1 (.slice (some ⟨g, 0, none⟩) n n) n (bs (List.replicate n 0)) → w.grownBy w' none → K (a.put o.dst (.slice (some ⟨g, 0, none⟩) n n)) w') :
    o.wp Try.prog a w K Q := by
  obtain ⟨i0, hi, hz0, hz1, hz2⟩ := info_parts Try.infoB
  obtain ⟨w', hrun, r1, r2⟩ := run_make_full (P := Try.prog) w base 31 5 i0 (.int .u8 0) 1 Try.underlying31 hi hz0 hz1 .i64 .i64 n (by rw [hz2]; omega) (by simp only [maxLen]; omega) hb
  subst hL
  subst hC
  have e : (madeCells (Value.int .u8 0).cells (n * 1)).toList = List.replicate n (.int .u8 0) := by
    rw [Nat.mul_one]; exact toList_madeCells_one _ _
  rw [e, ← bs_replicate] at r1
  unfold Oper.wp execOp
  simp only [hop, hl, hc, Sem.run_bind, hrun, Result.andThen_ok, Sem.run_pure]
  exact hK _ _ (Lib.hid rfl) r1 r2

set_option maxRecDepth 100000 in
set_option maxHeartbeats 4000000 in
theorem ChachaStream_any (w : World) (key nonce : List UInt8) (ctr : BitVec 32) (hk : key.length = 32) (hn : nonce.length = 12) (many : Int) :
    Calls Try.prog 7 #[.agg (bs key).toArray, .int .u32 (wv ctr), .agg (bs nonce).toArray, .int .i64 many] w fun e w' => e = .returned (.bool true) ∧ Below w.heap.size w w' := by
  have Hk := Lib.hid hk; have Hn := Lib.hid hn
  have u1 := Lib.hid Try.underlying23
  have u2 := Lib.hid Try.underlying26
  have i1 : Hid ((Try.prog.info? 23).map (·.size) = some (bs key).length) := by rw [bs_length, hk]; exact Try.sizeK
  have i2 : Hid ((Try.prog.info? 26).map (·.size) = some (bs nonce).length) := by rw [bs_length, hn]; exact Try.sizeN
  clear hk hn
  have hK2 := Lib.hid (range_block (heap_alloc2_old w (.cells (bs key).toArray 23) (.cells (bs nonce).toArray 26)))
  have hN2 := Lib.hid (range_block (heap_alloc2_new w (.cells (bs key).toArray 23) (.cells (bs nonce).toArray 26)))
  have hB2 : Hid (Below w.heap.size w ((w.alloc (.cells (bs key).toArray 23)).alloc (.cells (bs nonce).toArray 26))) := ((Below.refl _ _).alloc (Nat.le_refl _) _).alloc (by simp) _
  have hz2 : Hid (((w.alloc (.cells (bs key).toArray 23)).alloc (.cells (bs nonce).toArray 26)).heap.size = w.heap.size + 2) := by show _ = _; simp
  go_enter Try.func7, Try.ntmps7
  go_wp2_with fail
  generalize ((w.alloc (.cells (bs key).toArray 23)).alloc (.cells (bs nonce).toArray 26)) = w2 at hK2 hN2 hB2 hz2 ⊢
  refine (Pick_any many 301 w2 (by decide)).mono ?_
  rintro e w3 ⟨rfl, rfl⟩
  obtain ⟨n, hn, hn2⟩ : ∃ n : Nat, (if (301 : Int) < 1 then 0 else many % 301) = (n : Int) ∧ n < 301 := ⟨(many % 301).toNat, by rw [if_neg (by decide)]; omega, by omega⟩
  rw [hn]
  have Hn2 := Lib.hid hn2
  clear hn hn2
  go_wp2_with fail
  have kd : Hid (w2.drew.rangeAt w.heap.size 0 (bs key)) := hK2.out
  have nd : Hid (w2.drew.rangeAt (w.heap.size + 1) 0 (bs nonce)) := hN2.out
  have Bd : Hid (Below w.heap.size w w2.drew) := ⟨hB2.out.os, hB2.out.tape, hB2.out.output, hB2.out.size, hB2.out.block⟩
  have zd : Hid (w2.drew.heap.size = w.heap.size + 2) := hz2.out
  refine wp_calm ?_
  refine wp_region_os (fun i w' => match i with
    | 0 => w'.rangeAt w.heap.size 0 (bs key)
    | 2 => w'.rangeAt (w.heap.size + 1) 0 (bs nonce)
    | _ => True) [0, 2]
    (.take 0 (.move 1 (.take 2 (.move 3 (.run 4 [0, 2] (.run 5 [] (.move 6 .done))))))) (by kernel_rfl) (by kernel_rfl) (fun _ _ _ _ _ h => nomatch h.1) ?_
  refine os_load_mid 23 (.tmp 4) w.heap.size 0 (bs key) _ kd.out rfl rfl rfl rfl rfl u1.out rfl i1.out (fun w' h => h) ⟨_, rfl, ?_⟩
  refine os_move rfl rfl rfl (Nat.le_of_ble_eq_true rfl) ?_
  apply Exists.intro
  refine ⟨fun w' K hK => ?_, ?_⟩
  (focus
    go_simp
    exact hK)
  refine os_load_mid 26 (.tmp 6) (w.heap.size + 1) 0 (bs nonce) _ nd.out rfl rfl rfl rfl rfl u2.out rfl i2.out (fun w' h => h) ⟨_, rfl, ?_⟩
  refine os_move rfl rfl rfl (Nat.le_of_ble_eq_true rfl) ?_
  apply Exists.intro
  refine ⟨fun w' K hK => ?_, ?_⟩
  (focus
    go_simp
    exact hK)
  refine os_run rfl rfl (fun K hK => ?_)
  refine wp_make_bytes (.tmp 17) (.tmp 17) rfl w2.drew.heap.size (n : Int) (n : Int) n rfl rfl rfl rfl (by have := Hn2.out; omega) (Nat.le_refl _) ?_
  intro g3 w3 Hg3 hown3 hg3
  have F3 : Hid (Fr NoB w2.drew w3) := (Fr.of_grown hg3).mono (fun j _ h => by cases h)
  have k3 : Hid (w3.rangeAt w.heap.size 0 (bs key)) := rangeAt_fr kd.out F3.out id (by have := zd.out; omega)
  have n3 : Hid (w3.rangeAt (w.heap.size + 1) 0 (bs nonce)) := rangeAt_fr nd.out F3.out id (by have := zd.out; omega)
  refine hK _ _ ⟨?_, ?_⟩
  · intro i hi h
    simp only [List.mem_cons, List.not_mem_nil, or_false] at hi
    rcases hi with rfl | rfl
    · exact k3.out
    · exact n3.out
  have s3 := Lib.hid (Sl.of_own hown3)
  have B3 : Hid (Below w.heap.size w w3) := ((Fr.of_below (M := NoB) Bd.out).trans F3.out (fun _ _ h => h)).to_below (fun _ _ h => h)
  have z3 : Hid (w.heap.size + 2 ≤ w3.heap.size) := by have := F3.out.size; have := zd.out; show _ ≤ _; omega
  clear hK hown3 hg3 F3
  refine os_run rfl rfl (fun K hK => ?_)
  go_wp2_with fail
  refine (Xor_any w3 key nonce ctr Hk.out Hn.out s3.out (fun k hk => hk.2.1) (by have := Hn2.out; omega)).mono ?_
  rintro e w4 ⟨A4, c4, rfl, hown4, hb4⟩
  have s4 := Lib.hid (Sl.of_own hown4)
  have B4 : Hid (Below w.heap.size w w4) := B3.out.trans (hb4.mono (by have := z3.out; omega))
  have k4 : Hid (w4.rangeAt w.heap.size 0 (bs key)) := rangeAt_fr k3.out (Fr.of_below (M := NoB) hb4) id (by have := z3.out; omega)
  have n4 : Hid (w4.rangeAt (w.heap.size + 1) 0 (bs nonce)) := rangeAt_fr n3.out (Fr.of_below (M := NoB) hb4) id (by have := z3.out; omega)
  have z4 : Hid (w.heap.size + 2 ≤ w4.heap.size) := by have := hb4.size; have := z3.out; show _ ≤ _; omega
  clear hown4 hb4 kd nd Bd zd k3 n3 B3 z3 s3
  go_wp2_with fail
  refine ⟨fun _ h => (by cases h), ?_⟩
  refine os_move rfl rfl rfl (Nat.le_of_ble_eq_true rfl) ?_
  apply Exists.intro
  refine ⟨fun w' K hK => ?_, ?_⟩
  (focus
    go_simp
    exact hK)
  refine os_done ⟨rfl, ?_⟩
  have hcmp : ((n : Int) != (n : Int)) = false := by simp
  go_wp2_with fail
  obtain ⟨io, hio, hzo, _, _⟩ := info_parts Try.infoO
  have Hio := Lib.hid hio; have Hzo := Lib.hid hzo
  clear hio hzo hcmp
  obtain ⟨L, hL⟩ : ∃ L, L = xorP key ctr nonce (List.replicate n 0) := ⟨_, rfl⟩
  rw [← hL] at s4
  have HL := Lib.hid hL
  have HLn : Hid (L.length = n) := by rw [hL, xorP_len]; exact List.length_replicate
  clear hL
  have hn300 : (n : Int) ≤ 300 := by have := Hn2.out; omega
  go_loopw [10] (fun v wr => ∃ i : Nat, i ≤ n ∧ v = .int .i64 (i : Nat) ∧ Hid (Below w4.heap.size w4 wr)) (fun v _ => n - (intOf v).toNat)
  case atStart => exact ⟨0, Nat.zero_le _, rfl, Below.refl _ _⟩
  case round =>
    obtain ⟨i, hi, rfl, Hb⟩ := hrel
    by_cases hlt : i < n
    · have hiI : (i : Int) < (n : Int) := by omega
      have hi0 : (0 : Int) ≤ (i : Int) := by omega
      have kr : Hid (wr.rangeAt w.heap.size 0 (bs key)) := rangeAt_fr k4.out (Fr.of_below (M := NoB) Hb.out) id (by have := z4.out; omega)
      have nr : Hid (wr.rangeAt (w.heap.size + 1) 0 (bs nonce)) := rangeAt_fr n4.out (Fr.of_below (M := NoB) Hb.out) id (by have := z4.out; omega)
      have hadd : (wv ctr + (i : Int) / 64) % 4294967296 = wv (ctr + BitVec.ofNat 32 (i / 64)) := by
        have := add32 ctr (BitVec.ofNat 32 (i / 64))
        rw [wv_ofNat (show i / 64 < 4294967296 by omega)] at this
        rw [← this]
        congr 2
      go_wp2_with (first
        | ((with_reducible refine lst_load_mid 23 (.tmp 4) rfl w.heap.size 0 rfl (bs key) _ kr.out u1.out rfl i1.out ?_ ?_)
           (focus rfl))
        | ((with_reducible refine lst_load_mid 26 (.tmp 6) rfl (w.heap.size + 1) 0 rfl (bs nonce) _ nr.out u2.out rfl i2.out ?_ ?_)
           (focus rfl)))
      refine (Block_any wr key nonce (ctr + BitVec.ofNat 32 (i / 64)) Hk.out Hn.out).mono ?_
      rintro e w5 ⟨rfl, hb5⟩
      obtain ⟨P, hP⟩ : ∃ P, P = blockP key (ctr + BitVec.ofNat 32 (i / 64)) nonce := ⟨_, rfl⟩
      rw [← hP]
      have HP := Lib.hid hP
      have HPL : Hid (P.length = 64) := by rw [hP]; exact blockP_len _ _ _
      clear hP
      have Hb5 : Hid (Below w4.heap.size w4 w5) := Hb.out.trans (hb5.mono Hb.out.size)
      have iP : Hid ((Try.prog.info? 27).map (·.size) = some (bs P).length) := by rw [bs_length, HPL.out]; exact Try.sizeO
      clear hb5 Hb kr nr hadd
      go_wp2_with (first
        | ((with_reducible refine lst_alloc_d 11 rfl 27 rfl io _ Hio.out Hzo.out ?_ ?_)
           (focus rfl)
           intro g6 w6 Hg6 Hh6 hb6
           have Hb6 := Lib.hid hb6
           have Hh6' : Hid (w6.heap[g6]? = some (.cells (bs (List.replicate 64 0)).toArray 27 (0, 0))) := Hh6
           clear hb6)
        | ((with_reducible refine lst_store_abs 27 (.tmp 11) (.tmp 36) rfl g6 27 (bs (List.replicate 64 0)).toArray (bs P).toArray rfl rfl Hh6'.out (by simpa using iP.out) (by simp [bs_length, HPL.out]) (by simp; exact bs_oneCell _) ?_ ?_)
           (focus rfl)
           intro w7 Hh7 hg7
           have Hg7 := Lib.hid hg7
           clear hg7))
      have Hb7 : Hid (Below w4.heap.size w4 w7) := Hb5.out.trans ((Hb6.out.grown Hg7.out Hb6.out.size (fun j hj => by injection hj with hj; have := Hg6.out; omega)).mono Hb5.out.size)
      obtain ⟨r, hr⟩ : ∃ r, r = i % 64 := ⟨_, rfl⟩
      have hr64 : r < 64 := by omega
      have hpc : w7.cell? ⟨g6, r, none⟩ = some (.int .u8 ((P[r]'(by rw [HPL.out]; exact hr64)).toNat : Int)) := by
        rw [cell_of_row w7 g6 r _ _ _ Hh7.out]
        have := bs_get P r (by rw [HPL.out]; exact hr64)
        rw [List.getElem?_toArray]; exact this
      have hiL : i < L.length := by rw [HLn.out]; exact hlt
      obtain ⟨ad, hA4, hxc⟩ := s4.out.rd i _ (bs_get L i hiL)
      subst hA4
      have hxc7 : w7.cell? (ad.add i) = some (.int .u8 (L[i].toNat : Int)) := cell_fr hxc (Fr.of_below (M := NoB) Hb7.out) id
      have hLi : L[i] = P[r]'(by rw [HPL.out]; exact hr64) := by
        have e : L[i]? = some (P[r]'(by rw [HPL.out]; exact hr64)) := by
          rw [HL.out, xorP_get (by rw [List.length_replicate]; exact hlt)]
          unfold ksP
          rw [← HP.out, ← hr, getD_eq (by rw [HPL.out]; exact hr64)]
          simp
        rw [List.getElem?_eq_getElem hiL] at e
        exact Option.some.inj e
      rw [hLi] at hxc7
      generalize P[r]'(by rw [HPL.out]; exact hr64) = y at hpc hxc7 hLi
      have hne : (((y.toNat : Nat) : Int) != ((y.toNat : Nat) : Int)) = false := by simp
      have hrI : (i : Int) % 64 = (r : Int) := by omega
      have hrt : (i : Int).tmod 64 = (r : Int) := by rw [Int.tmod_eq_emod_of_nonneg hi0]; exact hrI
      have hrl : (r : Int) < 64 := by omega
      clear hLi hxc hiL hr hr64 Hh6 Hh6' Hb5 Hb6 Hg7 Hg6 iP
      go_wp2_with fail
      go_quiet (fail)
      go_wp2_with fail
      go_roundw
      case rel => exact ⟨i + 1, by omega, by go_num, below_drewN Hb7.out _⟩
      case measure => simp [intOf]; omega
    · have hiI : decide ((i : Int) < (n : Int)) = false := decide_eq_false (by omega)
      go_wp2_with fail
      refine (works_any _).mono ?_
      rintro e w6 ⟨rfl, hb6⟩
      go_wp2_with fail
      go_ret
      exact ⟨rfl, B4.out.trans ((Hb.out.trans (hb6.mono Hb.out.size)).mono B4.out.size)⟩
theorem ChachaStreamW_any (w : World) (key : List UInt8) (hk : key.length = 32) (ctr : Int) (hc : (Lit.int .u32 ctr).wf = true) (nonce : List UInt8) (hn : nonce.length = 12) (many : Int) (_ : (Lit.int .i64 many).wf = true) :
    Calls Try.prog 7 #[.agg (bs key).toArray, .int .u32 ctr, .agg (bs nonce).toArray, .int .i64 many] w fun e w' => e = .returned (.bool true) ∧ Below w.heap.size w w' := by
  rw [word_of_wf hc]
  exact ChachaStream_any w key nonce _ hk hn many
end Go.Proofs.Ytobbcnajmocpfaa
