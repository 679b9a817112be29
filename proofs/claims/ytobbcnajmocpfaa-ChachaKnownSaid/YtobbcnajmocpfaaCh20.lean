/- The reference: Xor. (Printed by gen_rx.py.) -/
import Derived.Test.YtobbcnajmocpfaaCh19
namespace Go.Proofs.Ytobbcnajmocpfaa
open Go.RowKit
attribute [local go_sem] yld yldUpon_value

/-- while the reference makes its bytes -/
structure VInv (w w' : World) (key nonce : List UInt8) (g10 : Nat) (P : List UInt8) (L : List UInt8) (i : Nat) (A' : Option Addr) (c' : Nat) : Prop where
  x : RB w w' key nonce
  p : w'.heap[g10]? = some (.cells (bs P).toArray 27 (0, 0))
  g : w.heap.size + 2 ≤ g10
  o : w'.ownsRow (w.heap.size + 2) 5 1 (.slice A' i c') i (bs (L.take i))
  ne : ∀ j, (Value.slice A' i c').ownBlock = some j → j ≠ g10
theorem VInv.frm {w w' w2 : World} {key nonce : List UInt8} {g10 : Nat} {P L : List UInt8} {i c' : Nat} {A' : Option Addr} (h : VInv w w' key nonce g10 P L i A' c') (hf : Fr NoB w' w2) : VInv w w2 key nonce g10 P L i A' c' :=
  ⟨h.x.frm hf (fun j e => e.elim), (hf.block _ (Array.getElem?_eq_some_iff.1 h.p).1 id).trans h.p, h.g, own_fr h.o hf (fun _ _ e => e), h.ne⟩
theorem VInv.part {w w' w2 : World} {key nonce : List UInt8} {g10 : Nat} {P P2 L : List UInt8} {i c' : Nat} {A' : Option Addr} (h : VInv w w' key nonce g10 P L i A' c') (hh : w2.heap[g10]? = some (.cells (bs P2).toArray 27 (0, 0))) (hf : w'.grownBy w2 (some g10)) : VInv w w2 key nonce g10 P2 L i A' c' := by
  have hf2 := Fr.of_grown hf
  have hg := h.g
  exact ⟨h.x.frm hf2 (fun j e => by injection e with e; omega), hh, h.g, own_fr h.o hf2 (fun j hj e => by injection e with e; exact h.ne j hj e), h.ne⟩

set_option maxRecDepth 100000 in
set_option maxHeartbeats 8000000 in
theorem RefXor_any (w : World) (key nonce : List UInt8) (ctr : BitVec 32) (hk : key.length = 32) (hn : nonce.length = 12) {F : Nat → Prop} {A : Option Addr} {n c : Nat} {b : List UInt8} (hs : Sl w F A n c b) (hF : ∀ k, F k → k < w.heap.size) (hb : n ≤ 1000000) :
    Calls Try.prog 14 #[.agg (bs key).toArray, .int .u32 (wv ctr), .agg (bs nonce).toArray, .slice A n c] w fun e w' => ∃ A' c', e = .returned (.slice A' n c') ∧ w'.ownsRow w.heap.size 5 1 (.slice A' n c') n (bs (xorP key ctr nonce b)) ∧ Below w.heap.size w w' := by
  have Hs := Lib.hid hs; have HF := Lib.hid hF; have Hk := Lib.hid hk; have Hn := Lib.hid hn; have Hb := Lib.hid hb
  obtain ⟨io, hio, hzo, hso, _⟩ := info_parts Try.infoO
  have Hio := Lib.hid hio; have Hzo := Lib.hid hzo
  have u1 := Lib.hid Try.underlying23
  have u2 := Lib.hid Try.underlying26
  have i1 : Hid ((Try.prog.info? 23).map (·.size) = some (bs key).length) := by rw [bs_length, hk]; exact Try.sizeK
  have i2 : Hid ((Try.prog.info? 26).map (·.size) = some (bs nonce).length) := by rw [bs_length, hn]; exact Try.sizeN
  have hnB : (n : Int) ≤ 1000000 := by omega
  obtain ⟨L, hL⟩ : ∃ L, L = xorP key ctr nonce b := ⟨_, rfl⟩
  have HL := Lib.hid hL
  have HLn : Hid (L.length = n) := by rw [hL, xorP_len]; exact Hs.out.len
  clear hio hzo hk hn hs hF hb hL
  have X2 := Lib.hid (RB.start w key nonce)
  go_enter Try.func14, Try.ntmps14
  go_wp2_with (first
    | ((with_reducible refine lst_alloc_d 10 rfl 27 rfl io _ Hio.out Hzo.out ?_ ?_)
       (focus rfl)
       intro g10 w1 Hg10 Hh10 hb1
       have V1 : Hid (VInv w w1 key nonce g10 (List.replicate 64 0) L 0 none 0) :=
         ⟨X2.out.frm (Fr.of_below (M := NoB) hb1) (fun j e => e.elim), Hh10.out, by have := Hg10.out; have := X2.out.sz; omega, World.ownsRow_nil _ _ _ _, fun j hj => by cases hj⟩
       clear hb1 Hg10 Hh10))
  clear X2 Hio Hzo
  go_loopw [9, 11] (fun v iv wr => ∃ (i : Nat) (A' : Option Addr) (c' : Nat) (P : List UInt8), i ≤ n ∧ iv = .int .i64 (i : Nat) ∧ v = .slice A' i c' ∧ Hid (P.length = 64 ∧ (i % 64 ≠ 0 → P = blockP key (ctr + BitVec.ofNat 32 (i / 64)) nonce)) ∧ Hid (VInv w wr key nonce g10 P L i A' c')) (fun _ iv _ => n - (intOf iv).toNat)
  case atStart => exact ⟨0, none, 0, List.replicate 64 0, Nat.zero_le _, rfl, rfl, ⟨rfl, fun h => absurd rfl h⟩, V1.out⟩
  case round =>
    clear V1
    obtain ⟨i, A', c', P, hi, rfl, rfl, HP, V⟩ := hrel
    by_cases hlt : i < n
    · have hiI : (i : Int) < (n : Int) := by omega
      have hi0 : (0 : Int) ≤ (i : Int) := by omega
      have hib : i < b.length := by have := Hs.out.len; omega
      obtain ⟨r, hr⟩ : ∃ r, r = i % 64 := ⟨_, rfl⟩
      have hr64 : r < 64 := by omega
      have hrI : (i : Int) % 64 = (r : Int) := by omega
      have Hr := Lib.hid hr
      clear hr
      by_cases hz : r = 0
      · subst hz
        have hz0 : ((0 : Nat) : Int) = 0 := rfl
        rw [hz0] at hrI
        have kr : Hid (wr.rangeAt w.heap.size 0 (bs key)) := range_block V.out.x.k
        have nr : Hid (wr.rangeAt (w.heap.size + 1) 0 (bs nonce)) := range_block V.out.x.n
        have hadd : (wv ctr + (i : Int) / 64) % 4294967296 = wv (ctr + BitVec.ofNat 32 (i / 64)) := by
          have := add32 ctr (BitVec.ofNat 32 (i / 64))
          rw [wv_ofNat (show i / 64 < 4294967296 by have := Hb.out; omega)] at this
          rw [← this]
          congr 2
        go_wp2_with (first
          | ((with_reducible refine lst_load_mid 23 (.tmp 4) rfl w.heap.size 0 rfl (bs key) _ kr.out u1.out rfl i1.out ?_ ?_)
             (focus rfl))
          | ((with_reducible refine lst_load_mid 26 (.tmp 6) rfl (w.heap.size + 1) 0 rfl (bs nonce) _ nr.out u2.out rfl i2.out ?_ ?_)
             (focus rfl)))
        refine (RefBlock_any wr key nonce (ctr + BitVec.ofNat 32 (i / 64)) Hk.out Hn.out).mono ?_
        rintro e w5 ⟨rfl, hb5⟩
        obtain ⟨Q, hQ⟩ : ∃ Q, Q = blockP key (ctr + BitVec.ofNat 32 (i / 64)) nonce := ⟨_, rfl⟩
        rw [← hQ]
        have HQ : Hid (Q.length = 64 ∧ Q = blockP key (ctr + BitVec.ofNat 32 (i / 64)) nonce) := ⟨by rw [hQ]; exact blockP_len _ _ _, hQ⟩
        have V5 : Hid (VInv w w5 key nonce g10 P L i A' c') := V.out.frm (Fr.of_below hb5)
        have iQ : Hid ((Try.prog.info? 27).map (·.size) = some (bs Q).length) := by rw [bs_length, HQ.out.1]; exact Try.sizeO
        clear hb5 V kr nr hadd hQ
        go_wp2_with (first
          | ((with_reducible refine lst_store_abs 27 (.tmp 10) (.tmp 28) rfl g10 27 (bs P).toArray (bs Q).toArray rfl rfl V5.out.p (by simpa using iQ.out) (by simp [bs_length, HQ.out.1, HP.out.1]) (by simp; exact bs_oneCell _) ?_ ?_)
             (focus rfl)
             intro W HhW hgW
             have VQ : Hid (VInv w W key nonce g10 Q L i A' c') := V5.out.part HhW.out hgW
             clear HhW hgW V5 iQ HP))
        have hz : True := trivial
        obtain ⟨ad, hA, hcb⟩ := Hs.out.rd i _ (bs_get b i hib)
        subst hA
        have hblk : ad.block < w.heap.size := HF.out _ (Hs.out.foot ad rfl (fun e => by have h2 := bs_length b; rw [e] at h2; simp at h2; omega))
        obtain ⟨y, hy⟩ : ∃ y, y = b[i] := ⟨_, rfl⟩
        rw [← hy] at hcb
        obtain ⟨x, hx⟩ : ∃ x, x = Q[0]'(by rw [HQ.out.1]; exact (by decide : 0 < 64)) := ⟨_, rfl⟩
        obtain ⟨z, hzz⟩ : ∃ z, z = y ^^^ x := ⟨_, rfl⟩
        have hxy := xor_byte y x
        rw [← hzz] at hxy
        have htk : Hid (L.take (i + 1) = L.take i ++ [z]) := by
          have hml2 : i < L.length := by rw [HLn.out]; exact hlt
          show _ = _
          rw [List.take_succ_eq_append_getElem hml2]
          congr 2
          have e : L[i]? = some z := by
            rw [HL.out, xorP_get hib]
            unfold ksP
            rw [← HQ.out.2, ← Hr.out, getD_eq (by rw [HQ.out.1]; exact (by decide : 0 < 64)), ← hy, ← hx, ← hzz]
          rw [List.getElem?_eq_getElem hml2] at e
          exact Option.some.inj e
        have Vd : Hid (VInv w W.drew key nonce g10 Q L i A' c') := VQ.out.frm ((Fr.refl NoB W).drew)
        have hcb2 : Hid (W.drew.cell? (ad.add i) = some (.int .u8 (y.toNat : Int))) := cell_fr hcb (Fr.of_below (M := NoB) Vd.out.x.fr) id
        have hbk : Hid ((ad.add i).block < w.heap.size) := by show _ < _; rw [addr_add_block]; exact hblk
        have hcp : Hid (W.drew.cell? ⟨g10, 0, none⟩ = some (.int .u8 (x.toNat : Int))) := by rw [hx]; exact cell_block Vd.out.p (by rw [HQ.out.1]; exact (by decide : 0 < 64))
        have HQl : Hid (Q.length = 64 ∧ ((i + 1) % 64 ≠ 0 → Q = blockP key (ctr + BitVec.ofNat 32 ((i + 1) / 64)) nonce)) := by
          refine ⟨HQ.out.1, fun h => ?_⟩
          rw [show (i + 1) / 64 = i / 64 by omega]; exact HQ.out.2
        clear hy hx hzz hcb hz VQ HQ
        have htm : (i : Int).tmod 64 = 0 := by rw [Int.tmod_eq_emod_of_nonneg hi0]; exact hrI
        refine wp_calm ?_
        refine wp_region_os (fun j w' => match j with
          | 4 => w'.cell? (ad.add i) = some (.int .u8 (y.toNat : Int))
          | 8 => w'.cell? ⟨g10, 0, none⟩ = some (.int .u8 (x.toNat : Int))
          | _ => True) [4, 8]
          (.move 0 (.move 1 (.move 2 (.move 3 (.take 4 (.move 5 (.move 6 (.move 7 (.take 8 (.move 9 (.run 10 [4, 8] (.run 11 [4, 8] (.move 12 .done))))))))))))) (by kernel_rfl) (by kernel_rfl) (fun _ _ _ _ _ h => nomatch h.1) ?_
        iterate 4 (
          refine os_move rfl rfl rfl (Nat.le_of_ble_eq_true rfl) ?_
          apply Exists.intro
          refine ⟨fun w' K hK => ?_, ?_⟩
          (focus
            go_simp
            exact hK))
        refine os_yld hcb2.out rfl rfl rfl (Nat.le_of_ble_eq_true rfl) ?_
        apply Exists.intro
        refine ⟨fun w' hS' K hK => ?_, ?_⟩
        (focus
          have hS2 : (fun w' => w'.cell? (ad.add i) = some (.int .u8 (y.toNat : Int))) w' := hS'
          clear hS'
          try dsimp only at hS2
          go_simp
          exact hK)
        iterate 3 (
          refine os_move rfl rfl rfl (Nat.le_of_ble_eq_true rfl) ?_
          apply Exists.intro
          refine ⟨fun w' K hK => ?_, ?_⟩
          (focus
            go_simp
            exact hK))
        refine os_yld hcp.out rfl rfl rfl (Nat.le_of_ble_eq_true rfl) ?_
        apply Exists.intro
        refine ⟨fun w' hS' K hK => ?_, ?_⟩
        (focus
          have hS2 : (fun w' => w'.cell? ⟨g10, 0, none⟩ = some (.int .u8 (x.toNat : Int))) w' := hS'
          clear hS'
          try dsimp only at hS2
          go_simp
          exact hK)
        iterate 1 (
          refine os_move rfl rfl rfl (Nat.le_of_ble_eq_true rfl) ?_
          apply Exists.intro
          refine ⟨fun w' K hK => ?_, ?_⟩
          (focus
            go_simp
            exact hK))
        refine os_run rfl rfl (fun K hK => ?_)
        go_wp2_with fail
        refine ⟨?_, ?_⟩
        · intro i hi h
          simp only [List.mem_cons, List.not_mem_nil, or_false] at hi
          rcases hi with rfl | rfl <;> exact Lib.cell?_alloc_marked _ h
        have V7 : Hid (VInv w (W.alloc (.cells #[.int .u8 (z.toNat : Int)] 5)).drew key nonce g10 Q L i A' c') := Vd.out.frm (((Fr.refl NoB W.drew).alloc _))
        have R7 : Hid (Rd (W.alloc (.cells #[.int .u8 (z.toNat : Int)] 5)).drew (some ⟨W.heap.size, 0, none⟩) (bs [z])) := Rd.one W z
        generalize (W.alloc (.cells #[.int .u8 (z.toNat : Int)] 5)).drew = w7 at V7 R7 ⊢
        clear Vd hcb2 hcp
        refine os_run rfl rfl (fun K hK => ?_)
        refine wp_append_bytes (.tmp 29) (.tmp 39) rfl (w.heap.size + 2) A' i c' (L.take i) rfl V7.out.o (some ⟨W.heap.size, 0, none⟩) 1 1 [z] rfl rfl R7.out (by have := Hb.out; omega) V7.out.x.sz ?_
        intro A8 c8 w8 hown8 hg8 hat8
        have hown := V7.out.o
        have hfr8 := Fr.of_grown hg8
        have hg10l : g10 < w7.heap.size := (Array.getElem?_eq_some_iff.1 V7.out.p).1
        have hlo := fun j hj => (hown.lt j hj).1
        refine hK _ _ ⟨?_, ?_⟩
        · intro i hi h
          simp only [List.mem_cons, List.not_mem_nil, or_false] at hi
          rcases hi with rfl | rfl
          · exact cell_fr h hfr8 (fun e => by have := hlo _ e.symm; have := hbk.out; omega)
          · exact cell_fr h hfr8 (fun e => V7.out.ne _ e.symm rfl)
        have V8 : Hid (VInv w w8 key nonce g10 Q L (i + 1) A8 c8) := by
          refine ⟨V7.out.x.frm hfr8 (fun j e => hlo j e.symm), (hfr8.block _ hg10l (fun e => V7.out.ne _ e.symm rfl)).trans V7.out.p, V7.out.g, by rw [htk.out]; exact hown8, fun j hj => ?_⟩
          rcases hat8 with h | h
          · exact V7.out.ne j (h.symm.trans hj)
          · rw [h] at hj; injection hj with hj; omega
        clear hown8 hg8 hat8 hown hfr8 hg10l hlo V7 R7 htk hK hxy htm
        refine os_move rfl rfl rfl (Nat.le_of_ble_eq_true rfl) ?_
        apply Exists.intro
        refine ⟨fun w' K hK => ?_, ?_⟩
        (focus
          go_simp
          exact hK)
        refine os_done ⟨rfl, ?_⟩
        go_wp2_with fail
        go_roundw
        case rel => exact ⟨i + 1, A8, c8, Q, by omega, by go_num, rfl, HQl.out, V8.out⟩
        case measure => simp [intOf]; omega
      · have hzI : ((r : Int) == 0) = false := by simp; omega
        obtain ⟨W, rfl⟩ : ∃ W, W = wr := ⟨_, rfl⟩
        obtain ⟨Q, rfl⟩ : ∃ Q, Q = P := ⟨_, rfl⟩
        have VQ := Lib.hid V.out
        have HQ : Hid (Q.length = 64 ∧ Q = blockP key (ctr + BitVec.ofNat 32 (i / 64)) nonce) := ⟨HP.out.1, HP.out.2 (by have := Hr.out; omega)⟩
        go_wp2_with fail
        clear V HP hzI
        obtain ⟨ad, hA, hcb⟩ := Hs.out.rd i _ (bs_get b i hib)
        subst hA
        have hblk : ad.block < w.heap.size := HF.out _ (Hs.out.foot ad rfl (fun e => by have h2 := bs_length b; rw [e] at h2; simp at h2; omega))
        obtain ⟨y, hy⟩ : ∃ y, y = b[i] := ⟨_, rfl⟩
        rw [← hy] at hcb
        obtain ⟨x, hx⟩ : ∃ x, x = Q[r]'(by rw [HQ.out.1]; exact hr64) := ⟨_, rfl⟩
        obtain ⟨z, hzz⟩ : ∃ z, z = y ^^^ x := ⟨_, rfl⟩
        have hxy := xor_byte y x
        rw [← hzz] at hxy
        have htk : Hid (L.take (i + 1) = L.take i ++ [z]) := by
          have hml2 : i < L.length := by rw [HLn.out]; exact hlt
          show _ = _
          rw [List.take_succ_eq_append_getElem hml2]
          congr 2
          have e : L[i]? = some z := by
            rw [HL.out, xorP_get hib]
            unfold ksP
            rw [← HQ.out.2, ← Hr.out, getD_eq (by rw [HQ.out.1]; exact hr64), ← hy, ← hx, ← hzz]
          rw [List.getElem?_eq_getElem hml2] at e
          exact Option.some.inj e
        have Vd : Hid (VInv w W.drew key nonce g10 Q L i A' c') := VQ.out.frm ((Fr.refl NoB W).drew)
        have hcb2 : Hid (W.drew.cell? (ad.add i) = some (.int .u8 (y.toNat : Int))) := cell_fr hcb (Fr.of_below (M := NoB) Vd.out.x.fr) id
        have hbk : Hid ((ad.add i).block < w.heap.size) := by show _ < _; rw [addr_add_block]; exact hblk
        have hcp : Hid (W.drew.cell? ⟨g10, r, none⟩ = some (.int .u8 (x.toNat : Int))) := by rw [hx]; exact cell_block Vd.out.p (by rw [HQ.out.1]; exact hr64)
        have hrl : (r : Int) < 64 := by omega
        have hr0 : (0 : Int) ≤ (r : Int) := by omega
        have HQl : Hid (Q.length = 64 ∧ ((i + 1) % 64 ≠ 0 → Q = blockP key (ctr + BitVec.ofNat 32 ((i + 1) / 64)) nonce)) := by
          refine ⟨HQ.out.1, fun h => ?_⟩
          rw [show (i + 1) / 64 = i / 64 by omega]; exact HQ.out.2
        clear hy hx hzz hcb hz VQ HQ
        have htm : (i : Int).tmod 64 = (r : Int) := by rw [Int.tmod_eq_emod_of_nonneg hi0]; exact hrI
        refine wp_calm ?_
        refine wp_region_os (fun j w' => match j with
          | 4 => w'.cell? (ad.add i) = some (.int .u8 (y.toNat : Int))
          | 8 => w'.cell? ⟨g10, r, none⟩ = some (.int .u8 (x.toNat : Int))
          | _ => True) [4, 8]
          (.move 0 (.move 1 (.move 2 (.move 3 (.take 4 (.move 5 (.move 6 (.move 7 (.take 8 (.move 9 (.run 10 [4, 8] (.run 11 [4, 8] (.move 12 .done))))))))))))) (by kernel_rfl) (by kernel_rfl) (fun _ _ _ _ _ h => nomatch h.1) ?_
        iterate 4 (
          refine os_move rfl rfl rfl (Nat.le_of_ble_eq_true rfl) ?_
          apply Exists.intro
          refine ⟨fun w' K hK => ?_, ?_⟩
          (focus
            go_simp
            exact hK))
        refine os_yld hcb2.out rfl rfl rfl (Nat.le_of_ble_eq_true rfl) ?_
        apply Exists.intro
        refine ⟨fun w' hS' K hK => ?_, ?_⟩
        (focus
          have hS2 : (fun w' => w'.cell? (ad.add i) = some (.int .u8 (y.toNat : Int))) w' := hS'
          clear hS'
          try dsimp only at hS2
          go_simp
          exact hK)
        iterate 3 (
          refine os_move rfl rfl rfl (Nat.le_of_ble_eq_true rfl) ?_
          apply Exists.intro
          refine ⟨fun w' K hK => ?_, ?_⟩
          (focus
            go_simp
            exact hK))
        refine os_yld hcp.out rfl rfl rfl (Nat.le_of_ble_eq_true rfl) ?_
        apply Exists.intro
        refine ⟨fun w' hS' K hK => ?_, ?_⟩
        (focus
          have hS2 : (fun w' => w'.cell? ⟨g10, r, none⟩ = some (.int .u8 (x.toNat : Int))) w' := hS'
          clear hS'
          try dsimp only at hS2
          go_simp
          exact hK)
        iterate 1 (
          refine os_move rfl rfl rfl (Nat.le_of_ble_eq_true rfl) ?_
          apply Exists.intro
          refine ⟨fun w' K hK => ?_, ?_⟩
          (focus
            go_simp
            exact hK))
        refine os_run rfl rfl (fun K hK => ?_)
        go_wp2_with fail
        refine ⟨?_, ?_⟩
        · intro i hi h
          simp only [List.mem_cons, List.not_mem_nil, or_false] at hi
          rcases hi with rfl | rfl <;> exact Lib.cell?_alloc_marked _ h
        have V7 : Hid (VInv w (W.alloc (.cells #[.int .u8 (z.toNat : Int)] 5)).drew key nonce g10 Q L i A' c') := Vd.out.frm (((Fr.refl NoB W.drew).alloc _))
        have R7 : Hid (Rd (W.alloc (.cells #[.int .u8 (z.toNat : Int)] 5)).drew (some ⟨W.heap.size, 0, none⟩) (bs [z])) := Rd.one W z
        generalize (W.alloc (.cells #[.int .u8 (z.toNat : Int)] 5)).drew = w7 at V7 R7 ⊢
        clear Vd hcb2 hcp
        refine os_run rfl rfl (fun K hK => ?_)
        refine wp_append_bytes (.tmp 29) (.tmp 39) rfl (w.heap.size + 2) A' i c' (L.take i) rfl V7.out.o (some ⟨W.heap.size, 0, none⟩) 1 1 [z] rfl rfl R7.out (by have := Hb.out; omega) V7.out.x.sz ?_
        intro A8 c8 w8 hown8 hg8 hat8
        have hown := V7.out.o
        have hfr8 := Fr.of_grown hg8
        have hg10l : g10 < w7.heap.size := (Array.getElem?_eq_some_iff.1 V7.out.p).1
        have hlo := fun j hj => (hown.lt j hj).1
        refine hK _ _ ⟨?_, ?_⟩
        · intro i hi h
          simp only [List.mem_cons, List.not_mem_nil, or_false] at hi
          rcases hi with rfl | rfl
          · exact cell_fr h hfr8 (fun e => by have := hlo _ e.symm; have := hbk.out; omega)
          · exact cell_fr h hfr8 (fun e => V7.out.ne _ e.symm rfl)
        have V8 : Hid (VInv w w8 key nonce g10 Q L (i + 1) A8 c8) := by
          refine ⟨V7.out.x.frm hfr8 (fun j e => hlo j e.symm), (hfr8.block _ hg10l (fun e => V7.out.ne _ e.symm rfl)).trans V7.out.p, V7.out.g, by rw [htk.out]; exact hown8, fun j hj => ?_⟩
          rcases hat8 with h | h
          · exact V7.out.ne j (h.symm.trans hj)
          · rw [h] at hj; injection hj with hj; omega
        clear hown8 hg8 hat8 hown hfr8 hg10l hlo V7 R7 htk hK hxy htm
        refine os_move rfl rfl rfl (Nat.le_of_ble_eq_true rfl) ?_
        apply Exists.intro
        refine ⟨fun w' K hK => ?_, ?_⟩
        (focus
          go_simp
          exact hK)
        refine os_done ⟨rfl, ?_⟩
        go_wp2_with fail
        go_roundw
        case rel => exact ⟨i + 1, A8, c8, Q, by omega, by go_num, rfl, HQl.out, V8.out⟩
        case measure => simp [intOf]; omega
    · have hiI : decide ((i : Int) < (n : Int)) = false := decide_eq_false (by omega)
      have hin : i = n := by omega
      subst hin
      have Ho : Hid (wr.ownsRow w.heap.size 5 1 (.slice A' i c') i (bs (xorP key ctr nonce b))) := by
        have h := own_mono V.out.o (show w.heap.size ≤ w.heap.size + 2 by omega)
        rw [List.take_of_length_le (by rw [HLn.out]; exact Nat.le_refl _), HL.out] at h; exact h
      go_wp2_with fail
      go_ret
      exact ⟨A', c', rfl, Ho.out, V.out.x.fr⟩
end Go.Proofs.Ytobbcnajmocpfaa
