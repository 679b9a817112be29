/- Lemmas and contracts for the claim's row, one text behind the other: Ch20, Ps1, Ps2, Ps3, Ps4, Ps5, Ps6, Ps7, Ps8, Ps9, Ps10, Ps11, Ae17, Ae5, Ae18, Ae6, Ae19, Ord5. No condition. -/
import Derived.Deep.CutRange
import Derived.Test.YtklclbppdoahjaaJ2
/- The reference: Xor. (Printed by gen_rx.py.) -/
namespace Go.Proofs.Ytklclbppdoahjaa
set_option maxRecDepth 100000
open Go.RowKit
attribute [local go_sem] yld yldUpon_value

/-- while the reference makes its bytes -/
structure VInv (w w' : World) (key nonce : List UInt8) (g10 : Nat) (P : List UInt8) (L : List UInt8) (i : Nat) (A' : Option Addr) (c' : Nat) : Prop where
  x : RB w w' key nonce
  p : w'.heap[g10]? = some (.cells (bs P).toArray 61 (0, 0))
  g : w.heap.size + 2 ≤ g10
  o : w'.ownsRow (w.heap.size + 2) 5 1 (.slice A' i c') i (bs (L.take i))
  ne : ∀ j, (Value.slice A' i c').ownBlock = some j → j ≠ g10
theorem VInv.frm {w w' w2 : World} {key nonce : List UInt8} {g10 : Nat} {P L : List UInt8} {i c' : Nat} {A' : Option Addr} (h : VInv w w' key nonce g10 P L i A' c') (hf : Fr NoB w' w2) : VInv w w2 key nonce g10 P L i A' c' :=
  ⟨h.x.frm hf (fun j e => e.elim), (hf.block _ (Array.getElem?_eq_some_iff.1 h.p).1 id).trans h.p, h.g, own_frC h.o hf (fun _ _ e => e), h.ne⟩
theorem VInv.part {w w' w2 : World} {key nonce : List UInt8} {g10 : Nat} {P P2 L : List UInt8} {i c' : Nat} {A' : Option Addr} (h : VInv w w' key nonce g10 P L i A' c') (hh : w2.heap[g10]? = some (.cells (bs P2).toArray 61 (0, 0))) (hf : w'.grownBy w2 (some g10)) : VInv w w2 key nonce g10 P2 L i A' c' := by
  have hf2 := Fr.of_grown hf
  have hg := h.g
  exact ⟨h.x.frm hf2 (fun j e => by injection e with e; omega), hh, h.g, own_frC h.o hf2 (fun j hj e => by injection e with e; exact h.ne j hj e), h.ne⟩

set_option maxRecDepth 100000 in
set_option maxHeartbeats 8000000 in
theorem RefXor_any (w : World) (key nonce : List UInt8) (ctr : BitVec 32) (hk : key.length = 32) (hn : nonce.length = 12) {F : Nat → Prop} {A : Option Addr} {n c : Nat} {b : List UInt8} (hs : Sl w F A n c b) (hF : ∀ k, F k → k < w.heap.size) (hb : n ≤ 1000000) :
    Calls Try.prog 26 #[.agg (bs key).toArray, .int .u32 (wv ctr), .agg (bs nonce).toArray, .slice A n c] w fun e w' => ∃ A' c', e = .returned (.slice A' n c') ∧ w'.ownsRow w.heap.size 5 1 (.slice A' n c') n (bs (xorP key ctr nonce b)) ∧ Below w.heap.size w w' := by
  have Hs := Lib.hid hs; have HF := Lib.hid hF; have Hk := Lib.hid hk; have Hn := Lib.hid hn; have Hb := Lib.hid hb
  obtain ⟨io, hio, hzo, hso, _⟩ := info_parts Try.infoO
  have Hio := Lib.hid hio; have Hzo := Lib.hid hzo
  have u1 := Lib.hid Try.underlying23
  have u2 := Lib.hid Try.underlying25
  have i1 : Hid ((Try.prog.info? 23).map (·.size) = some (bs key).length) := by rw [bs_length, hk]; exact Try.sizeK
  have i2 : Hid ((Try.prog.info? 25).map (·.size) = some (bs nonce).length) := by rw [bs_length, hn]; exact Try.sizeN
  have hnB : (n : Int) ≤ 1000000 := by omega
  obtain ⟨L, hL⟩ : ∃ L, L = xorP key ctr nonce b := ⟨_, rfl⟩
  have HL := Lib.hid hL
  have HLn : Hid (L.length = n) := by rw [hL, xorP_len]; exact Hs.out.len
  clear hio hzo hk hn hs hF hb hL
  have X2 := Lib.hid (RB.start w key nonce)
  go_enter Try.func26, Try.ntmps26
  go_wp2_with (first
    | ((with_reducible refine lst_alloc_d 10 rfl 61 rfl io _ Hio.out Hzo.out ?_ ?_)
       (focus rfl)
       intro g10 w1 Hg10 Hh10 hb1
       have V1 : Hid (VInv w w1 key nonce g10 (List.replicate 64 0) L 0 none 0) :=
         ⟨X2.out.frm (Fr.of_below (M := NoB) hb1) (fun j e => e.elim), Hh10.out, by have := Hg10.out; have := X2.out.sz; omega, World.ownsRow_nil _ _ _ _, fun j hj => by cases hj⟩
       clear hb1 Hg10 Hh10))
  clear X2 Hio Hzo
  go_loopw [9, 11] (fun v iv wr => ∃ (i : Nat) (A' : Option Addr) (c' : Nat) (P : List UInt8), i ≤ n ∧ iv = .int .i64 (i : Nat) ∧ v = .slice A' i c' ∧ Hid (P.length = 64 ∧ (i % 64 ≠ 0 → P = blockP key (ctr + BitVec.ofNat 32 (i / 64)) nonce)) ∧ Hid (VInv w wr key nonce g10 P L i A' c')) (fun _ iv _ => n - (intOf iv).toNat)
  case atStart => exact ⟨0, none, 0, List.replicate 64 0, Nat.zero_le _, rfl, rfl, ⟨rfl, fun h => absurd rfl h⟩, V1.out⟩
  case round =>
    clear V1
    obtain ⟨i, A', c', P, hi, rfl, rfl, HP, V⟩ := hrel
    by_cases hlt : i < n
    · have hiI : (i : Int) < (n : Int) := by omega
      have hi0 : (0 : Int) ≤ (i : Int) := by omega
      have hib : i < b.length := by have := Hs.out.len; omega
      obtain ⟨r, hr⟩ : ∃ r, r = i % 64 := ⟨_, rfl⟩
      have hr64 : r < 64 := by omega
      have hrI : (i : Int) % 64 = (r : Int) := by omega
      have Hr := Lib.hid hr
      clear hr
      by_cases hz : r = 0
      · subst hz
        have hz0 : ((0 : Nat) : Int) = 0 := rfl
        rw [hz0] at hrI
        have kr : Hid (wr.rangeAt w.heap.size 0 (bs key)) := range_block V.out.x.k
        have nr : Hid (wr.rangeAt (w.heap.size + 1) 0 (bs nonce)) := range_block V.out.x.n
        have hadd : (wv ctr + (i : Int) / 64) % 4294967296 = wv (ctr + BitVec.ofNat 32 (i / 64)) := by
          have := add32 ctr (BitVec.ofNat 32 (i / 64))
          rw [wv_ofNat (show i / 64 < 4294967296 by have := Hb.out; omega)] at this
          rw [← this]
          congr 2
        go_wp2_with (first
          | ((with_reducible refine lst_load_mid 23 (.tmp 4) rfl w.heap.size 0 rfl (bs key) _ kr.out u1.out rfl i1.out ?_ ?_)
             (focus rfl))
          | ((with_reducible refine lst_load_mid 25 (.tmp 6) rfl (w.heap.size + 1) 0 rfl (bs nonce) _ nr.out u2.out rfl i2.out ?_ ?_)
             (focus rfl)))
        refine (RefBlock_any wr key nonce (ctr + BitVec.ofNat 32 (i / 64)) Hk.out Hn.out).mono ?_
        rintro e w5 ⟨rfl, hb5⟩
        obtain ⟨Q, hQ⟩ : ∃ Q, Q = blockP key (ctr + BitVec.ofNat 32 (i / 64)) nonce := ⟨_, rfl⟩
        rw [← hQ]
        have HQ : Hid (Q.length = 64 ∧ Q = blockP key (ctr + BitVec.ofNat 32 (i / 64)) nonce) := ⟨by rw [hQ]; exact blockP_len _ _ _, hQ⟩
        have V5 : Hid (VInv w w5 key nonce g10 P L i A' c') := V.out.frm (Fr.of_below hb5)
        have iQ : Hid ((Try.prog.info? 61).map (·.size) = some (bs Q).length) := by rw [bs_length, HQ.out.1]; exact Try.sizeO
        clear hb5 V kr nr hadd hQ
        go_wp2_with (first
          | ((with_reducible refine lst_store_abs 61 (.tmp 10) (.tmp 28) rfl g10 61 (bs P).toArray (bs Q).toArray rfl rfl V5.out.p (by simpa using iQ.out) (by simp [bs_length, HQ.out.1, HP.out.1]) (by simp; exact bs_oneCell _) ?_ ?_)
             (focus rfl)
             intro W HhW hgW
             have VQ : Hid (VInv w W key nonce g10 Q L i A' c') := V5.out.part HhW.out hgW
             clear HhW hgW V5 iQ HP))
        have hz : True := trivial
        obtain ⟨ad, hA, hcb⟩ := Hs.out.rd i _ (bs_get b i hib)
        subst hA
        have hblk : ad.block < w.heap.size := HF.out _ (Hs.out.foot ad rfl (fun e => by have h2 := bs_length b; rw [e] at h2; simp at h2; omega))
        obtain ⟨y, hy⟩ : ∃ y, y = b[i] := ⟨_, rfl⟩
        rw [← hy] at hcb
        obtain ⟨x, hx⟩ : ∃ x, x = Q[0]'(by rw [HQ.out.1]; exact (by decide : 0 < 64)) := ⟨_, rfl⟩
        obtain ⟨z, hzz⟩ : ∃ z, z = y ^^^ x := ⟨_, rfl⟩
        have hxy := xor_byte y x
        rw [← hzz] at hxy
        have htk : Hid (L.take (i + 1) = L.take i ++ [z]) := by
          have hml2 : i < L.length := by rw [HLn.out]; exact hlt
          show _ = _
          rw [List.take_succ_eq_append_getElem hml2]
          congr 2
          have e : L[i]? = some z := by
            rw [HL.out, xorP_get hib]
            unfold ksP
            rw [← HQ.out.2, ← Hr.out, getD_eq (by rw [HQ.out.1]; exact (by decide : 0 < 64)), ← hy, ← hx, ← hzz]
          rw [List.getElem?_eq_getElem hml2] at e
          exact Option.some.inj e
        have Vd : Hid (VInv w W.drew key nonce g10 Q L i A' c') := VQ.out.frm ((Fr.refl NoB W).drew)
        have hcb2 : Hid (W.drew.cell? (ad.add i) = some (.int .u8 (y.toNat : Int))) := cell_fr hcb (Fr.of_below (M := NoB) Vd.out.x.fr) id
        have hbk : Hid ((ad.add i).block < w.heap.size) := by show _ < _; rw [addr_add_block]; exact hblk
        have hcp : Hid (W.drew.cell? ⟨g10, 0, none⟩ = some (.int .u8 (x.toNat : Int))) := by rw [hx]; exact cell_block Vd.out.p (by rw [HQ.out.1]; exact (by decide : 0 < 64))
        have HQl : Hid (Q.length = 64 ∧ ((i + 1) % 64 ≠ 0 → Q = blockP key (ctr + BitVec.ofNat 32 ((i + 1) / 64)) nonce)) := by
          refine ⟨HQ.out.1, fun h => ?_⟩
          rw [show (i + 1) / 64 = i / 64 by omega]; exact HQ.out.2
        clear hy hx hzz hcb hz VQ HQ
        have htm : (i : Int).tmod 64 = 0 := by rw [Int.tmod_eq_emod_of_nonneg hi0]; exact hrI
        refine wp_calm ?_
        refine wp_region_os (fun j w' => match j with
          | 4 => w'.cell? (ad.add i) = some (.int .u8 (y.toNat : Int))
          | 8 => w'.cell? ⟨g10, 0, none⟩ = some (.int .u8 (x.toNat : Int))
          | _ => True) [4, 8]
          (.move 0 (.move 1 (.move 2 (.move 3 (.take 4 (.move 5 (.move 6 (.move 7 (.take 8 (.move 9 (.run 10 [4, 8] (.run 11 [4, 8] (.move 12 .done))))))))))))) (by kernel_rfl) (by kernel_rfl) (fun _ _ _ _ _ h => nomatch h.1) ?_
        iterate 4 (
          refine os_move rfl rfl rfl (Nat.le_of_ble_eq_true rfl) ?_
          apply Exists.intro
          refine ⟨fun w' K hK => ?_, ?_⟩
          (focus
            go_simp
            exact hK))
        refine os_yld hcb2.out rfl rfl rfl (Nat.le_of_ble_eq_true rfl) ?_
        apply Exists.intro
        refine ⟨fun w' hS' K hK => ?_, ?_⟩
        (focus
          have hS2 : (fun w' => w'.cell? (ad.add i) = some (.int .u8 (y.toNat : Int))) w' := hS'
          clear hS'
          try dsimp only at hS2
          go_simp
          exact hK)
        iterate 3 (
          refine os_move rfl rfl rfl (Nat.le_of_ble_eq_true rfl) ?_
          apply Exists.intro
          refine ⟨fun w' K hK => ?_, ?_⟩
          (focus
            go_simp
            exact hK))
        refine os_yld hcp.out rfl rfl rfl (Nat.le_of_ble_eq_true rfl) ?_
        apply Exists.intro
        refine ⟨fun w' hS' K hK => ?_, ?_⟩
        (focus
          have hS2 : (fun w' => w'.cell? ⟨g10, 0, none⟩ = some (.int .u8 (x.toNat : Int))) w' := hS'
          clear hS'
          try dsimp only at hS2
          go_simp
          exact hK)
        iterate 1 (
          refine os_move rfl rfl rfl (Nat.le_of_ble_eq_true rfl) ?_
          apply Exists.intro
          refine ⟨fun w' K hK => ?_, ?_⟩
          (focus
            go_simp
            exact hK))
        refine os_run rfl rfl (fun K hK => ?_)
        go_wp2_with fail
        refine ⟨?_, ?_⟩
        · intro i hi h
          simp only [List.mem_cons, List.not_mem_nil, or_false] at hi
          rcases hi with rfl | rfl <;> exact Lib.cell?_alloc_marked _ h
        have V7 : Hid (VInv w (W.alloc (.cells #[.int .u8 (z.toNat : Int)] 5)).drew key nonce g10 Q L i A' c') := Vd.out.frm (((Fr.refl NoB W.drew).alloc _))
        have R7 : Hid (Rd (W.alloc (.cells #[.int .u8 (z.toNat : Int)] 5)).drew (some ⟨W.heap.size, 0, none⟩) (bs [z])) := Rd.one W z
        generalize (W.alloc (.cells #[.int .u8 (z.toNat : Int)] 5)).drew = w7 at V7 R7 ⊢
        clear Vd hcb2 hcp
        refine os_run rfl rfl (fun K hK => ?_)
        refine wp_append_bytes (.tmp 29) (.tmp 39) rfl (w.heap.size + 2) A' i c' (L.take i) rfl V7.out.o (some ⟨W.heap.size, 0, none⟩) 1 1 [z] rfl rfl R7.out (by have := Hb.out; omega) V7.out.x.sz ?_
        intro A8 c8 w8 hown8 hg8 hat8
        have hown := V7.out.o
        have hfr8 := Fr.of_grown hg8
        have hg10l : g10 < w7.heap.size := (Array.getElem?_eq_some_iff.1 V7.out.p).1
        have hlo := fun j hj => (hown.lt j hj).1
        refine hK _ _ ⟨?_, ?_⟩
        · intro i hi h
          simp only [List.mem_cons, List.not_mem_nil, or_false] at hi
          rcases hi with rfl | rfl
          · exact cell_fr h hfr8 (fun e => by have := hlo _ e.symm; have := hbk.out; omega)
          · exact cell_fr h hfr8 (fun e => V7.out.ne _ e.symm rfl)
        have V8 : Hid (VInv w w8 key nonce g10 Q L (i + 1) A8 c8) := by
          refine ⟨V7.out.x.frm hfr8 (fun j e => hlo j e.symm), (hfr8.block _ hg10l (fun e => V7.out.ne _ e.symm rfl)).trans V7.out.p, V7.out.g, by rw [htk.out]; exact hown8, fun j hj => ?_⟩
          rcases hat8 with h | h
          · exact V7.out.ne j (h.symm.trans hj)
          · rw [h] at hj; injection hj with hj; omega
        clear hown8 hg8 hat8 hown hfr8 hg10l hlo V7 R7 htk hK hxy htm
        refine os_move rfl rfl rfl (Nat.le_of_ble_eq_true rfl) ?_
        apply Exists.intro
        refine ⟨fun w' K hK => ?_, ?_⟩
        (focus
          go_simp
          exact hK)
        refine os_done ⟨rfl, ?_⟩
        go_wp2_with fail
        go_roundw
        case rel => exact ⟨i + 1, A8, c8, Q, by omega, by go_num, rfl, HQl.out, V8.out⟩
        case measure => simp [intOf]; omega
      · have hzI : ((r : Int) == 0) = false := by simp; omega
        obtain ⟨W, rfl⟩ : ∃ W, W = wr := ⟨_, rfl⟩
        obtain ⟨Q, rfl⟩ : ∃ Q, Q = P := ⟨_, rfl⟩
        have VQ := Lib.hid V.out
        have HQ : Hid (Q.length = 64 ∧ Q = blockP key (ctr + BitVec.ofNat 32 (i / 64)) nonce) := ⟨HP.out.1, HP.out.2 (by have := Hr.out; omega)⟩
        go_wp2_with fail
        clear V HP hzI
        obtain ⟨ad, hA, hcb⟩ := Hs.out.rd i _ (bs_get b i hib)
        subst hA
        have hblk : ad.block < w.heap.size := HF.out _ (Hs.out.foot ad rfl (fun e => by have h2 := bs_length b; rw [e] at h2; simp at h2; omega))
        obtain ⟨y, hy⟩ : ∃ y, y = b[i] := ⟨_, rfl⟩
        rw [← hy] at hcb
        obtain ⟨x, hx⟩ : ∃ x, x = Q[r]'(by rw [HQ.out.1]; exact hr64) := ⟨_, rfl⟩
        obtain ⟨z, hzz⟩ : ∃ z, z = y ^^^ x := ⟨_, rfl⟩
        have hxy := xor_byte y x
        rw [← hzz] at hxy
        have htk : Hid (L.take (i + 1) = L.take i ++ [z]) := by
          have hml2 : i < L.length := by rw [HLn.out]; exact hlt
          show _ = _
          rw [List.take_succ_eq_append_getElem hml2]
          congr 2
          have e : L[i]? = some z := by
            rw [HL.out, xorP_get hib]
            unfold ksP
            rw [← HQ.out.2, ← Hr.out, getD_eq (by rw [HQ.out.1]; exact hr64), ← hy, ← hx, ← hzz]
          rw [List.getElem?_eq_getElem hml2] at e
          exact Option.some.inj e
        have Vd : Hid (VInv w W.drew key nonce g10 Q L i A' c') := VQ.out.frm ((Fr.refl NoB W).drew)
        have hcb2 : Hid (W.drew.cell? (ad.add i) = some (.int .u8 (y.toNat : Int))) := cell_fr hcb (Fr.of_below (M := NoB) Vd.out.x.fr) id
        have hbk : Hid ((ad.add i).block < w.heap.size) := by show _ < _; rw [addr_add_block]; exact hblk
        have hcp : Hid (W.drew.cell? ⟨g10, r, none⟩ = some (.int .u8 (x.toNat : Int))) := by rw [hx]; exact cell_block Vd.out.p (by rw [HQ.out.1]; exact hr64)
        have hrl : (r : Int) < 64 := by omega
        have hr0 : (0 : Int) ≤ (r : Int) := by omega
        have HQl : Hid (Q.length = 64 ∧ ((i + 1) % 64 ≠ 0 → Q = blockP key (ctr + BitVec.ofNat 32 ((i + 1) / 64)) nonce)) := by
          refine ⟨HQ.out.1, fun h => ?_⟩
          rw [show (i + 1) / 64 = i / 64 by omega]; exact HQ.out.2
        clear hy hx hzz hcb hz VQ HQ
        have htm : (i : Int).tmod 64 = (r : Int) := by rw [Int.tmod_eq_emod_of_nonneg hi0]; exact hrI
        refine wp_calm ?_
        refine wp_region_os (fun j w' => match j with
          | 4 => w'.cell? (ad.add i) = some (.int .u8 (y.toNat : Int))
          | 8 => w'.cell? ⟨g10, r, none⟩ = some (.int .u8 (x.toNat : Int))
          | _ => True) [4, 8]
          (.move 0 (.move 1 (.move 2 (.move 3 (.take 4 (.move 5 (.move 6 (.move 7 (.take 8 (.move 9 (.run 10 [4, 8] (.run 11 [4, 8] (.move 12 .done))))))))))))) (by kernel_rfl) (by kernel_rfl) (fun _ _ _ _ _ h => nomatch h.1) ?_
        iterate 4 (
          refine os_move rfl rfl rfl (Nat.le_of_ble_eq_true rfl) ?_
          apply Exists.intro
          refine ⟨fun w' K hK => ?_, ?_⟩
          (focus
            go_simp
            exact hK))
        refine os_yld hcb2.out rfl rfl rfl (Nat.le_of_ble_eq_true rfl) ?_
        apply Exists.intro
        refine ⟨fun w' hS' K hK => ?_, ?_⟩
        (focus
          have hS2 : (fun w' => w'.cell? (ad.add i) = some (.int .u8 (y.toNat : Int))) w' := hS'
          clear hS'
          try dsimp only at hS2
          go_simp
          exact hK)
        iterate 3 (
          refine os_move rfl rfl rfl (Nat.le_of_ble_eq_true rfl) ?_
          apply Exists.intro
          refine ⟨fun w' K hK => ?_, ?_⟩
          (focus
            go_simp
            exact hK))
        refine os_yld hcp.out rfl rfl rfl (Nat.le_of_ble_eq_true rfl) ?_
        apply Exists.intro
        refine ⟨fun w' hS' K hK => ?_, ?_⟩
        (focus
          have hS2 : (fun w' => w'.cell? ⟨g10, r, none⟩ = some (.int .u8 (x.toNat : Int))) w' := hS'
          clear hS'
          try dsimp only at hS2
          go_simp
          exact hK)
        iterate 1 (
          refine os_move rfl rfl rfl (Nat.le_of_ble_eq_true rfl) ?_
          apply Exists.intro
          refine ⟨fun w' K hK => ?_, ?_⟩
          (focus
            go_simp
            exact hK))
        refine os_run rfl rfl (fun K hK => ?_)
        go_wp2_with fail
        refine ⟨?_, ?_⟩
        · intro i hi h
          simp only [List.mem_cons, List.not_mem_nil, or_false] at hi
          rcases hi with rfl | rfl <;> exact Lib.cell?_alloc_marked _ h
        have V7 : Hid (VInv w (W.alloc (.cells #[.int .u8 (z.toNat : Int)] 5)).drew key nonce g10 Q L i A' c') := Vd.out.frm (((Fr.refl NoB W.drew).alloc _))
        have R7 : Hid (Rd (W.alloc (.cells #[.int .u8 (z.toNat : Int)] 5)).drew (some ⟨W.heap.size, 0, none⟩) (bs [z])) := Rd.one W z
        generalize (W.alloc (.cells #[.int .u8 (z.toNat : Int)] 5)).drew = w7 at V7 R7 ⊢
        clear Vd hcb2 hcp
        refine os_run rfl rfl (fun K hK => ?_)
        refine wp_append_bytes (.tmp 29) (.tmp 39) rfl (w.heap.size + 2) A' i c' (L.take i) rfl V7.out.o (some ⟨W.heap.size, 0, none⟩) 1 1 [z] rfl rfl R7.out (by have := Hb.out; omega) V7.out.x.sz ?_
        intro A8 c8 w8 hown8 hg8 hat8
        have hown := V7.out.o
        have hfr8 := Fr.of_grown hg8
        have hg10l : g10 < w7.heap.size := (Array.getElem?_eq_some_iff.1 V7.out.p).1
        have hlo := fun j hj => (hown.lt j hj).1
        refine hK _ _ ⟨?_, ?_⟩
        · intro i hi h
          simp only [List.mem_cons, List.not_mem_nil, or_false] at hi
          rcases hi with rfl | rfl
          · exact cell_fr h hfr8 (fun e => by have := hlo _ e.symm; have := hbk.out; omega)
          · exact cell_fr h hfr8 (fun e => V7.out.ne _ e.symm rfl)
        have V8 : Hid (VInv w w8 key nonce g10 Q L (i + 1) A8 c8) := by
          refine ⟨V7.out.x.frm hfr8 (fun j e => hlo j e.symm), (hfr8.block _ hg10l (fun e => V7.out.ne _ e.symm rfl)).trans V7.out.p, V7.out.g, by rw [htk.out]; exact hown8, fun j hj => ?_⟩
          rcases hat8 with h | h
          · exact V7.out.ne j (h.symm.trans hj)
          · rw [h] at hj; injection hj with hj; omega
        clear hown8 hg8 hat8 hown hfr8 hg10l hlo V7 R7 htk hK hxy htm
        refine os_move rfl rfl rfl (Nat.le_of_ble_eq_true rfl) ?_
        apply Exists.intro
        refine ⟨fun w' K hK => ?_, ?_⟩
        (focus
          go_simp
          exact hK)
        refine os_done ⟨rfl, ?_⟩
        go_wp2_with fail
        go_roundw
        case rel => exact ⟨i + 1, A8, c8, Q, by omega, by go_num, rfl, HQl.out, V8.out⟩
        case measure => simp [intOf]; omega
    · have hiI : decide ((i : Int) < (n : Int)) = false := decide_eq_false (by omega)
      have hin : i = n := by omega
      subst hin
      have Ho : Hid (wr.ownsRow w.heap.size 5 1 (.slice A' i c') i (bs (xorP key ctr nonce b))) := by
        have h := own_mono V.out.o (show w.heap.size ≤ w.heap.size + 2 by omega)
        rw [List.take_of_length_le (by rw [HLn.out]; exact Nat.le_refl _), HL.out] at h; exact h
      go_wp2_with fail
      go_ret
      exact ⟨A', c', rfl, Ho.out, V.out.x.fr⟩
end Go.Proofs.Ytklclbppdoahjaa
/- Digits to the base 4, plainly; in memory. -/
namespace Go.Proofs.Ytklclbppdoahjaa
set_option maxRecDepth 100000
open Go.RowKit

/-- the number of digits -/
def dgval : List Nat → Nat
  | [] => 0
  | x :: l => x + 4 * dgval l
theorem dgval_append (a b : List Nat) : dgval (a ++ b) = dgval a + 4 ^ a.length * dgval b := by
  induction a with
  | nil => simp [dgval]
  | cons x a ih =>
    simp only [List.cons_append, dgval, ih, List.length_cons, Nat.pow_succ, Nat.mul_add]
    rw [show 4 ^ a.length * 4 * dgval b = 4 * (4 ^ a.length * dgval b) by rw [Nat.mul_comm (4 ^ a.length) 4, Nat.mul_assoc]]
    omega
def D4 (l : List Nat) : Prop := ∀ d ∈ l, d < 4
theorem dgval_lt {l : List Nat} (h : D4 l) : dgval l < 4 ^ l.length := by
  induction l with
  | nil => simp [dgval]
  | cons x l ih =>
    have h1 := ih (fun d hd => h d (List.mem_cons_of_mem _ hd))
    have h2 := h x List.mem_cons_self
    simp only [dgval, List.length_cons, Nat.pow_succ]
    omega
theorem dgval_set (l : List Nat) (j : Nat) (hj : j < l.length) (x : Nat) : dgval (l.set j (l[j] + x)) = dgval l + x * 4 ^ j := by
  induction l generalizing j with
  | nil => cases hj
  | cons y l ih =>
    cases j with
    | zero => simp [dgval]; omega
    | succ j =>
      have h := ih j (by simpa using hj)
      simp only [List.set_cons_succ, List.getElem_cons_succ, dgval, h, Nat.pow_succ]
      rw [Nat.mul_add, ← Nat.mul_assoc, ← Nat.mul_assoc, Nat.mul_comm 4 x, Nat.mul_assoc x 4, Nat.mul_comm 4 (4 ^ j), Nat.mul_assoc x]
      omega
theorem dgval_drop (l : List Nat) (i : Nat) (hi : i < l.length) : dgval (l.drop i) = l[i] + 4 * dgval (l.drop (i + 1)) := by
  rw [List.drop_eq_getElem_cons hi]; rfl
theorem dgval_take_drop (l : List Nat) (i : Nat) (hi : i ≤ l.length) : dgval l = dgval (l.take i) + 4 ^ i * dgval (l.drop i) := by
  have h := dgval_append (l.take i) (l.drop i)
  rw [List.take_append_drop, List.length_take, Nat.min_eq_left hi] at h
  exact h
theorem dgval_zero (l : List Nat) (h : ∀ d ∈ l, d = 0) : dgval l = 0 := by
  induction l with
  | nil => rfl
  | cons x l ih =>
    simp only [dgval]
    rw [h x List.mem_cons_self, ih (fun d hd => h d (List.mem_cons_of_mem _ hd))]
theorem dgval_replicate (n : Nat) : dgval (List.replicate n 0) = 0 := dgval_zero _ (fun _ h => (List.mem_replicate.1 h).2)

/-- digits as cells -/
def dg (l : List Nat) : List Value := l.map fun x : Nat => .int .i64 (x : Int)
theorem dg_len (l : List Nat) : (dg l).length = l.length := by simp [dg]
theorem dg_get {l : List Nat} {j : Nat} (h : j < l.length) : (dg l)[j]? = some (.int .i64 (l[j] : Int)) := by simp [dg, h]
theorem dg_append (a b : List Nat) : dg (a ++ b) = dg a ++ dg b := by simp [dg]
theorem dg_set (l : List Nat) (j v : Nat) : (dg l).set j (.int .i64 (v : Int)) = dg (l.set j v) := by simp [dg, List.map_set]
/-- a slice of digits; its block is one of F -/
structure Dg (w : World) (F : Nat → Prop) (A : Option Addr) (n c : Nat) (l : List Nat) : Prop where
  len : l.length = n
  cap : n ≤ c
  at_ : ∀ (j : Nat) (h : j < l.length), ∃ b o, A = some ⟨b, o, none⟩ ∧ F b ∧ w.cell? ⟨b, o + j, none⟩ = some (.int .i64 (l[j] : Int))
theorem Dg.fr {w w' : World} {F M : Nat → Prop} {A : Option Addr} {n c : Nat} {l : List Nat} (h : Dg w F A n c l) (hf : Fr M w w') (hF : ∀ k, F k → k < w.heap.size ∧ ¬ M k) : Dg w' F A n c l :=
  ⟨h.len, h.cap, fun j hj => by
    obtain ⟨b, o, e, hF1, hc⟩ := h.at_ j hj
    exact ⟨b, o, e, hF1, cell_fr hc hf (hF b hF1).2⟩⟩
theorem Dg.belF {w w' : World} {F : Nat → Prop} {A : Option Addr} {n c : Nat} {l : List Nat} (h : Dg w F A n c l) (hb : Below w.heap.size w w') : Dg w' F A n c l :=
  ⟨h.len, h.cap, fun j hj => by
    obtain ⟨b, o, e, hF1, hc⟩ := h.at_ j hj
    exact ⟨b, o, e, hF1, cell_bel hc hb⟩⟩
theorem Dg.mono {w : World} {F G : Nat → Prop} {A : Option Addr} {n c : Nat} {l : List Nat} (h : Dg w F A n c l) (hG : ∀ k, F k → G k) : Dg w G A n c l :=
  ⟨h.len, h.cap, fun j hj => by
    obtain ⟨b, o, e, hF1, hc⟩ := h.at_ j hj
    exact ⟨b, o, e, hG _ hF1, hc⟩⟩
theorem Dg.nil (w : World) (F : Nat → Prop) : Dg w F none 0 0 [] := ⟨rfl, Nat.le_refl _, fun j h => by cases h⟩
theorem Dg.of_own {w : World} {base n c : Nat} {A : Option Addr} {l : List Nat} (h : w.ownsRow base 3 1 (.slice A n c) n (dg l)) :
    Dg w (fun k => base ≤ k ∧ k < w.heap.size) A n c l := by
  have hlen : l.length = n := by have := h.1; rw [dg_len] at this; omega
  rcases h.2 with ⟨h1, _, _⟩ | ⟨g, cap, cur, hv, hb, hh, hn, _⟩
  · injection h1 with h1 h4 h5
    subst h1; subst h5
    have : l = [] := List.eq_nil_of_length_eq_zero (by omega)
    subst this
    exact ⟨hlen, by omega, fun j hj => by cases hj⟩
  · injection hv with h1 _ h5
    subst h1 h5
    refine ⟨hlen, hn, fun j hj => ⟨g, 0, rfl, ⟨hb, (Array.getElem?_eq_some_iff.1 hh).1⟩, ?_⟩⟩
    have hc := h.cellAt j (by omega)
    rw [dg_get hj] at hc
    rw [Nat.zero_add]; exact hc
theorem Dg.take {w : World} {F : Nat → Prop} {A : Option Addr} {n c m : Nat} {l : List Nat} (h : Dg w F A n c l) (hm : m ≤ n) : Dg w F A m c (l.take m) :=
  ⟨by rw [List.length_take, h.len]; omega, by have := h.cap; omega, fun j hj => by
    have hj2 : j < l.length := by rw [List.length_take] at hj; omega
    obtain ⟨b, o, e, hF1, hc⟩ := h.at_ j hj2
    exact ⟨b, o, e, hF1, by rw [List.getElem_take]; exact hc⟩⟩
theorem Dg.drop {w : World} {F : Nat → Prop} {b o n c m : Nat} {l : List Nat} (h : Dg w F (some ⟨b, o, none⟩) n c l) (hm : m ≤ n) : Dg w F (some ⟨b, o + m, none⟩) (n - m) (c - m) (l.drop m) :=
  ⟨by rw [List.length_drop, h.len], by have := h.cap; omega, fun j hj => by
    have hj2 : m + j < l.length := by rw [List.length_drop] at hj; omega
    obtain ⟨b', o', e, hF1, hc⟩ := h.at_ (m + j) hj2
    injection e with e; injection e with e1 e2 _
    subst e1; subst e2
    exact ⟨b, o + m, rfl, hF1, by rw [List.getElem_drop, Nat.add_assoc]; exact hc⟩⟩
theorem Dg.some_ {w : World} {F : Nat → Prop} {A : Option Addr} {n c : Nat} {l : List Nat} (h : Dg w F A n c l) (hn : 0 < n) : ∃ b o, A = some ⟨b, o, none⟩ ∧ F b := by
  obtain ⟨b, o, e, hF, _⟩ := h.at_ 0 (by have := h.len; omega)
  exact ⟨b, o, e, hF⟩
end Go.Proofs.Ytklclbppdoahjaa
/- The reference's digit, carried. -/
namespace Go.Proofs.Ytklclbppdoahjaa
set_option maxRecDepth 100000
open Go.RowKit
attribute [local go_sem] yld yldUpon_value

theorem Try.infoZ : (Try.prog.info? 3).map (fun i => (i.zero, i.size, i.bytes)) = some (some (.int .i64 0), 1, 8) := by kernel_rfl
set_option maxHeartbeats 1000000 in
theorem digit_any {w : World} {F : Nat → Prop} {A : Option Addr} {n c : Nat} {l : List Nat} (h : Dg w F A n c l) (i : Nat) :
    Calls Try.prog 55 #[.slice A n c, .int .i64 (i : Int)] w fun e w' => e = .returned (.int .i64 ((l.getD i 0 : Nat) : Int)) ∧ w = w' := by
  by_cases hi : i < n
  · have hiI : (i : Int) < (n : Int) := by omega
    have hi0 : (0 : Int) ≤ (i : Int) := by omega
    obtain ⟨b, o, rfl, _, hc⟩ := h.at_ i (by have := h.len; omega)
    have hg : Hid (l.getD i 0 = l[i]'(by have := h.len; omega)) := by show _ = _; simp [List.getD, show i < l.length by have := h.len; omega]
    rw [hg.out]
    clear hg
    generalize l[i]'(by have := h.len; omega) = d at hc ⊢
    clear h
    go_enter Try.func55, Try.ntmps55
    go_wp2_with fail
    go_ret
    exact ⟨rfl, rfl⟩
  · have hiI : ¬ (i : Int) < (n : Int) := by omega
    have hg : l.getD i 0 = 0 := by simp [List.getD, show ¬ i < l.length by have := h.len; omega]
    rw [hg]
    clear hg h
    go_enter Try.func55, Try.ntmps55
    go_wp2_with fail
    go_ret
    exact ⟨rfl, rfl⟩
/-- one number behind numbers of one's own -/
theorem append_int {v : Value} {w : World} {ops : Array Oper} {rest : List Oper} {o : Oper} {a : Act} {Q : Exit → Act → World → Prop} (s x : Operand)
    (ho : o.op = .call { callee := .builtin .append, args := #[s, x], argTypes := #[84, 84] }) (hgd : o.guard = none)
    (base : Nat) (A : Option Addr) (n c : Nat) (xs : List Value) (hs : a.eval s = .slice A n c) (w0 : World) (hw : w = w0.alloc (.cells #[v] 3)) (hx : a.eval x = .slice (some ⟨w0.heap.size, 0, none⟩) 1 1)
    (hown : w0.ownsRow base 3 1 (.slice A n c) n xs) (hv : v.oneCell' = true) (hb : n ≤ 1000000) (hbase : base ≤ w0.heap.size)
    (h : ∀ A' c' w', w'.ownsRow base 3 1 (.slice A' (n + 1) c') (n + 1) (xs ++ [v]) → Fr (fun k => base ≤ k) w0 w' → wpList Try.prog ops Q rest (a.put o.dst (.slice A' (n + 1) c')) w') : wpList Try.prog ops Q (o :: rest) a w := by
  subst hw
  obtain ⟨i, hi, z, sz, bt⟩ := info_parts Try.infoZ
  refine wpList_plain hgd fun _ hK => wp_append_rd _ s x 84 ho base 3 i _ 1 8 Try.underlying84 hi z sz bt rfl (by decide) (.slice A n c) n xs hs (own_fr hown (Fr.of_below (M := NoB) (Below.al w0 _)) (fun _ _ e => e)) (some ⟨w0.heap.size, 0, none⟩) 1 1 [v] hx rfl (Rd.of_block (heap_alloc_new w0 (.cells #[v] 3))) (by intro u hu; simp at hu; subst hu; exact hv) (by unfold maxLen; omega) (by omega) (by rw [World.size_alloc]; omega) fun A' c' w1 ho hg _ => hK _ _ (h A' c' w1 ho ?_)
  exact (Fr.of_below (Below.al w0 _)).tr ((Fr.of_grown hg).mono (fun k hk e => (hown.lt k e.symm).1))
set_option maxRecDepth 100000 in
set_option maxHeartbeats 4000000 in
theorem carried_any {w : World} {F : Nat → Prop} {A : Option Addr} {n c : Nat} {l : List Nat} (h : Dg w F A n c l) (hF : ∀ k, F k → k < w.heap.size) (hn : n ≤ 100000) (hx : ∀ x ∈ l, x ≤ 1152921504606846976) :
    Calls Try.prog 63 #[.slice A n c] w fun e w' => ∃ A' n' c' r, e = .returned (.slice A' n' c') ∧ w'.ownsRow w.heap.size 3 1 (.slice A' n' c') n' (dg r) ∧ Below w.heap.size w w' ∧ D4 r ∧ dgval r = dgval l ∧ n' ≤ n + 32 := by
  have H := Lib.hid h; have HF := Lib.hid hF; have HN := Lib.hid hn; have HX := Lib.hid hx
  have HL := Lib.hid h.len
  clear h hF hn hx
  go_enter Try.func63, Try.ntmps63
  go_wp2_with fail
  go_loopw [3, 4, 5] (fun out cy i wr => ∃ (k q : Nat) (A' : Option Addr) (c' : Nat) (r : List Nat), i = .int .i64 (k : Nat) ∧ cy = .int .i64 (q : Nat) ∧ out = .slice A' k c' ∧
      Hid (wr.ownsRow w.heap.size 3 1 (.slice A' k c') k (dg r) ∧ Below w.heap.size w wr ∧ D4 r ∧ dgval r + 4 ^ k * (q + dgval (l.drop k)) = dgval l ∧ ((k ≤ n ∧ q ≤ 1152921504606846976) ∨ (n ≤ k ∧ q * 4 ^ (k - n) ≤ 1152921504606846976 ∧ k ≤ n + 31)))) (fun _ cy i _ => (n - (intOf i).toNat) * 9223372036854775808 + (intOf cy).toNat)
  case atStart => exact ⟨0, 0, none, 0, [], rfl, rfl, rfl, Lib.hid ⟨World.ownsRow_nil _ _ _ _, Below.refl _ _, fun d hd => (by cases hd), by simp [dgval], .inl ⟨Nat.zero_le _, by decide⟩⟩⟩
  case round =>
    obtain ⟨k, q, A1, c1, r, rfl, rfl, rfl, I⟩ := hrel
    have hk0 : (0 : Int) ≤ (k : Int) := by omega
    have hq0 : (0 : Int) ≤ (q : Int) := by omega
    have Hd := Lib.hid (H.out.belF I.out.2.1)
    have hrl : Hid (r.length = k) := by have := I.out.1.1; rw [dg_len] at this; show _ = _; omega
    have hkb : Hid (k ≤ n + 31) := by
      rcases I.out.2.2.2.2 with h1 | h1
      · show _ ≤ _; omega
      · exact h1.2.2
    have hq60 : Hid (q ≤ 1152921504606846976) := by
      rcases I.out.2.2.2.2 with h1 | h1
      · exact h1.2
      · exact Nat.le_trans (Nat.le_mul_of_pos_right _ (Nat.pow_pos (by decide))) h1.2.1
    by_cases hend : ¬ k < n ∧ q = 0
    · obtain ⟨hkn, rfl⟩ := hend
      have hkI : ¬ (k : Int) < (n : Int) := by omega
      have HE := Lib.hid hkn
      go_wp2_with fail
      go_ret
      refine ⟨A1, k, c1, rfl, r, I.out.1, I.out.2.1, I.out.2.2.1, ?_, by have := hkb.out; omega⟩
      have h1 := I.out.2.2.2.1
      rw [List.drop_eq_nil_of_le (by have := HL.out; have := HE.out; omega)] at h1
      simpa [dgval] using h1
    · obtain ⟨x, hxx⟩ : ∃ x, l.getD k 0 = x := ⟨_, rfl⟩
      have hx60 : Hid (x ≤ 1152921504606846976) := by
        rw [← hxx, List.getD_eq_getElem?_getD]
        by_cases hl : k < l.length
        · rw [List.getElem?_eq_getElem hl]; exact HX.out _ (List.getElem_mem hl)
        · rw [List.getElem?_eq_none (by omega)]; exact Nat.zero_le _
      have hdr : Hid (dgval (l.drop k) = x + 4 * dgval (l.drop (k + 1))) := by
        show _ = _
        rw [← hxx, List.getD_eq_getElem?_getD]
        by_cases hl : k < l.length
        · rw [List.getElem?_eq_getElem hl, dgval_drop l k hl]; rfl
        · rw [List.getElem?_eq_none (by omega), List.drop_eq_nil_of_le (by omega), List.drop_eq_nil_of_le (by omega)]; rfl
      have hxn : Hid (¬ k < n → x = 0) := fun h => by
        rw [← hxx, List.getD_eq_getElem?_getD, List.getElem?_eq_none (by have := HL.out; omega)]; rfl
      obtain ⟨v, hv⟩ : ∃ v, x + q = v := ⟨_, rfl⟩
      have hv61 : v ≤ 2305843009213693952 := by have := hx60.out; have := hq60.out; omega
      have hvI : (x : Int) + (q : Int) = (v : Int) := by omega
      have hv0 : (0 : Int) ≤ (v : Int) := by omega
      have HV := Lib.hid hv
      have HE := Lib.hid hend
      have DG := digit_any Hd.out k
      rw [hxx] at DG
      have step : Hid (∀ w' : World, ∀ (A' : Option Addr) (c' : Nat), w'.ownsRow w.heap.size 3 1 (.slice A' (k + 1) c') (k + 1) (dg (r ++ [v % 4])) → Fr (fun j => w.heap.size ≤ j) wr w' →
          (w'.ownsRow w.heap.size 3 1 (.slice A' (k + 1) c') (k + 1) (dg (r ++ [v % 4])) ∧ Below w.heap.size w w' ∧ D4 (r ++ [v % 4]) ∧ dgval (r ++ [v % 4]) + 4 ^ (k + 1) * (v / 4 + dgval (l.drop (k + 1))) = dgval l ∧ ((k + 1 ≤ n ∧ v / 4 ≤ 1152921504606846976) ∨ (n ≤ k + 1 ∧ v / 4 * 4 ^ (k + 1 - n) ≤ 1152921504606846976 ∧ k + 1 ≤ n + 31)))) := by
        intro w' A' c' ho hf
        refine ⟨ho, ((Fr.of_below I.out.2.1).trans hf (fun i _ h => h)).to_below (fun i hi e => by omega), ?_, ?_, ?_⟩
        · intro d hd
          rcases List.mem_append.1 hd with hd | hd
          · exact I.out.2.2.1 d hd
          · simp at hd; omega
        · have h1 := I.out.2.2.2.1
          rw [hdr.out] at h1
          rw [dgval_append, hrl.out, ← h1, Nat.pow_succ, Nat.mul_assoc, Nat.add_assoc, ← Nat.mul_add]
          congr 2
          simp only [dgval]
          omega
        · by_cases hkn : k < n
          · left; have := hx60.out; have := hq60.out; omega
          · right
            have hx0 := hxn.out hkn
            have hq1 : 1 ≤ q := by
              rcases Nat.eq_zero_or_pos q with h | h
              · exact absurd ⟨hkn, h⟩ HE.out
              · exact h
            have hb : q * 4 ^ (k - n) ≤ 1152921504606846976 := by
              rcases I.out.2.2.2.2 with h1 | h1
              · rw [show k - n = 0 by omega]; omega
              · exact h1.2.1
            have hk30 : k - n ≤ 30 := by
              rcases Nat.lt_or_ge 30 (k - n) with h | h
              · have h2 : 4 ^ 31 ≤ 4 ^ (k - n) := Nat.pow_le_pow_right (by decide) h
                have h3 : 4 ^ (k - n) ≤ q * 4 ^ (k - n) := Nat.le_mul_of_pos_left _ hq1
                have h4 : (4 : Nat) ^ 31 = 4611686018427387904 := by decide
                omega
              · exact h
            refine ⟨by omega, ?_, by omega⟩
            have hvq : v = q := by omega
            rw [hvq, show k + 1 - n = (k - n) + 1 by omega, Nat.pow_succ, Nat.mul_comm (4 ^ (k - n)) 4, ← Nat.mul_assoc]
            exact Nat.le_trans (Nat.mul_le_mul_right _ (Nat.div_mul_le_self q 4)) hb
      have hkn5 : k ≤ 1000000 := by have := hkb.out; have := HN.out; omega
      clear hxx hv hdr
      by_cases hkn : k < n
      · have hkI : (k : Int) < (n : Int) := by omega
        go_wp2_with fail
        refine DG.mono ?_
        rintro e w' ⟨rfl, rfl⟩
        go_wp2_with (first
          | (at_builtin
             refine append_int (v := .int .i64 ((v : Int) % 4)) (.tmp 22) (.tmp 25) rfl rfl w.heap.size A1 k c1 (dg r) rfl wr rfl rfl I.out.1 rfl hkn5 I.out.2.1.size ?_
             intro A2 c2 w2 ho hf
             have S2 := Lib.hid (step.out w2 A2 c2 (by rw [dg_append]; have e : dg [v % 4] = [.int .i64 ((v : Int) % 4)] := by simp [dg]
                                                       rw [e]; exact ho) hf)
             clear ho hf))
        go_roundw
        case rel => exact ⟨k + 1, v / 4, A2, c2, r ++ [v % 4], by go_num, by simp, rfl, S2⟩
        case measure =>
          have h1 := HV.out; have h2 := HE.out; have h3 := hx60.out; have h4 := hq60.out
          simp [intOf]
          omega
      · have hkI : ¬ (k : Int) < (n : Int) := by omega
        have hqI : (0 : Int) < (q : Int) := by have := HE.out; omega
        go_wp2_with fail
        refine DG.mono ?_
        rintro e w' ⟨rfl, rfl⟩
        go_wp2_with (first
          | (at_builtin
             refine append_int (v := .int .i64 ((v : Int) % 4)) (.tmp 22) (.tmp 25) rfl rfl w.heap.size A1 k c1 (dg r) rfl wr rfl rfl I.out.1 rfl hkn5 I.out.2.1.size ?_
             intro A2 c2 w2 ho hf
             have S2 := Lib.hid (step.out w2 A2 c2 (by rw [dg_append]; have e : dg [v % 4] = [.int .i64 ((v : Int) % 4)] := by simp [dg]
                                                       rw [e]; exact ho) hf)
             clear ho hf))
        go_roundw
        case rel => exact ⟨k + 1, v / 4, A2, c2, r ++ [v % 4], by go_num, by simp, rfl, S2⟩
        case measure =>
          have h1 := HV.out; have h2 := HE.out; have h3 := hx60.out; have h4 := hq60.out; have h5 := hxn.out hkn
          simp [intOf]
          omega
end Go.Proofs.Ytklclbppdoahjaa
/- The reference's plus, trimmed. -/
namespace Go.Proofs.Ytklclbppdoahjaa
set_option maxRecDepth 100000
open Go.RowKit
attribute [local go_sem] yld yldUpon_value

theorem dgval_take_succ (l : List Nat) (k : Nat) : dgval (l.take (k + 1)) = dgval (l.take k) + 4 ^ k * l.getD k 0 := by
  rw [List.getD_eq_getElem?_getD]
  by_cases hl : k < l.length
  · rw [List.take_succ_eq_append_getElem hl, dgval_append, List.length_take, Nat.min_eq_left (by omega), List.getElem?_eq_getElem hl]
    simp [dgval]
  · rw [List.getElem?_eq_none (by omega), List.take_of_length_le (by omega), List.take_of_length_le (by omega)]; simp
theorem getD_leD {l : List Nat} {B : Nat} (h : ∀ x ∈ l, x ≤ B) (k : Nat) : l.getD k 0 ≤ B := by
  rw [List.getD_eq_getElem?_getD]
  by_cases hl : k < l.length
  · rw [List.getElem?_eq_getElem hl]; exact h _ (List.getElem_mem hl)
  · rw [List.getElem?_eq_none (by omega)]; exact Nat.zero_le _
theorem D4.le {l : List Nat} (h : D4 l) : ∀ x ∈ l, x ≤ 3 := fun x hx => by have := h x hx; omega
set_option maxRecDepth 100000 in
set_option maxHeartbeats 4000000 in
theorem plus_any {w : World} {F G : Nat → Prop} {A B : Option Addr} {n c m d : Nat} {a b : List Nat} (h : Dg w F A n c a) (h' : Dg w G B m d b) (hn : n ≤ 50000) (hm : m ≤ 50000) (ha : ∀ x ∈ a, x ≤ 3) (hb : ∀ x ∈ b, x ≤ 3) :
    Calls Try.prog 54 #[.slice A n c, .slice B m d] w fun e w' => ∃ A' n' c' r, e = .returned (.slice A' n' c') ∧ w'.ownsRow w.heap.size 3 1 (.slice A' n' c') n' (dg r) ∧ Below w.heap.size w w' ∧ D4 r ∧ dgval r = dgval a + dgval b ∧ n' ≤ max n m + 32 := by
  have H := Lib.hid h; have H' := Lib.hid h'; have HN := Lib.hid hn; have HM := Lib.hid hm; have HA := Lib.hid ha; have HB := Lib.hid hb
  have HL := Lib.hid h.len; have HL' := Lib.hid h'.len
  clear h h' ha hb
  obtain ⟨q, hq⟩ : ∃ q : Nat, (if n < m then m else n) = q := ⟨_, rfl⟩
  have hqI : (if n < m then (m : Int) else (n : Int)) = (q : Int) := by rw [← hq]; split <;> rfl
  have hqm : Hid (q = max n m) := by show _ = _; rw [← hq]; split <;> omega
  have hqb : q ≤ 50000 := by have := hqm.out; omega
  clear hq hn hm
  go_enter Try.func54, Try.ntmps54
  go_wp2_with fail
  go_loopw [5, 6] (fun out i wr => ∃ (k : Nat) (A' : Option Addr) (c' : Nat) (r : List Nat), k ≤ q ∧ i = .int .i64 (k : Nat) ∧ out = .slice A' k c' ∧
      Hid (wr.ownsRow w.heap.size 3 1 (.slice A' k c') k (dg r) ∧ Below w.heap.size w wr ∧ (∀ x ∈ r, x ≤ 6) ∧ dgval r = dgval (a.take k) + dgval (b.take k))) (fun _ i _ => q - (intOf i).toNat)
  case atStart => exact ⟨0, none, 0, [], Nat.zero_le _, rfl, rfl, Lib.hid ⟨World.ownsRow_nil _ _ _ _, Below.refl _ _, fun d hd => (by cases hd), by simp [dgval]⟩⟩
  case round =>
    obtain ⟨k, A1, c1, r, hk, rfl, rfl, I⟩ := hrel
    have hk0 : (0 : Int) ≤ (k : Int) := by omega
    have hrl : Hid (r.length = k) := by have := I.out.1.1; rw [dg_len] at this; show _ = _; omega
    by_cases hlt : k < q
    · have hkI : (k : Int) < (q : Int) := by omega
      have hkn5 : k ≤ 1000000 := by omega
      obtain ⟨x, hx⟩ : ∃ x, a.getD k 0 = x := ⟨_, rfl⟩
      obtain ⟨y, hy⟩ : ∃ y, b.getD k 0 = y := ⟨_, rfl⟩
      have DX := digit_any (H.out.belF I.out.2.1) k
      have DY := digit_any (H'.out.belF I.out.2.1) k
      rw [hx] at DX; rw [hy] at DY
      have hx3 : Hid (x ≤ 3) := by rw [← hx]; exact getD_leD HA.out k
      have hy3 : Hid (y ≤ 3) := by rw [← hy]; exact getD_leD HB.out k
      obtain ⟨v, hv⟩ : ∃ v, x + y = v := ⟨_, rfl⟩
      have hvI : (x : Int) + (y : Int) = (v : Int) := by omega
      have hv6 : v ≤ 6 := by have := hx3.out; have := hy3.out; omega
      have step : Hid (∀ w' : World, ∀ (A' : Option Addr) (c' : Nat), w'.ownsRow w.heap.size 3 1 (.slice A' (k + 1) c') (k + 1) (dg (r ++ [v])) → Fr (fun j => w.heap.size ≤ j) wr w' →
          (w'.ownsRow w.heap.size 3 1 (.slice A' (k + 1) c') (k + 1) (dg (r ++ [v])) ∧ Below w.heap.size w w' ∧ (∀ x ∈ r ++ [v], x ≤ 6) ∧ dgval (r ++ [v]) = dgval (a.take (k + 1)) + dgval (b.take (k + 1)))) := by
        intro w' A' c' ho hf
        refine ⟨ho, ((Fr.of_below I.out.2.1).trans hf (fun i _ h => h)).to_below (fun i hi e => by omega), ?_, ?_⟩
        · intro d hd
          rcases List.mem_append.1 hd with hd | hd
          · exact I.out.2.2.1 d hd
          · simp at hd; omega
        · rw [dgval_append, hrl.out, I.out.2.2.2, dgval_take_succ, dgval_take_succ, hx, hy, ← hv]
          simp only [dgval, Nat.mul_zero, Nat.add_zero, Nat.mul_add]
          omega
      have HQ := Lib.hid hlt
      clear hx hy hv
      go_wp2_with fail
      refine DX.mono ?_
      rintro e w' ⟨rfl, rfl⟩
      go_wp2_with fail
      refine DY.mono ?_
      rintro e w' ⟨rfl, rfl⟩
      go_wp2_with (first
        | (at_builtin
           refine append_int (v := .int .i64 (v : Int)) (.tmp 16) (.tmp 24) rfl rfl w.heap.size A1 k c1 (dg r) rfl wr rfl rfl I.out.1 rfl hkn5 I.out.2.1.size ?_
           intro A2 c2 w2 ho hf
           have S2 := Lib.hid (step.out w2 A2 c2 (by rw [dg_append]; exact ho) hf)
           clear ho hf))
      go_roundw
      case rel => exact ⟨k + 1, A2, c2, r ++ [v], by have := HQ.out; omega, by go_num, rfl, S2⟩
      case measure => simp [intOf]; have := HQ.out; omega
    · have hkI : ¬ (k : Int) < (q : Int) := by omega
      have hkq : k = q := by omega
      have hall : Hid (dgval r = dgval a + dgval b) := by
        show _ = _
        rw [I.out.2.2.2, List.take_of_length_le (by have := HL.out; have := hqm.out; omega), List.take_of_length_le (by have := HL'.out; have := hqm.out; omega)]
      have O := Lib.hid I.out.1; have Bw := Lib.hid I.out.2.1; have R6 := Lib.hid I.out.2.2.1
      clear I hkq
      go_wp2_with fail
      refine (carried_any (Dg.of_own O.out) (fun _ h => h.2) (by omega) (fun x hx => Nat.le_trans (R6.out x hx) (by decide))).mono ?_
      rintro e w2 ⟨A2, n2, c2, r2, rfl, ho2, hb2, hd2, hv2, hn2⟩
      have O2 := Lib.hid ho2; have B2 := Lib.hid hb2; have D2 := Lib.hid hd2; have V2 := Lib.hid (hv2.trans hall.out); have N2 := Lib.hid hn2
      clear ho2 hb2 hd2 hv2 hn2
      go_wp2_with fail
      go_ret
      exact ⟨A2, n2, c2, r2, rfl, own_mono O2.out Bw.out.size, Below.tr Bw.out B2.out, D2.out, V2.out, by have := N2.out; have := hqm.out; omega⟩
end Go.Proofs.Ytklclbppdoahjaa
/- The reference's trimmed, times. -/
namespace Go.Proofs.Ytklclbppdoahjaa
set_option maxRecDepth 100000
open Go.RowKit
attribute [local go_sem] yld yldUpon_value

theorem dgval_trim {l : List Nat} {m : Nat} (h : ∀ j, m ≤ j → l.getD j 0 = 0) : dgval (l.take m) = dgval l := by
  by_cases hm : m ≤ l.length
  · rw [dgval_take_drop l m hm, dgval_zero (l.drop m) (fun d hd => by
      obtain ⟨j, hj, rfl⟩ := List.getElem_of_mem hd
      rw [List.length_drop] at hj
      have := h (m + j) (by omega)
      rw [List.getD_eq_getElem?_getD, List.getElem?_eq_getElem (by omega)] at this
      rw [List.getElem_drop]; exact this)]
    simp
  · rw [List.take_of_length_le (by omega)]
theorem dgval_top {l : List Nat} {m : Nat} (hm : 0 < m) (h : l.getD (m - 1) 0 ≠ 0) : 4 ^ (m - 1) ≤ dgval (l.take m) := by
  have h1 := dgval_take_succ l (m - 1)
  rw [show m - 1 + 1 = m by omega] at h1
  rw [h1]
  have : 4 ^ (m - 1) * 1 ≤ 4 ^ (m - 1) * l.getD (m - 1) 0 := Nat.mul_le_mul_left _ (Nat.one_le_iff_ne_zero.2 h)
  omega
set_option maxHeartbeats 2000000 in
theorem trimmed_any {w : World} {F : Nat → Prop} {A : Option Addr} {n c : Nat} {l : List Nat} (h : Dg w F A n c l) (hn : n ≤ 100000) :
    Calls Try.prog 61 #[.slice A n c] w fun e w' => (∃ m, e = .returned (.slice A m c) ∧ m ≤ n ∧ (m = 0 ∨ l.getD (m - 1) 0 ≠ 0) ∧ dgval (l.take m) = dgval l) ∧ w = w' := by
  have H := Lib.hid h; have HL := Lib.hid h.len; have HC := Lib.hid h.cap
  clear h
  go_enter Try.func61, Try.ntmps61
  go_wp2_with fail
  go_loopw [3] (fun i wr => ∃ k : Nat, k ≤ n ∧ i = .int .i64 (k : Nat) ∧ Hid (∀ j, k ≤ j → l.getD j 0 = 0) ∧ w = wr) (fun i _ => (intOf i).toNat)
  case atStart => exact ⟨n, Nat.le_refl _, rfl, Lib.hid (fun j hj => by rw [List.getD_eq_getElem?_getD, List.getElem?_eq_none (by have := HL.out; omega)]; rfl), rfl⟩
  case round =>
    obtain ⟨k, hk, rfl, I, rfl⟩ := hrel
    by_cases hlt : 0 < k
    · obtain ⟨k', rfl⟩ : ∃ k', k = k' + 1 := ⟨k - 1, by omega⟩
      obtain ⟨kk, hkk⟩ : ∃ kk, k' + 1 = kk := ⟨_, rfl⟩
      rw [hkk] at hlt hk I ⊢
      have hk1 : (kk : Int) - 1 = (k' : Int) := by omega
      have hkI : (0 : Int) < (kk : Int) := by omega
      have hkI0 : (0 : Int) ≤ (k' : Int) := by omega
      have hkn : (k' : Int) < (n : Int) := by omega
      obtain ⟨b, o, rfl, _, hc⟩ := H.out.at_ k' (by have := HL.out; omega)
      have hg : l.getD k' 0 = l[k']'(by have := HL.out; omega) := by simp [List.getD, show k' < l.length by have := HL.out; omega]
      have HK := Lib.hid hkk
      generalize l[k']'(by have := HL.out; omega) = d at hc hg
      have HG := Lib.hid hg
      have hkb : kk ≤ 100000 := by omega
      clear hkk hg hlt
      by_cases hd : d = 0
      · subst hd
        go_wp2_with fail
        go_roundw
        case rel => exact ⟨k', by have := HK.out; omega, rfl, Lib.hid (fun j hj => by
          by_cases e : j = k'
          · rw [e, HG.out]
          · exact I.out j (by have := HK.out; omega)), by first | rfl | trivial⟩
        case measure => simp [intOf]; have := HK.out; omega
      · have hdI : ((d : Int) == 0) = false := by simp; omega
        have hmc : kk ≤ c := by have := HC.out; omega
        have hcI : (kk : Int) ≤ (c : Int) := by omega
        have HD := Lib.hid hd
        clear hd
        go_wp2_with fail
        go_ret
        exact ⟨⟨kk, rfl, by have := HK.out; omega, .inr (by rw [show kk - 1 = k' by have := HK.out; omega, HG.out]; exact HD.out), dgval_trim I.out⟩, rfl⟩
    · have hk0 : k = 0 := by omega
      subst hk0
      go_wp2_with fail
      go_ret
      exact ⟨⟨0, rfl, Nat.zero_le _, .inl rfl, dgval_trim I.out⟩, rfl⟩
end Go.Proofs.Ytklclbppdoahjaa
/- The reference's times. -/
namespace Go.Proofs.Ytklclbppdoahjaa
set_option maxRecDepth 100000
open Go.RowKit
attribute [local go_sem] yld yldUpon_value

theorem dg_replicate (n : Nat) : dg (List.replicate n 0) = List.replicate n (.int .i64 0) := by simp [dg]
theorem make_ints {w : World} {ops : Array Oper} {rest : List Oper} {o : Oper} {a : Act} {Q : Exit → Act → World → Prop} (hgd : o.guard = none) (l c : Operand) (hop : o.op = .makeSlice 84 l c)
    (base : Nat) (L C : Int) (n : Nat) (hl : a.eval l = .int .i64 L) (hc : a.eval c = .int .i64 C) (hL : L = (n : Int)) (hC : C = (n : Int)) (hn : n ≤ 1000000) (hb : base ≤ w.heap.size)
    (hK : ∀ g w', Hid (g = w.heap.size) → base ≤ g → w'.ownsRow base 3 1 (.slice (some ⟨g, 0, none⟩) n n) n (dg (List.replicate n 0)) → w.grownBy w' none → wpList Try.prog ops Q rest (a.put o.dst (.slice (some ⟨g, 0, none⟩) n n)) w') :
    wpList Try.prog ops Q (o :: rest) a w := by
  obtain ⟨i0, hi, hz0, hz1, hz2⟩ := info_parts Try.infoZ
  refine wpList_make_full w hgd l c 84 hop base 3 i0 (.int .i64 0) 1 Try.underlying84 hi hz0 hz1 .i64 .i64 L C n hl hc hL hC (by rw [hz2]; omega) (by simp only [maxLen]; omega) hb ?_
  intro w' h1 h2
  refine hK _ w' (Lib.hid rfl) hb ?_ h2
  rw [dg_replicate]
  have e : (madeCells (Value.int .i64 0).cells (n * 1)).toList = List.replicate n (.int .i64 0) := by
    rw [Nat.mul_one]; exact toList_madeCells_one _ _
  rw [e] at h1
  exact h1
/-- where times stands: i rows, and k of the next -/
structure TiI (w wr : World) (g N i k m : Nat) (a b r : List Nat) : Prop where
  own : wr.ownsRow w.heap.size 3 1 (.slice (some ⟨g, 0, none⟩) N N) N (dg r)
  bel : Below w.heap.size w wr
  le : ∀ x ∈ r, x ≤ 9 * (i * m + k)
  val : dgval r = dgval (a.take i) * dgval b + a.getD i 0 * 4 ^ i * dgval (b.take k)
  ge : w.heap.size ≤ g
theorem TiI.rlen {w wr : World} {g N i k m : Nat} {a b r : List Nat} (h : TiI w wr g N i k m a b r) : r.length = N := by have := h.own.1; rw [dg_len] at this; omega
theorem TiI.step {w wr : World} {g N i k m x y e v : Nat} {a b r : List Nat} (h : TiI w wr g N i k m a b r) (hx : a.getD i 0 = x) (hy : b.getD k 0 = y) (hx3 : x ≤ 3) (hy3 : y ≤ 3) (hj : i + k < N) (he : r.getD (i + k) 0 = e) (hv : e + x * y = v) :
    TiI w (wr.setCell ⟨g, i + k, none⟩ (.int .i64 (v : Int))) g N i (k + 1) m a b (r.set (i + k) v) := by
  have hl := h.rlen
  have hs := h.own.stored (i + k) (.int .i64 (v : Int))
  have hjr : i + k < r.length := by omega
  have hee : e = r[i + k] := by rw [← he]; simp [List.getD, hjr]
  have hxy : x * y ≤ 9 := Nat.mul_le_mul hx3 hy3
  refine ⟨by rw [← dg_set]; exact hs.1, h.bel.grown hs.2 h.bel.size (fun j hj => by injection hj with hj; rw [← hj]; exact h.ge), ?_, ?_, h.ge⟩
  · intro z hz
    rcases List.mem_or_eq_of_mem_set hz with hz | hz
    · have := h.le z hz; omega
    · have := h.le r[i + k] (List.getElem_mem hjr); omega
  · rw [← hv, hee, dgval_set r (i + k) hjr, h.val, dgval_take_succ, hx, hy, Nat.mul_add, Nat.pow_add, Nat.add_assoc]
    congr 2
    ac_rfl
theorem TiI.next {w wr : World} {g N i m : Nat} {a b r : List Nat} (h : TiI w wr g N i m m a b r) (hb : b.length = m) : TiI w wr g N (i + 1) 0 m a b r := by
  refine ⟨h.own, h.bel, fun z hz => by have := h.le z hz; rw [Nat.add_mul, Nat.one_mul]; omega, ?_, h.ge⟩
  rw [h.val, show b.take m = b from List.take_of_length_le (by omega), dgval_take_succ, Nat.add_mul]
  simp only [List.take_zero, dgval, Nat.mul_zero, Nat.add_zero]
  congr 1
  ac_rfl
set_option maxRecDepth 100000 in
set_option maxHeartbeats 4000000 in
theorem rTimes_any {w : World} {F G : Nat → Prop} {A B : Option Addr} {n c m d : Nat} {a b : List Nat} (h : Dg w F A n c a) (h' : Dg w G B m d b) (hn : n ≤ 1000) (hm : m ≤ 1000) (ha : ∀ x ∈ a, x ≤ 3) (hb : ∀ x ∈ b, x ≤ 3) :
    Calls Try.prog 53 #[.slice A n c, .slice B m d] w fun e w' => ∃ A' n' c' r, e = .returned (.slice A' n' c') ∧ w'.ownsRow w.heap.size 3 1 (.slice A' n' c') n' (dg r) ∧ Below w.heap.size w w' ∧ D4 r ∧ dgval r = dgval a * dgval b ∧ n' ≤ n + m + 32 := by
  have H := Lib.hid h; have H' := Lib.hid h'; have HA := Lib.hid ha; have HB := Lib.hid hb
  have HL := Lib.hid h.len; have HL' := Lib.hid h'.len
  clear h h' ha hb
  obtain ⟨N, hN⟩ : ∃ N, n + m = N := ⟨_, rfl⟩
  have hNI : (n : Int) + (m : Int) = (N : Int) := by omega
  have hNb : N ≤ 2000 := by omega
  have HN := Lib.hid hN
  have Hnm : Hid (n ≤ 1000 ∧ m ≤ 1000) := ⟨hn, hm⟩
  clear hN
  go_enter Try.func53, Try.ntmps53
  go_wp2_with (first
    | (refine make_ints rfl (.tmp 12) (.tmp 12) rfl w.heap.size (N : Int) (N : Int) N rfl rfl rfl rfl (by omega) (Nat.le_refl _) ?_
       intro g w1 hg hge ho hgr
       have I1 : Hid (TiI w w1 g N 0 0 m a b (List.replicate N 0)) := ⟨ho, (Below.refl _ _).grown hgr (Nat.le_refl _) (fun j hj => by cases hj), fun x hx => by rw [(List.mem_replicate.1 hx).2]; exact Nat.zero_le _, by simp [dgval_replicate, dgval], hge⟩
       clear hg hge ho hgr))
  go_loopw [6] (fun z wr => ∃ (i : Nat) (r : List Nat), i ≤ n ∧ z = .int .i64 (i : Nat) ∧ Hid (TiI w wr g N i 0 m a b r)) (fun z _ => n - (intOf z).toNat)
  case atStart => exact ⟨0, _, Nat.zero_le _, rfl, I1⟩
  case round =>
    clear I1
    obtain ⟨i, r, hi, rfl, I⟩ := hrel
    have hi0 : (0 : Int) ≤ (i : Int) := by omega
    by_cases hlt : i < n
    · have hiI : (i : Int) < (n : Int) := by omega
      have HI := Lib.hid hlt
      obtain ⟨ba, oa, rfl, _, ca⟩ := H.out.at_ i (by have := HL.out; omega)
      obtain ⟨x, hx⟩ : ∃ x, a.getD i 0 = x := ⟨_, rfl⟩
      have hxe : a[i]'(by have := HL.out; omega) = x := by rw [← hx]; simp [List.getD, show i < a.length by have := HL.out; omega]
      rw [hxe] at ca
      have CA := Lib.hid ca
      have hx3 : Hid (x ≤ 3) := by rw [← hx]; exact getD_leD HA.out i
      have HX := Lib.hid hx
      clear hxe ca hx hlt
      go_wp2_with fail
      go_loopw [7] (fun z w2 => ∃ (k : Nat) (r : List Nat), k ≤ m ∧ z = .int .i64 (k : Nat) ∧ Hid (TiI w w2 g N i k m a b r)) (fun z _ => m - (intOf z).toNat)
      case atStart => exact ⟨0, r, Nat.zero_le _, rfl, I⟩
      case round =>
        clear I
        obtain ⟨k, r, hk, rfl, I⟩ := hrel
        have hk0 : (0 : Int) ≤ (k : Int) := by omega
        by_cases hkm : k < m
        · have hkI : (k : Int) < (m : Int) := by omega
          have HK := Lib.hid hkm
          obtain ⟨bb, ob, rfl, _, cb⟩ := H'.out.at_ k (by have := HL'.out; omega)
          obtain ⟨y, hy⟩ : ∃ y, b.getD k 0 = y := ⟨_, rfl⟩
          have hye : b[k]'(by have := HL'.out; omega) = y := by rw [← hy]; simp [List.getD, show k < b.length by have := HL'.out; omega]
          rw [hye] at cb
          have hy3 : Hid (y ≤ 3) := by rw [← hy]; exact getD_leD HB.out k
          have HY := Lib.hid hy
          obtain ⟨j, hj⟩ : ∃ j, i + k = j := ⟨_, rfl⟩
          have hjI : (i : Int) + (k : Int) = (j : Int) := by omega
          have hjN : j < N := by have := HI.out; have := HN.out; omega
          have hjN2 : (j : Int) < (N : Int) := by omega
          have hj0 : (0 : Int) ≤ (j : Int) := by omega
          have hjw : IntKind.i64.wrap (j : Int) = (j : Int) := by rw [IntKind.wrap_i64]; omega
          have hrl := I.out.rlen
          obtain ⟨e, he⟩ : ∃ e, r.getD j 0 = e := ⟨_, rfl⟩
          have hee : r[j]'(by omega) = e := by rw [← he]; simp [List.getD, show j < r.length by omega]
          have heb : e ≤ 9 * (i * m + k) := by rw [← hee]; exact I.out.le _ (List.getElem_mem _)
          have hib : i * m ≤ 1000 * 1000 := Nat.mul_le_mul (by have := HI.out; have := Hnm.out; omega) Hnm.out.2
          obtain ⟨p, hp⟩ : ∃ p, x * y = p := ⟨_, rfl⟩
          have hp9 : p ≤ 9 := by rw [← hp]; exact Nat.mul_le_mul hx3.out hy3.out
          have hpI : (x : Int) * (y : Int) = (p : Int) := by rw [← hp]; exact (Int.natCast_mul x y).symm
          have hpw : IntKind.i64.wrap (p : Int) = (p : Int) := by rw [IntKind.wrap_i64]; omega
          obtain ⟨v, hv⟩ : ∃ v, e + p = v := ⟨_, rfl⟩
          have hvI : (e : Int) + (p : Int) = (v : Int) := by omega
          have hvw : IntKind.i64.wrap (v : Int) = (v : Int) := by rw [IntKind.wrap_i64]; have := Hnm.out; omega
          have co : wr.cell? ⟨g, j, none⟩ = some (.int .i64 (e : Int)) := by
            rw [I.out.own.cellAt j (by omega), dg_get (by omega), hee]
          have fo := I.out.own.frozenAt j
          have ca := cell_bel CA.out I.out.bel
          have cb2 := cell_bel cb I.out.bel
          have la := block_lt_of ca
          have lb := block_lt_of cb2
          have lo := block_lt_of co
          have S2 := Lib.hid (I.out.step (e := e) (v := v) HX.out HY.out hx3.out hy3.out (by omega) (by rw [hj]; exact he) (by rw [hp]; first | done | exact hv))
          rw [hj] at S2
          have HJ := Lib.hid hj
          clear hy hye cb hj hrl he hee heb hib hp hv hkm
          go_wp2_with fail
          refine wp_calm ?_
          refine wp_region_os (fun _ w' => Below (wr).drew.heap.size (wr).drew w') [9, 13, 17] (.move 0 (.move 1 (.move 2 (.move 3 (.move 4 (.move 5 (.move 6 (.move 7 (.move 8 (.take 9 (.move 10 (.move 11 (.move 12 (.take 13 (.move 14 (.move 15 (.move 16 (.take 17 (.move 18 (.move 19 (.move 20 (.run 21 [] .done)))))))))))))))))))))) (by kernel_rfl) (by kernel_rfl) (fun _ _ _ _ _ h => nomatch h.1) ?_
          have hS0 : Below (wr).drew.heap.size (wr).drew (wr).drew := Below.refl _ _
          refine os_move rfl rfl rfl (Nat.le_of_ble_eq_true rfl) ?_
          apply Exists.intro
          refine ⟨fun w' K hK => ?_, ?_⟩
          (focus
            go_simp
            exact hK)
          refine os_move rfl rfl rfl (Nat.le_of_ble_eq_true rfl) ?_
          apply Exists.intro
          refine ⟨fun w' K hK => ?_, ?_⟩
          (focus
            go_simp
            exact hK)
          refine os_move rfl rfl rfl (Nat.le_of_ble_eq_true rfl) ?_
          apply Exists.intro
          refine ⟨fun w' K hK => ?_, ?_⟩
          (focus
            go_simp
            exact hK)
          refine os_move rfl rfl rfl (Nat.le_of_ble_eq_true rfl) ?_
          apply Exists.intro
          refine ⟨fun w' K hK => ?_, ?_⟩
          (focus
            go_simp
            exact hK)
          refine os_move rfl rfl rfl (Nat.le_of_ble_eq_true rfl) ?_
          apply Exists.intro
          refine ⟨fun w' K hK => ?_, ?_⟩
          (focus
            go_simp
            exact hK)
          refine os_move rfl rfl rfl (Nat.le_of_ble_eq_true rfl) ?_
          apply Exists.intro
          refine ⟨fun w' K hK => ?_, ?_⟩
          (focus
            go_simp
            exact hK)
          refine os_move rfl rfl rfl (Nat.le_of_ble_eq_true rfl) ?_
          apply Exists.intro
          refine ⟨fun w' K hK => ?_, ?_⟩
          (focus
            go_simp
            exact hK)
          refine os_move rfl rfl rfl (Nat.le_of_ble_eq_true rfl) ?_
          apply Exists.intro
          refine ⟨fun w' K hK => ?_, ?_⟩
          (focus
            go_simp
            exact hK)
          refine os_move rfl rfl rfl (Nat.le_of_ble_eq_true rfl) ?_
          apply Exists.intro
          refine ⟨fun w' K hK => ?_, ?_⟩
          (focus
            go_simp
            exact hK)
          refine os_yld hS0 rfl rfl rfl (Nat.le_of_ble_eq_true rfl) ?_
          apply Exists.intro
          refine ⟨fun w' hS' K hK => ?_, ?_⟩
          (focus
            obtain ⟨hcc, hff⟩ := bcellB (Below.undr hS')
            clear hS'
            go_simp
            exact hK)
          refine os_move rfl rfl rfl (Nat.le_of_ble_eq_true rfl) ?_
          apply Exists.intro
          refine ⟨fun w' K hK => ?_, ?_⟩
          (focus
            go_simp
            exact hK)
          refine os_move rfl rfl rfl (Nat.le_of_ble_eq_true rfl) ?_
          apply Exists.intro
          refine ⟨fun w' K hK => ?_, ?_⟩
          (focus
            go_simp
            exact hK)
          refine os_move rfl rfl rfl (Nat.le_of_ble_eq_true rfl) ?_
          apply Exists.intro
          refine ⟨fun w' K hK => ?_, ?_⟩
          (focus
            go_simp
            exact hK)
          refine os_yld hS0 rfl rfl rfl (Nat.le_of_ble_eq_true rfl) ?_
          apply Exists.intro
          refine ⟨fun w' hS' K hK => ?_, ?_⟩
          (focus
            obtain ⟨hcc, hff⟩ := bcellB (Below.undr hS')
            clear hS'
            go_simp
            exact hK)
          refine os_move rfl rfl rfl (Nat.le_of_ble_eq_true rfl) ?_
          apply Exists.intro
          refine ⟨fun w' K hK => ?_, ?_⟩
          (focus
            go_simp
            exact hK)
          refine os_move rfl rfl rfl (Nat.le_of_ble_eq_true rfl) ?_
          apply Exists.intro
          refine ⟨fun w' K hK => ?_, ?_⟩
          (focus
            go_simp
            exact hK)
          refine os_move rfl rfl rfl (Nat.le_of_ble_eq_true rfl) ?_
          apply Exists.intro
          refine ⟨fun w' K hK => ?_, ?_⟩
          (focus
            go_simp
            exact hK)
          refine os_yld hS0 rfl rfl rfl (Nat.le_of_ble_eq_true rfl) ?_
          apply Exists.intro
          refine ⟨fun w' hS' K hK => ?_, ?_⟩
          (focus
            obtain ⟨hcc, hff⟩ := bcellB (Below.undr hS')
            clear hS'
            go_simp
            exact hK)
          refine os_move rfl rfl rfl (Nat.le_of_ble_eq_true rfl) ?_
          apply Exists.intro
          refine ⟨fun w' K hK => ?_, ?_⟩
          (focus
            go_simp
            exact hK)
          refine os_move rfl rfl rfl (Nat.le_of_ble_eq_true rfl) ?_
          apply Exists.intro
          refine ⟨fun w' K hK => ?_, ?_⟩
          (focus
            go_simp
            exact hK)
          refine os_move rfl rfl rfl (Nat.le_of_ble_eq_true rfl) ?_
          apply Exists.intro
          refine ⟨fun w' K hK => ?_, ?_⟩
          (focus
            go_simp
            exact hK)
          refine os_run rfl rfl (fun K hK => ?_)
          go_wp2_with fail
          refine ⟨fun _ hk => absurd hk List.not_mem_nil, ?_⟩
          refine os_done ⟨rfl, ?_⟩
          go_wp2_with fail
          have I2 := Lib.hid ((Below.dr1 (wr.setCell ⟨g, j, none⟩ (.int .i64 (v : Int)))))
          have S3 : Hid (TiI w (wr.setCell ⟨g, j, none⟩ (.int .i64 (v : Int))).drew g N i (k + 1) m a b (r.set j v)) :=
            ⟨own_fr S2.out.own (Fr.of_below (M := NoB) I2.out) (fun _ _ e => e), Below.tr S2.out.bel I2.out, S2.out.le, S2.out.val, S2.out.ge⟩
          have hmb : m ≤ 1000 := Hnm.out.2
          clear S2 I2 I hm
          go_roundw
          case rel => exact ⟨k + 1, r.set j v, by have := HK.out; omega, by go_num, S3⟩
          case measure => simp [intOf]; have := HK.out; omega
        · have hkI : ¬ (k : Int) < (m : Int) := by omega
          have hkm2 : k = m := by omega
          have I2 : Hid (TiI w wr g N (i + 1) 0 m a b r) := by rw [hkm2] at I; exact I.out.next HL'.out
          have hnb : n ≤ 1000 := Hnm.out.1
          clear I hkm2 hn
          go_wp2_with fail
          go_roundw
          case rel => exact ⟨i + 1, r, by have := HI.out; omega, by go_num, I2⟩
          case measure => simp [intOf]; have := HI.out; omega
    · have hiI : ¬ (i : Int) < (n : Int) := by omega
      have hin : i = n := by omega
      have hall : Hid (dgval r = dgval a * dgval b) := by
        show _ = _
        rw [I.out.val, hin, show a.take n = a from List.take_of_length_le (by have := HL.out; omega)]
        simp [dgval]
      have hle : Hid (∀ x ∈ r, x ≤ 1152921504606846976) := fun z hz => by
        have h1 := I.out.le z hz
        have h2 : i * m ≤ 1000 * 1000 := Nat.mul_le_mul (by have := Hnm.out; omega) Hnm.out.2
        omega
      have O := Lib.hid I.out.own; have Bw := Lib.hid I.out.bel
      clear I hin
      go_wp2_with fail
      refine (carried_any (Dg.of_own O.out) (fun _ h => h.2) (by omega) hle.out).mono ?_
      rintro e w2 ⟨A2, n2, c2, r2, rfl, ho2, hb2, hd2, hv2, hn2⟩
      have O2 := Lib.hid ho2; have B2 := Lib.hid hb2; have D2 := Lib.hid hd2; have V2 := Lib.hid (hv2.trans hall.out); have N2 := Lib.hid hn2
      clear ho2 hb2 hd2 hv2 hn2
      go_wp2_with fail
      go_ret
      exact ⟨A2, n2, c2, r2, rfl, own_mono O2.out Bw.out.size, Below.tr Bw.out B2.out, D2.out, V2.out, by have := N2.out; have := HN.out; omega⟩
end Go.Proofs.Ytklclbppdoahjaa
/- The reference's p, below. -/
namespace Go.Proofs.Ytklclbppdoahjaa
set_option maxRecDepth 100000
open Go.RowKit
attribute [local go_sem] yld yldUpon_value

def pD : List Nat := 3 :: 2 :: List.replicate 63 3
theorem pD_val : dgval pD = 1361129467683753853853498429727072845819 := by decide +kernel
theorem pD_len : pD.length = 65 := rfl
theorem pD_le : ∀ x ∈ pD, x ≤ 3 := by decide
theorem pD_set : (List.replicate 65 3).set 1 2 = pD := by decide
set_option maxHeartbeats 2000000 in
theorem p_any (w : World) : Calls Try.prog 66 #[] w fun e w' => ∃ A c, e = .returned (.slice A 65 c) ∧ w'.ownsRow w.heap.size 3 1 (.slice A 65 c) 65 (dg pD) ∧ Below w.heap.size w w' := by
  go_enter Try.func66, Try.ntmps66
  go_wp2_with fail
  go_loopw [1, 2] (fun out i wr => ∃ (k : Nat) (A' : Option Addr) (c' : Nat), k ≤ 65 ∧ i = .int .i64 (k : Nat) ∧ out = .slice A' k c' ∧ Hid (wr.ownsRow w.heap.size 3 1 (.slice A' k c') k (dg (List.replicate k 3)) ∧ Below w.heap.size w wr)) (fun _ i _ => 65 - (intOf i).toNat)
  case atStart => exact ⟨0, none, 0, by omega, rfl, rfl, World.ownsRow_nil _ _ _ _, Below.refl _ _⟩
  case round =>
    obtain ⟨k, A1, c1, hk, rfl, rfl, I⟩ := hrel
    have hk0 : (0 : Int) ≤ (k : Int) := by omega
    by_cases hlt : k < 65
    · have hkI : (k : Int) < 65 := by omega
      have hkn5 : k ≤ 1000000 := by omega
      have HK := Lib.hid hlt
      go_wp2_with (first
        | (at_builtin
           refine append_int (v := .int .i64 3) (.tmp 7) (.tmp 8) rfl rfl w.heap.size A1 k c1 (dg (List.replicate k 3)) rfl wr rfl rfl I.out.1 rfl hkn5 I.out.2.size ?_
           intro A2 c2 w2 ho hf
           have S2 : Hid (w2.ownsRow w.heap.size 3 1 (.slice A2 (k + 1) c2) (k + 1) (dg (List.replicate (k + 1) 3)) ∧ Below w.heap.size w w2) :=
             ⟨by rw [List.replicate_succ', dg_append]; exact ho, ((Fr.of_below I.out.2).trans hf (fun i _ h => h)).to_below (fun i hi e => by omega)⟩
           clear ho hf))
      go_roundw
      case rel => exact ⟨k + 1, A2, c2, by have := HK.out; omega, by go_num, rfl, S2⟩
      case measure => simp [intOf]; have := HK.out; omega
    · have hk65 : k = 65 := by omega
      subst hk65
      obtain ⟨g, cap, hv, _, _⟩ := I.out.1.form (by decide)
      injection hv with hA1 _ hc1
      subst hA1 hc1
      have hcell : wr.cell? ⟨g, 1, none⟩ = some (.int .i64 3) := by rw [I.out.1.cellAt 1 (by decide)]; rfl
      have hfz := I.out.1.frozenAt 1
      have hs := I.out.1.stored 1 (.int .i64 2)
      have S2 : Hid ((wr.setCell ⟨g, 1, none⟩ (.int .i64 2)).ownsRow w.heap.size 3 1 (.slice (some ⟨g, 0, none⟩) 65 c1) 65 (dg pD) ∧ Below w.heap.size w (wr.setCell ⟨g, 1, none⟩ (.int .i64 2))) :=
        ⟨by rw [← pD_set, ← dg_set]; exact hs.1, I.out.2.grown hs.2 I.out.2.size (fun j hj => (I.out.1.lt j (by rw [← hj]; rfl)).1)⟩
      clear hs
      go_wp2_with fail
      go_ret
      exact ⟨some ⟨g, 0, none⟩, c1, rfl, S2.out.1, S2.out.2⟩
theorem dgval_ext {a b : List Nat} (h : ∀ j, a.getD j 0 = b.getD j 0) : dgval a = dgval b := by
  induction a generalizing b with
  | nil =>
    rw [dgval_zero b (fun d hd => by
      obtain ⟨j, hj, rfl⟩ := List.getElem_of_mem hd
      have := h j
      rw [List.getD_eq_getElem?_getD, List.getD_eq_getElem?_getD, List.getElem?_eq_getElem hj] at this
      simpa using this.symm)]
    rfl
  | cons x a ih =>
    cases b with
    | nil =>
      rw [dgval_zero (x :: a) (fun d hd => by
        obtain ⟨j, hj, rfl⟩ := List.getElem_of_mem hd
        have := h j
        rw [List.getD_eq_getElem?_getD, List.getD_eq_getElem?_getD, List.getElem?_eq_getElem hj] at this
        simpa using this)]
      rfl
    | cons y b =>
      have h0 := h 0
      simp at h0
      rw [dgval, dgval, h0, ih (b := b) (fun j => by have := h (j + 1); simpa using this)]
theorem dgval_split (l : List Nat) (i : Nat) : dgval l = dgval (l.take i) + 4 ^ i * l.getD i 0 + 4 ^ (i + 1) * dgval (l.drop (i + 1)) := by
  rw [← dgval_take_succ]
  by_cases h : i + 1 ≤ l.length
  · exact dgval_take_drop l (i + 1) h
  · rw [List.take_of_length_le (by omega), List.drop_eq_nil_of_le (by omega)]; simp [dgval]
theorem dgval_take_lt {l : List Nat} (h : ∀ x ∈ l, x ≤ 3) (i : Nat) : dgval (l.take i) < 4 ^ i := by
  have h1 : D4 (l.take i) := fun d hd => by have := h d (List.mem_of_mem_take hd); omega
  have h2 := dgval_lt h1
  rw [List.length_take] at h2
  exact Nat.lt_of_lt_of_le h2 (Nat.pow_le_pow_right (by decide) (Nat.min_le_left _ _))
theorem dgval_cmp {a b : List Nat} (ha : ∀ x ∈ a, x ≤ 3) {i : Nat} (hu : ∀ j, i < j → a.getD j 0 = b.getD j 0) (hne : a.getD i 0 < b.getD i 0) : dgval a < dgval b := by
  have e : dgval (a.drop (i + 1)) = dgval (b.drop (i + 1)) := dgval_ext fun j => by
    have := hu (i + 1 + j) (by omega)
    simp only [List.getD_eq_getElem?_getD, List.getElem?_drop] at this ⊢
    exact this
  rw [dgval_split a i, dgval_split b i, e]
  have h1 := dgval_take_lt ha i
  have h2 : 4 ^ i * (a.getD i 0 + 1) ≤ 4 ^ i * b.getD i 0 := Nat.mul_le_mul_left _ hne
  rw [Nat.mul_add] at h2
  omega
set_option maxHeartbeats 4000000 in
theorem below_any {w : World} {F : Nat → Prop} {A : Option Addr} {n c : Nat} {l : List Nat} (h : Dg w F A n c l) (hn : n ≤ 100000) (hd : ∀ x ∈ l, x ≤ 3) :
    Calls Try.prog 62 #[.slice A n c] w fun e w' => e = .returned (.bool (decide (dgval l < 1361129467683753853853498429727072845819))) ∧ Below w.heap.size w w' := by
  have H := Lib.hid h; have HL := Lib.hid h.len; have HD := Lib.hid hd
  clear h hd
  obtain ⟨M, hM⟩ : ∃ M : Nat, (if n < 65 then 65 else n) = M := ⟨_, rfl⟩
  have hMI : (if (n : Int) < 65 then (65 : Int) else (n : Int)) = (M : Int) := by rw [← hM]; split <;> split <;> omega
  have HM : Hid (n ≤ M ∧ 65 ≤ M) := by show _ ∧ _; rw [← hM]; split <;> omega
  have hMb : M ≤ 100000 := by rw [← hM]; split <;> omega
  clear hM hn
  go_enter Try.func62, Try.ntmps62
  go_wp2_with fail
  refine (p_any w).mono ?_
  rintro e w1 ⟨PA, pc, rfl, ho, hb⟩
  have P := Lib.hid (Dg.of_own ho); have B1 := Lib.hid hb
  have H1 := Lib.hid (H.out.belF hb)
  clear ho hb
  go_wp2_with fail
  go_loopw [4] (fun z wr => ∃ k : Nat, k ≤ M ∧ z = .int .i64 ((k : Int) - 1) ∧ Hid (∀ j, k ≤ j → l.getD j 0 = pD.getD j 0) ∧ w1 = wr) (fun z _ => (intOf z + 1).toNat)
  case atStart => exact ⟨M, Nat.le_refl _, rfl, Lib.hid (fun j hj => by
    rw [List.getD_eq_getElem?_getD, List.getD_eq_getElem?_getD, List.getElem?_eq_none (by have := HL.out; have := HM.out; omega), List.getElem?_eq_none (by rw [pD_len]; have := HM.out; omega)]), rfl⟩
  case round =>
    obtain ⟨k, hk, rfl, I, rfl⟩ := hrel
    by_cases hlt : 0 < k
    · obtain ⟨k', rfl⟩ : ∃ k', k = k' + 1 := ⟨k - 1, by omega⟩
      obtain ⟨kk, hkk⟩ : ∃ kk, k' + 1 = kk := ⟨_, rfl⟩
      rw [hkk] at hlt hk I ⊢
      have hk1 : (kk : Int) - 1 = (k' : Int) := by omega
      have hkI0 : (0 : Int) ≤ (k' : Int) := by omega
      have hkb : k' ≤ 100000 := by omega
      have HK := Lib.hid hkk
      have DX := digit_any H1.out k'
      have DY := digit_any P.out k'
      obtain ⟨x, hx⟩ : ∃ x, l.getD k' 0 = x := ⟨_, rfl⟩
      obtain ⟨y, hy⟩ : ∃ y, pD.getD k' 0 = y := ⟨_, rfl⟩
      rw [hx] at DX; rw [hy] at DY
      have HX := Lib.hid hx; have HY := Lib.hid hy; have HKM := Lib.hid hk
      rw [hk1]
      clear hkk hlt hk hx hy hk1
      by_cases hxy : x = y
      · have hxyI : ((x : Int) != (y : Int)) = false := by simp [hxy]
        have hxe := Lib.hid hxy
        clear hxy
        go_wp2_with fail
        refine DX.mono ?_
        rintro e w' ⟨rfl, rfl⟩
        go_wp2_with fail
        refine DY.mono ?_
        rintro e w' ⟨rfl, rfl⟩
        go_wp2_with fail
        go_roundw
        case rel => exact ⟨k', by have := HK.out; have := HKM.out; omega, rfl, Lib.hid (fun j hj => by
          by_cases e : j = k'
          · rw [e, HX.out, HY.out, hxe.out]
          · exact I.out j (by have := HK.out; omega)), by first | rfl | trivial⟩
        case measure => simp [intOf]
      · have hxyI : ((x : Int) != (y : Int)) = true := by simp; omega
        have hres : Hid (decide (dgval l < 1361129467683753853853498429727072845819) = decide ((x : Int) < (y : Int))) := by
          show _ = _
          rw [← pD_val]
          have hu : ∀ j, k' < j → l.getD j 0 = pD.getD j 0 := fun j hj => I.out j (by have := HK.out; omega)
          rcases Nat.lt_or_ge x y with h | h
          · rw [decide_eq_true (dgval_cmp HD.out hu (by rw [HX.out, HY.out]; exact h)), decide_eq_true (by omega)]
          · have h2 := dgval_cmp pD_le (fun j hj => (hu j hj).symm) (show pD.getD k' 0 < l.getD k' 0 by rw [HX.out, HY.out]; omega)
            rw [decide_eq_false (by omega), decide_eq_false (by omega)]
        clear hxy
        go_wp2_with fail
        refine DX.mono ?_
        rintro e w' ⟨rfl, rfl⟩
        go_wp2_with fail
        refine DY.mono ?_
        rintro e w' ⟨rfl, rfl⟩
        go_wp2_with fail
        refine DX.mono ?_
        rintro e w' ⟨rfl, rfl⟩
        go_wp2_with fail
        refine DY.mono ?_
        rintro e w' ⟨rfl, rfl⟩
        go_wp2_with fail
        go_ret
        exact ⟨by rw [hres.out]; simp, B1.out⟩
    · have hk0 : k = 0 := by omega
      subst hk0
      have hres : Hid (decide (dgval l < 1361129467683753853853498429727072845819) = false) := by
        show _ = _
        rw [dgval_ext (a := l) (b := pD) (fun j => I.out j (Nat.zero_le _)), pD_val]; decide
      go_wp2_with fail
      go_ret
      exact ⟨by rw [hres.out]; rfl, B1.out⟩
end Go.Proofs.Ytklclbppdoahjaa
/- The reference's rest. -/
namespace Go.Proofs.Ytklclbppdoahjaa
set_option maxRecDepth 100000
open Go.RowKit
attribute [local go_sem] yld yldUpon_value

def PP : Nat := 1361129467683753853853498429727072845819
theorem four65 : 4 ^ 65 = PP + 5 := by decide +kernel
/-- a slice's number, read off the world: for a measure -/
def rdv (w : World) : Value → Nat
  | .slice (some a) n _ => dgval ((List.range n).map fun j => match w.cell? ⟨a.block, a.off + j, none⟩ with | some (.int _ x) => x.toNat | _ => 0)
  | _ => 0
theorem Dg.rdv {w : World} {F : Nat → Prop} {A : Option Addr} {n c : Nat} {l : List Nat} (h : Dg w F A n c l) : rdv w (.slice A n c) = dgval l := by
  cases hn : n with
  | zero =>
    have hl : l = [] := List.eq_nil_of_length_eq_zero (by have := h.len; omega)
    subst hl
    cases A <;> rfl
  | succ n' =>
    obtain ⟨b, o, rfl, _⟩ := h.some_ (by omega)
    rw [← hn]
    show dgval _ = dgval l
    refine congrArg dgval ?_
    apply List.ext_getElem
    · simp [h.len]
    · intro j h1 h2
      obtain ⟨b', o', e, _, hc⟩ := h.at_ j h2
      injection e with e; injection e with e1 e2 _
      subst e1; subst e2
      simp [hc]
/-- where rest stands -/
structure ReI (w wr : World) (v0 : Nat) (A : Option Addr) (n c : Nat) (l : List Nat) : Prop where
  dg : Dg wr (fun k => k < wr.heap.size) A n c l
  d4 : D4 l
  val : dgval l % PP = v0 % PP
  top : n = 0 ∨ l.getD (n - 1) 0 ≠ 0
  le : n ≤ 400
  bel : Below w.heap.size w wr
theorem ReI.dr {w wr : World} {v0 : Nat} {A : Option Addr} {n c : Nat} {l : List Nat} (h : ReI w wr v0 A n c l) {wx : World} (hb : Below wr.heap.size wr wx) : ReI w wx v0 A n c l :=
  ⟨(h.dg.belF hb).mono (fun _ hk => Nat.lt_of_lt_of_le hk hb.size), h.d4, h.val, h.top, h.le, Below.tr h.bel hb⟩
theorem D4.take {l : List Nat} (h : D4 l) (m : Nat) : D4 (l.take m) := fun d hd => h d (List.mem_of_mem_take hd)
theorem D4.drop {l : List Nat} (h : D4 l) (m : Nat) : D4 (l.drop m) := fun d hd => h d (List.mem_of_mem_drop hd)
theorem getD_take {l : List Nat} {m j : Nat} (h : j < m) : (l.take m).getD j 0 = l.getD j 0 := by
  simp only [List.getD_eq_getElem?_getD]
  rw [List.getElem?_take_of_lt h]
theorem top_take {l : List Nat} {m : Nat} (h : m = 0 ∨ l.getD (m - 1) 0 ≠ 0) : m = 0 ∨ (l.take m).getD (m - 1) 0 ≠ 0 := by
  rcases h with h | h
  · exact .inl h
  · by_cases hm : m = 0
    · exact .inl hm
    · right; rw [getD_take (by omega)]; exact h
theorem PP_val : PP = 1361129467683753853853498429727072845819 := rfl
/-- what stands above the 65th digit -/
theorem high_pos {l : List Nat} {n : Nat} (hl : l.length = n) (hd : D4 l) (hn : 65 < n) (ht : l.getD (n - 1) 0 ≠ 0) : 1 ≤ dgval (l.drop 65) := by
  rcases Nat.eq_zero_or_pos (dgval (l.drop 65)) with h | h
  · have h1 := dgval_top (l := l) (m := n) (by omega) ht
    rw [List.take_of_length_le (by omega), dgval_take_drop l 65 (by omega), h] at h1
    have h2 := dgval_take_lt hd.le 65
    have h3 : 4 ^ 65 ≤ 4 ^ (n - 1) := Nat.pow_le_pow_right (by decide) (by omega)
    omega
  · exact h
theorem one_one : dgval [1, 1] = 5 := rfl
theorem len_of_lt {l : List Nat} {m n : Nat} (hm : m = 0 ∨ l.getD (m - 1) 0 ≠ 0) (h : dgval (l.take m) < 4 ^ n) : m ≤ n := by
  rcases hm with rfl | hm
  · exact Nat.zero_le _
  · rcases Nat.eq_zero_or_pos m with h0 | h0
    · omega
    · have h1 := dgval_top h0 hm
      rcases Nat.lt_or_ge n m with h2 | h2
      · have h3 : 4 ^ n ≤ 4 ^ (m - 1) := Nat.pow_le_pow_right (by decide) (by omega)
        omega
      · exact h2
theorem Dg.ones (w : World) : Dg (w.alloc (.cells #[.int .i64 1, .int .i64 1] 3)) (fun k => k = w.heap.size) (some ⟨w.heap.size, 0, none⟩) 2 2 [1, 1] :=
  ⟨rfl, Nat.le_refl _, fun j hj => ⟨_, _, rfl, rfl, by
    have hh := heap_alloc_new w (.cells #[.int .i64 1, .int .i64 1] 3)
    rw [Nat.zero_add, cell_of_row _ w.heap.size _ _ _ _ hh]
    have : j = 0 ∨ j = 1 := by simp at hj; omega
    rcases this with rfl | rfl <;> rfl⟩⟩
theorem ones_le : ∀ x ∈ [1, 1], x ≤ 3 := by decide
set_option maxRecDepth 100000 in
set_option maxHeartbeats 8000000 in
theorem rest_any {w : World} {F : Nat → Prop} {A : Option Addr} {n c : Nat} {l : List Nat} (h : Dg w F A n c l) (hF : ∀ k, F k → k < w.heap.size) (hn : n ≤ 400) (hd : D4 l) :
    Calls Try.prog 52 #[.slice A n c] w fun e w' => ∃ A' n' c' r, e = .returned (.slice A' n' c') ∧ Dg w' (fun k => k < w'.heap.size) A' n' c' r ∧ Below w.heap.size w w' ∧ D4 r ∧ dgval r = dgval l % PP ∧ n' ≤ 65 := by
  have H := Lib.hid (h.mono hF); have HD := Lib.hid hd; have HNb := Lib.hid hn
  clear h hF hd
  go_enter Try.func52, Try.ntmps52
  go_wp2_with fail
  refine (trimmed_any H.out (by omega)).mono ?_
  rintro e w' ⟨⟨m, rfl, hm1, hm2, hm3⟩, rfl⟩
  have I0 : Hid (ReI w w (dgval l) A m c (l.take m)) := ⟨H.out.take hm1, HD.out.take m, by rw [hm3], top_take hm2, by omega, Below.refl _ _⟩
  clear hm1 hm2 hm3
  go_wp2_with fail
  go_loopw [0] (fun v wr => ∃ (A' : Option Addr) (n' c' : Nat) (r : List Nat), v = .slice A' n' c' ∧ Hid (ReI w wr (dgval l) A' n' c' r)) (fun v wr => rdv wr v)
  case atStart => exact ⟨A, m, c, _, rfl, I0⟩
  case round =>
    clear I0
    obtain ⟨A1, n1, c1, r, rfl, I⟩ := hrel
    by_cases hlt : 65 < n1
    · obtain ⟨b, o, rfl, _⟩ := I.out.dg.some_ (by omega)
      have hcap := I.out.dg.cap
      have h65 : 65 ≤ c1 := by omega
      have h65I : (65 : Int) ≤ (c1 : Int) := by omega
      have h65n : 65 ≤ n1 := by omega
      have h65nI : (65 : Int) ≤ (n1 : Int) := by omega
      have hne : ¬ c1 = 65 := by omega
      have hltI : (65 : Int) < (n1 : Int) := by omega
      have hn4 := I.out.le
      have HLT := Lib.hid hlt
      have hhi := Lib.hid (high_pos I.out.dg.len I.out.d4 hlt (I.out.top.resolve_left (by omega)))
      have hsp := Lib.hid (dgval_take_drop r 65 (by have := I.out.dg.len; omega))
      go_wp2_with fail
      refine wp_calm ?_
      refine wp_region_os (fun _ w' => Below (wr).drew.heap.size (wr).drew w') [] (.move 0 (.move 1 (.move 2 (.move 3 (.run 4 [] (.run 5 [] (.run 6 [] (.run 7 [] (.move 8 .done))))))))) (by kernel_rfl) (by kernel_rfl) (fun _ _ _ _ _ h => nomatch h.1) ?_
      have hS0 : Below (wr).drew.heap.size (wr).drew (wr).drew := Below.refl _ _
      refine os_move rfl rfl rfl (Nat.le_of_ble_eq_true rfl) ?_
      apply Exists.intro
      refine ⟨fun w' K hK => ?_, ?_⟩
      (focus
        go_simp
        exact hK)
      refine os_move rfl rfl rfl (Nat.le_of_ble_eq_true rfl) ?_
      apply Exists.intro
      refine ⟨fun w' K hK => ?_, ?_⟩
      (focus
        go_simp
        exact hK)
      refine os_move rfl rfl rfl (Nat.le_of_ble_eq_true rfl) ?_
      apply Exists.intro
      refine ⟨fun w' K hK => ?_, ?_⟩
      (focus
        go_simp
        exact hK)
      refine os_move rfl rfl rfl (Nat.le_of_ble_eq_true rfl) ?_
      apply Exists.intro
      refine ⟨fun w' K hK => ?_, ?_⟩
      (focus
        go_simp
        exact hK)
      refine os_run rfl rfl (fun K hK => ?_)
      go_wp2_with fail
      have B4 : Hid (Below wr.heap.size wr (wr.drew.alloc (.cells #[.int .i64 1, .int .i64 1] 3))) := Below.tr (Below.dr1 wr) (Below.al wr.drew _)
      have D1 : Hid (Dg (wr.drew.alloc (.cells #[.int .i64 1, .int .i64 1] 3)) _ _ 2 2 [1, 1]) := Dg.ones wr.drew
      refine ⟨fun _ hk => absurd hk List.not_mem_nil, ?_⟩
      refine os_run rfl rfl (fun K hK => ?_)
      go_wp2_with fail
      refine (rTimes_any ((I.out.dg.drop (m := 65) (by omega)).belF B4.out) D1.out (by omega) (by decide) (D4.drop I.out.d4 65).le ones_le).mono ?_
      rintro e w3 ⟨A3, n3, c3, r3, rfl, ho3, hb3, hd3, hv3, hn3⟩
      have O3 := Lib.hid (Dg.of_own ho3); have B3 := Lib.hid hb3; have D3 := Lib.hid hd3; have V3 := Lib.hid hv3; have N3 := Lib.hid hn3
      clear ho3 hd3 hv3 hn3
      go_wp2_with fail
      refine ⟨fun _ hk => absurd hk List.not_mem_nil, ?_⟩
      replace hS0 := Below.tr hS0 ((Below.tr (Below.al wr.drew _) hb3))
      refine os_run rfl rfl (fun K hK => ?_)
      go_wp2_with fail
      refine (plus_any ((I.out.dg.take (m := 65) (by omega)).belF (Below.tr B4.out B3.out)) O3.out (by decide) (by have := N3.out; omega) (D4.take I.out.d4 65).le D3.out.le).mono ?_
      rintro e w4 ⟨A4, n4, c4, r4, rfl, ho4, hb4, hd4, hv4, hn4'⟩
      have O4 := Lib.hid (Dg.of_own ho4); have D4' := Lib.hid hd4; have V4 := Lib.hid hv4; have N4 := Lib.hid hn4'
      have Bx := Lib.hid (Below.tr (Below.tr B4.out B3.out) hb4)
      clear ho4 hd4 hv4 hn4'
      go_wp2_with fail
      refine ⟨fun _ hk => absurd hk List.not_mem_nil, ?_⟩
      replace hS0 := Below.tr hS0 (hb4)
      refine os_run rfl rfl (fun K hK => ?_)
      go_wp2_with fail
      refine (trimmed_any O4.out (by have := N4.out; have := N3.out; omega)).mono ?_
      rintro e w5 ⟨⟨m5, rfl, hm1, hm2, hm3⟩, rfl⟩
      go_wp2_with fail
      refine ⟨fun _ hk => absurd hk List.not_mem_nil, ?_⟩
      refine os_move rfl rfl rfl (Nat.le_of_ble_eq_true rfl) ?_
      apply Exists.intro
      refine ⟨fun w' K hK => ?_, ?_⟩
      (focus
        go_simp
        exact hK)
      refine os_done ⟨rfl, ?_⟩
      go_wp2_with fail
      have hval : dgval (r4.take m5) = dgval (r.take 65) + dgval (r.drop 65) * 5 := by rw [hm3, V4.out, V3.out, one_one]
      have hdec : dgval (r4.take m5) < dgval r := by rw [hval, hsp.out, four65]; have := hhi.out; rw [Nat.add_mul]; have h9 : 0 < PP * dgval (r.drop 65) := Nat.mul_pos (by decide) hhi.out; omega
      have hlt4 : dgval r < 4 ^ n1 := by have := dgval_lt I.out.d4; rw [I.out.dg.len] at this; exact this
      have hm5 : m5 ≤ n1 := len_of_lt hm2 (Nat.lt_trans hdec hlt4)
      have DN := (O4.out.take hm1).mono (G := fun k => k < w4.heap.size) (fun k hk => hk.2)
      refine ⟨⟨A4, m5, c4, r4.take m5, rfl, Lib.hid ⟨DN, D4'.out.take m5, ?_, top_take hm2, by have := I.out.le; omega, Below.tr I.out.bel Bx.out⟩⟩, ?_⟩
      · rw [← I.out.val, hval, hsp.out, four65, Nat.add_mul, show dgval (r.take 65) + (PP * dgval (r.drop 65) + 5 * dgval (r.drop 65)) = (dgval (r.take 65) + dgval (r.drop 65) * 5) + PP * dgval (r.drop 65) by omega, Nat.add_mul_mod_self_left]
      · rw [DN.rdv, I.out.dg.rdv]; exact hdec
    · have hlt2 : n1 ≤ 65 := by omega
      have hltI : ¬ (65 : Int) < (n1 : Int) := by omega
      have I1 : Hid (ReI w wr (dgval l) A1 n1 c1 r ∧ n1 ≤ 65) := ⟨I.out, hlt2⟩
      clear I hlt hlt2
      go_wp2_with fail
      go_loopw [0] (fun v w2 => ∃ (A' : Option Addr) (n' c' : Nat) (r : List Nat), v = .slice A' n' c' ∧ Hid (ReI w w2 (dgval l) A' n' c' r ∧ n' ≤ 65)) (fun v w2 => rdv w2 v)
      case atStart => exact ⟨A1, n1, c1, r, rfl, I1⟩
      case round =>
        clear I1
        obtain ⟨A1, n1, c1, r, rfl, I⟩ := hrel
        have BL := below_any I.out.1.dg (by have := I.out.2; omega) I.out.1.d4.le
        have hlt4 : Hid (dgval r < 4 ^ 65) := by
          have := dgval_lt I.out.1.d4
          rw [I.out.1.dg.len] at this
          exact Nat.lt_of_lt_of_le this (Nat.pow_le_pow_right (by decide) I.out.2)
        by_cases hb : dgval r < PP
        · rw [decide_eq_true (show dgval r < 1361129467683753853853498429727072845819 from hb)] at BL
          have hvv : Hid (dgval r = dgval l % PP) := by
            show _ = _
            rw [← I.out.1.val, Nat.mod_eq_of_lt hb]
          clear hb
          go_wp2_with fail
          refine BL.mono ?_
          rintro e w3 ⟨rfl, hb3⟩
          have I3 := Lib.hid (I.out.1.dr hb3)
          have B3 := Lib.hid hb3
          clear hb3
          go_wp2_with fail
          go_ret
          exact ⟨A1, n1, c1, r, rfl, I3.out.dg, I3.out.bel, I3.out.d4, hvv.out, I.out.2⟩
        · rw [decide_eq_false (show ¬ dgval r < 1361129467683753853853498429727072845819 from hb)] at BL
          have HB : Hid (PP ≤ dgval r) := Nat.le_of_not_lt hb
          clear hb
          go_wp2_with fail
          refine BL.mono ?_
          rintro e w3 ⟨rfl, hb3⟩
          have I3 := Lib.hid (I.out.1.dr hb3)
          have B3 := Lib.hid hb3
          clear hb3
          have D1 : Hid (Dg (w3.alloc (.cells #[.int .i64 1, .int .i64 1] 3)) _ _ 2 2 [1, 1]) := Dg.ones w3
          go_wp2_with fail
          refine (plus_any (I3.out.dg.belF (Below.al w3 _)) D1.out (by have := I.out.2; omega) (by decide) I3.out.d4.le ones_le).mono ?_
          rintro e w4 ⟨A4, n4, c4, r4, rfl, ho4, hb4, hd4, hv4, hn4'⟩
          have O4 := Lib.hid (Dg.of_own ho4); have D4' := Lib.hid hd4; have V4 := Lib.hid hv4; have N4 := Lib.hid hn4'
          have B4 := Lib.hid (Below.tr (Below.al w3 (.cells #[.int .i64 1, .int .i64 1] 3)) hb4)
          clear ho4 hb4 hd4 hv4 hn4'
          go_wp2_with fail
          refine (trimmed_any O4.out (by have := N4.out; have := I.out.2; omega)).mono ?_
          rintro e w5 ⟨⟨m5, rfl, hm1, hm2, hm3⟩, rfl⟩
          have hval : dgval (r4.take m5) = dgval r + 5 := by rw [hm3, V4.out, one_one]
          have h65 : 65 < m5 := by
            rcases Nat.lt_or_ge 65 m5 with h | h
            · exact h
            · have h1 := dgval_take_lt D4'.out.le m5
              have h2 : 4 ^ m5 ≤ 4 ^ 65 := Nat.pow_le_pow_right (by decide) h
              have h3 := HB.out
              rw [four65] at h2
              omega
          have h65I : (65 : Int) < (m5 : Int) := by omega
          have DN := Lib.hid (O4.out.take hm1)
          have hcap := DN.out.cap
          have h65c : 65 ≤ c4 := by omega
          have h65cI : (65 : Int) ≤ (c4 : Int) := by omega
          have H65 := Lib.hid h65; have HV := Lib.hid hval; have HM1 := Lib.hid hm1
          clear hm1 hm2 hm3 h65 hval hcap
          go_wp2_with fail
          refine (trimmed_any (DN.out.take (m := 65) (by have := H65.out; omega)) (by decide)).mono ?_
          rintro e w5 ⟨⟨m6, rfl, hm1, hm2, hm3⟩, rfl⟩
          have hv6 : Hid (dgval (((r4.take m5).take 65).take m6) + PP = dgval r) := by
            show _ = _
            have h1 := dgval_take_drop (r4.take m5) 65 (by have := DN.out.len; have := H65.out; omega)
            have h2 := dgval_take_lt (D4'.out.take m5).le 65
            rw [HV.out] at h1
            rw [hm3]
            have h3 := hlt4.out
            have h4 := HB.out
            rw [four65] at h1 h2 h3
            have h5 : dgval ((r4.take m5).drop 65) = 1 := by
              rcases Nat.lt_or_ge (dgval ((r4.take m5).drop 65)) 1 with h | h
              · have : dgval ((r4.take m5).drop 65) = 0 := by omega
                rw [this] at h1; omega
              · rcases Nat.lt_or_ge 1 (dgval ((r4.take m5).drop 65)) with h6 | h6
                · have h7 : (PP + 5) * 2 ≤ (PP + 5) * dgval ((r4.take m5).drop 65) := Nat.mul_le_mul_left _ h6
                  have h8 : 5 < PP := by decide
                  omega
                · omega
            rw [h5] at h1
            omega
          have DF := Lib.hid (((DN.out.take (m := 65) (by have := H65.out; omega)).take hm1).mono (G := fun k => k < w4.heap.size) (fun k hk => hk.2))
          have IN : Hid (ReI w w4 (dgval l) A4 m6 c4 (((r4.take m5).take 65).take m6) ∧ m6 ≤ 65) :=
            ⟨⟨DF.out, ((D4'.out.take m5).take 65).take m6, by rw [← I.out.1.val, ← hv6.out, Nat.add_mod_right], top_take hm2, by omega, Below.tr I3.out.bel B4.out⟩, hm1⟩
          clear hm1 hm2 hm3
          go_wp2_with fail
          refine ⟨⟨A4, m6, c4, _, rfl, IN⟩, ?_⟩
          rw [DF.out.rdv, I.out.1.dg.rdv]
          have := hv6.out
          have h8 : 5 < PP := by decide
          omega
end Go.Proofs.Ytklclbppdoahjaa
/- The reference's Digits. -/
namespace Go.Proofs.Ytklclbppdoahjaa
set_option maxRecDepth 100000
open Go.RowKit
attribute [local go_sem] yld yldUpon_value

def dig4 (u : Nat) : List Nat := (List.range 4).map fun k => u / 4 ^ k % 4
def digitsL (l : List UInt8) : List Nat := l.flatMap fun u => dig4 u.toNat
theorem dig4_take (u k : Nat) (hk : k < 4) : (dig4 u).take (k + 1) = (dig4 u).take k ++ [u / 4 ^ k % 4] := by
  rw [List.take_succ_eq_append_getElem (by simp [dig4]; omega)]; simp [dig4]
theorem dig4_len (u : Nat) : (dig4 u).length = 4 := by simp [dig4]
theorem dig4_val (u : Nat) (hu : u < 256) : dgval (dig4 u) = u := by
  simp [dig4, List.range_succ, dgval]; omega
theorem digitsL_len (l : List UInt8) : (digitsL l).length = 4 * l.length := by
  induction l with
  | nil => rfl
  | cons u l ih => simp only [digitsL, List.flatMap_cons, List.length_append, dig4_len, List.length_cons] at ih ⊢; omega
theorem digitsL_val (l : List UInt8) : dgval (digitsL l) = leN l := by
  induction l with
  | nil => rfl
  | cons u l ih =>
    have e : digitsL (u :: l) = dig4 u.toNat ++ digitsL l := by simp [digitsL]
    rw [e, dgval_append, dig4_val _ u.toNat_lt, dig4_len, ih]; rfl
theorem digitsL_d4 (l : List UInt8) : D4 (digitsL l) := by
  intro d hd
  simp only [digitsL, List.mem_flatMap] at hd
  obtain ⟨u, _, hd⟩ := hd
  simp only [dig4, List.mem_map] at hd
  obtain ⟨k, _, rfl⟩ := hd
  exact Nat.mod_lt _ (by decide)
theorem digitsL_take_succ (l : List UInt8) (i : Nat) (hi : i < l.length) : digitsL (l.take (i + 1)) = digitsL (l.take i) ++ dig4 l[i].toNat := by
  unfold digitsL
  rw [List.take_succ_eq_append_getElem hi, List.flatMap_append]
  simp only [List.flatMap_cons, List.flatMap_nil, List.append_nil]
set_option maxRecDepth 100000 in
set_option maxHeartbeats 4000000 in
theorem Digits_any {w : World} {F : Nat → Prop} {A : Option Addr} {n c : Nat} {l : List UInt8} (h : Sl w F A n c l) (hF : ∀ k, F k → k < w.heap.size) (hn : n ≤ 100000) :
    Calls Try.prog 50 #[.slice A n c] w fun e w' => ∃ A' c', e = .returned (.slice A' (4 * n) c') ∧ w'.ownsRow w.heap.size 3 1 (.slice A' (4 * n) c') (4 * n) (dg (digitsL l)) ∧ Below w.heap.size w w' := by
  have H := Lib.hid h; have HL := Lib.hid h.len; have HF := Lib.hid hF; have HN := Lib.hid hn
  clear h hF hn
  go_enter Try.func50, Try.ntmps50
  go_wp2_with fail
  go_loopw [3, 4] (fun out z wr => ∃ (i : Nat) (m : Nat) (A' : Option Addr) (c' : Nat), i ≤ n ∧ z = .int .i64 (i : Nat) ∧ out = .slice A' m c' ∧ Hid (m = 4 * i ∧ wr.ownsRow w.heap.size 3 1 (.slice A' m c') m (dg (digitsL (l.take i))) ∧ Below w.heap.size w wr)) (fun _ z _ => n - (intOf z).toNat)
  case atStart => exact ⟨0, 0, none, 0, Nat.zero_le _, rfl, rfl, Lib.hid ⟨rfl, World.ownsRow_nil _ _ _ _, Below.refl _ _⟩⟩
  case round =>
    obtain ⟨i, m, A1, c1, hi, rfl, rfl, I⟩ := hrel
    have hi0 : (0 : Int) ≤ (i : Int) := by omega
    by_cases hlt : i < n
    · have hiI : (i : Int) < (n : Int) := by omega
      have HI := Lib.hid hlt
      have Hs := H.out.belF I.out.2.2 HF.out
      obtain ⟨ad, rfl, hc⟩ := Hs.rd.at_ (show i < l.length by have := HL.out; omega)
      have hstep : Hid (digitsL (l.take (i + 1)) = digitsL (l.take i) ++ dig4 (l[i]'(by have := HL.out; omega)).toNat) := digitsL_take_succ l i (by have := HL.out; omega)
      have hu := Lib.hid ((l[i]'(by have := HL.out; omega)).toNat_lt)
      generalize (l[i]'(by have := HL.out; omega)).toNat = u at hc hstep hu
      have huI : (u : Int) ≤ 255 := by have := hu.out; omega
      clear Hs hlt
      go_wp2_with fail
      go_loopw [3, 5, 6] (fun out v z w2 => ∃ (k m2 : Nat) (V : Nat) (A' : Option Addr) (c' : Nat), k ≤ 4 ∧ z = .int .i64 (k : Nat) ∧ v = .int .i64 (V : Nat) ∧ out = .slice A' m2 c' ∧ Hid (V = u / 4 ^ k ∧ m2 = 4 * i + k ∧ w2.ownsRow w.heap.size 3 1 (.slice A' m2 c') m2 (dg (digitsL (l.take i) ++ (dig4 u).take k)) ∧ Below w.heap.size w w2)) (fun _ _ z _ => 4 - (intOf z).toNat)
      case atStart => exact ⟨0, m, u, A1, c1, by omega, rfl, rfl, rfl, Lib.hid ⟨by simp, I.out.1, by rw [List.take_zero, List.append_nil]; exact I.out.2.1, I.out.2.2⟩⟩
      case round =>
        clear I
        obtain ⟨k, m2, V, A2, c2, hk, rfl, rfl, rfl, J⟩ := hrel
        have hk0 : (0 : Int) ≤ (k : Int) := by omega
        by_cases hk4 : k < 4
        · have hkI : (k : Int) < 4 := by omega
          have HK := Lib.hid hk4
          have hV0 : (0 : Int) ≤ (V : Int) := by omega
          have hVb : V ≤ 255 := by have := J.out.1; have := hu.out; have h9 := Nat.div_le_self u (4 ^ k); omega
          have hm2b : m2 ≤ 1000000 := by have := J.out.2.1; have := HI.out; have := HN.out; omega
          have step : Hid (∀ (w' : World) (A' : Option Addr) (c' : Nat), w'.ownsRow w.heap.size 3 1 (.slice A' (m2 + 1) c') (m2 + 1) (dg (digitsL (l.take i) ++ (dig4 u).take k) ++ [.int .i64 ((V : Int) % 4)]) → Fr (fun j => w.heap.size ≤ j) wr w' →
              (V / 4 = u / 4 ^ (k + 1) ∧ m2 + 1 = 4 * i + (k + 1) ∧ w'.ownsRow w.heap.size 3 1 (.slice A' (m2 + 1) c') (m2 + 1) (dg (digitsL (l.take i) ++ (dig4 u).take (k + 1))) ∧ Below w.heap.size w w')) := by
            intro w' A' c' ho hf
            refine ⟨by rw [J.out.1, Nat.pow_succ, ← Nat.div_div_eq_div_mul], by have := J.out.2.1; omega, ?_, ((Fr.of_below J.out.2.2.2).trans hf (fun i _ h => h)).to_below (fun i hi e => by omega)⟩
            rw [dig4_take u k HK.out, ← List.append_assoc, dg_append, ← J.out.1, show dg [V % 4] = [.int .i64 ((V : Int) % 4)] by simp [dg]]
            exact ho
          clear hk4
          go_wp2_with (first
            | (at_builtin
               refine append_int (v := .int .i64 ((V : Int) % 4)) (.tmp 22) (.tmp 25) rfl rfl w.heap.size A2 m2 c2 _ rfl wr rfl rfl J.out.2.2.1 rfl hm2b J.out.2.2.2.size ?_
               intro A3 c3 w3 ho hf
               have S3 := Lib.hid (step.out w3 A3 c3 ho hf)
               clear ho hf))
          go_roundw
          case rel => exact ⟨k + 1, m2 + 1, V / 4, A3, c3, by have := HK.out; omega, by go_num, by simp, rfl, S3⟩
          case measure => simp [intOf]; have := HK.out; omega
        · have hkI : ¬ (k : Int) < 4 := by omega
          have hk4' : k = 4 := by omega
          have I2 : Hid (m2 = 4 * (i + 1) ∧ wr.ownsRow w.heap.size 3 1 (.slice A2 m2 c2) m2 (dg (digitsL (l.take (i + 1)))) ∧ Below w.heap.size w wr) := by
            have h1 := J.out.2.2.1
            rw [hk4', show (dig4 u).take 4 = dig4 u from List.take_of_length_le (Nat.le_of_eq (dig4_len u)), ← hstep.out] at h1
            exact ⟨by have := J.out.2.1; omega, h1, J.out.2.2.2⟩
          have hnb : n ≤ 100000 := HN.out
          clear J hk4'
          go_wp2_with fail
          go_roundw
          case rel => exact ⟨i + 1, m2, A2, c2, by have := HI.out; omega, by go_num, rfl, I2⟩
          case measure => simp [intOf]; have := HI.out; omega
    · have hiI : ¬ (i : Int) < (n : Int) := by omega
      have hin : i = n := by omega
      have I2 : Hid (m = 4 * n ∧ wr.ownsRow w.heap.size 3 1 (.slice A1 m c1) m (dg (digitsL l)) ∧ Below w.heap.size w wr) := by
        have h1 := I.out
        rw [hin, List.take_of_length_le (by have := HL.out; omega)] at h1
        exact h1
      clear I hin
      go_wp2_with fail
      go_ret
      obtain ⟨e, h2, h3⟩ := I2.out
      subst e
      exact ⟨A1, c1, rfl, h2, h3⟩
end Go.Proofs.Ytklclbppdoahjaa
/- The reference's Clamp. -/
namespace Go.Proofs.Ytklclbppdoahjaa
set_option maxRecDepth 100000
open Go.RowKit
attribute [local go_sem] yld yldUpon_value

theorem u8and15 (x : UInt8) : (x &&& 15).toNat = x.toNat % 16 := by
  rw [UInt8.toNat_and]
  exact Nat.and_two_pow_sub_one_eq_mod x.toNat 4
theorem and252N : ∀ n : Fin 256, n.val &&& 252 = n.val / 4 * 4 := by decide +kernel
theorem and252 (x : UInt8) : (x &&& 252).toNat = x.toNat / 4 * 4 := by
  rw [UInt8.toNat_and]
  exact and252N ⟨x.toNat, x.toNat_lt⟩
theorem rclampL_get {K : List UInt8} {i : Nat} (hi : i < 16) : (clampL K)[i]'(by rw [clampL_len]; exact hi) = if i % 4 = 3 then K.getD i 0 &&& 15 else if i % 4 = 0 ∧ 0 < i then K.getD i 0 &&& 252 else K.getD i 0 := by
  simp only [clampL, List.getElem_take]
  have h1 : ∀ j, j < 32 → (clampS K 3 3 15 19).getD j 0 = if j % 4 = 3 ∧ 3 ≤ j ∧ j < 19 then K.getD j 0 &&& 15 else K.getD j 0 := by
    intro j hj
    simp [clampS, List.getD, hj]
  have h2 : ∀ (h : i < (clampS (clampS K 3 3 15 19) 0 4 252 16).length), (clampS (clampS K 3 3 15 19) 0 4 252 16)[i] = if i % 4 = 0 ∧ 4 ≤ i ∧ i < 16 then (clampS K 3 3 15 19).getD i 0 &&& 252 else (clampS K 3 3 15 19).getD i 0 := by
    intro h
    simp only [clampS, List.getElem_map, List.getElem_range]
  rw [h2, h1 i (by omega)]
  by_cases e3 : i % 4 = 3
  · rw [if_neg (by omega), if_pos ⟨e3, by omega, by omega⟩, if_pos e3]
  · have hin : (if i % 4 = 3 ∧ 3 ≤ i ∧ i < 19 then K.getD i 0 &&& 15 else K.getD i 0) = K.getD i 0 := if_neg (by omega)
    rw [hin, if_neg e3]
    by_cases e0 : i % 4 = 0 ∧ 0 < i
    · rw [if_pos ⟨e0.1, by omega, by omega⟩, if_pos e0]
    · rw [if_neg (by omega), if_neg e0]
set_option maxRecDepth 100000 in
set_option maxHeartbeats 4000000 in
theorem Clamp_any (w : World) {K : List UInt8} (hK : K.length = 32) :
    Calls Try.prog 51 #[.agg (bs K).toArray] w fun e w' => ∃ A' c', e = .returned (.slice A' 16 c') ∧ w'.ownsRow w.heap.size 5 1 (.slice A' 16 c') 16 (bs (clampL K)) ∧ Below w.heap.size w w' := by
  have HK := Lib.hid hK
  clear hK
  go_enter Try.func51, Try.ntmps51
  go_wp2_with fail
  obtain ⟨w0, hw0⟩ : ∃ w0, w0 = w.alloc (.cells (bs K).toArray 23) := ⟨_, rfl⟩
  have hh : Hid (w0.heap[w.heap.size]? = some (.cells (bs K).toArray 23 (0, 0))) := by rw [hw0]; exact heap_alloc_new w _
  have B0 : Hid (Below w.heap.size w w0) := by rw [hw0]; exact Below.al w _
  rw [← hw0]
  clear hw0
  go_loopw [3, 4] (fun out z wr => ∃ (i : Nat) (A' : Option Addr) (c' : Nat), i ≤ 16 ∧ z = .int .i64 (i : Nat) ∧ out = .slice A' i c' ∧ Hid (wr.ownsRow w0.heap.size 5 1 (.slice A' i c') i (bs ((clampL K).take i)) ∧ Below w0.heap.size w0 wr)) (fun _ z _ => 16 - (intOf z).toNat)
  case atStart => exact ⟨0, none, 0, by omega, rfl, rfl, Lib.hid ⟨World.ownsRow_nil _ _ _ _, Below.refl _ _⟩⟩
  case round =>
    obtain ⟨i, A1, c1, hi, rfl, rfl, I⟩ := hrel
    have hi0 : (0 : Int) ≤ (i : Int) := by omega
    by_cases hlt : i < 16
    · have hiI : (i : Int) < 16 := by omega
      have HI := Lib.hid hlt
      have hc : wr.cell? ⟨w.heap.size, i, none⟩ = some (.int .u8 (((K.getD i 0).toNat : Nat) : Int)) := by
        rw [cell_of_row wr w.heap.size i _ _ _ (heap_bel hh.out I.out.2)]
        simp [bs, List.getD, show i < K.length by have := HK.out; omega, bv]
      have hz : Hid ((clampL K)[i]'(by rw [clampL_len]; exact hlt) = if i % 4 = 3 then K.getD i 0 &&& 15 else if i % 4 = 0 ∧ 0 < i then K.getD i 0 &&& 252 else K.getD i 0) := rclampL_get hlt
      have htk : Hid ((clampL K).take (i + 1) = (clampL K).take i ++ [(clampL K)[i]'(by rw [clampL_len]; exact hlt)]) := List.take_succ_eq_append_getElem (by rw [clampL_len]; exact hlt)
      generalize (clampL K)[i]'(by rw [clampL_len]; exact hlt) = zb at hz htk
      obtain ⟨x, hx⟩ : ∃ x, K.getD i 0 = x := ⟨_, rfl⟩
      rw [hx] at hc hz
      have hxl := Lib.hid x.toNat_lt
      obtain ⟨X, hX⟩ : ∃ X, x.toNat = X := ⟨_, rfl⟩
      have hXb : X ≤ 255 := by have := hxl.out; omega
      rw [hX] at hc
      have HX := Lib.hid hX
      have step : Hid (∀ (w' : World) (A' : Option Addr) (c' : Nat), w'.ownsRow w0.heap.size 5 1 (.slice A' (i + 1) c') (i + 1) (bs ((clampL K).take i ++ [zb])) → Fr (fun j => w0.heap.size ≤ j) wr w' →
          (w'.ownsRow w0.heap.size 5 1 (.slice A' (i + 1) c') (i + 1) (bs ((clampL K).take (i + 1))) ∧ Below w0.heap.size w0 w')) := by
        intro w' A' c' ho hf
        exact ⟨by rw [htk.out]; exact ho, ((Fr.of_below I.out.2).trans hf (fun i _ h => h)).to_below (fun i hi e => by omega)⟩
      obtain ⟨r, hr⟩ : ∃ r, i % 4 = r := ⟨_, rfl⟩
      have hrI : (i : Int) % 4 = (r : Int) := by omega
      have hr4 : r = 0 ∨ r = 1 ∨ r = 2 ∨ r = 3 := by omega
      rw [hr] at hz
      clear hx hX hr hlt
      rcases hr4 with rfl | rfl | rfl | rfl
      · by_cases hi00 : 0 < i
        · have hiJ : (0 : Int) < (i : Int) := by omega
          obtain ⟨z, hz2⟩ : ∃ z, X / 4 * 4 = z := ⟨_, rfl⟩
          have hzI : (X : Int) / 4 * 4 = (z : Int) := by omega
          have hzb : z ≤ 255 := by omega
          have HZ : Hid (zb.toNat = z) := by show _ = _; rw [hz.out, if_neg (by decide), if_pos ⟨rfl, hi00⟩, and252, HX.out, hz2]
          clear hz hz2 hi00
          go_wp2_with (first
            | (at_builtin
               refine append_bytes rfl (.tmp 28) (.tmp 30) rfl w0.heap.size A1 i c1 ((clampL K).take i) rfl (own_fr I.out.1 (Fr.of_below (M := NoB) (Below.al wr _)) (fun _ _ e => e)) (some ⟨wr.heap.size, 0, none⟩) 1 1 [zb] rfl rfl (by rw [show bs [zb] = [.int .u8 (z : Int)] by simp [bs, bv, HZ.out]]; exact Rd.of_block (heap_alloc_new wr _)) (by omega) (by have := I.out.2.size; rw [World.size_alloc]; omega) ?_
               intro A2 c2 w2 ho hg _
               have S2 := Lib.hid (step.out w2 A2 c2 ho ((Fr.of_below (Below.al wr (.cells #[.int .u8 (z : Int)] 5))).tr ((Fr.of_grown hg).mono (fun k _ e => (I.out.1.lt k e.symm).1))))
               clear ho hg))
          go_roundw
          case rel => exact ⟨i + 1, A2, c2, by have := HI.out; omega, by go_num, rfl, S2⟩
          case measure => simp [intOf]; have := HI.out; omega
        · have hiJ : ¬ (0 : Int) < (i : Int) := by omega
          have HZ : Hid (zb.toNat = X) := by show _ = _; rw [hz.out, if_neg (by decide), if_neg (by omega), HX.out]
          clear hz hi00
          go_wp2_with (first
            | (at_builtin
               refine append_bytes rfl (.tmp 28) (.tmp 30) rfl w0.heap.size A1 i c1 ((clampL K).take i) rfl (own_fr I.out.1 (Fr.of_below (M := NoB) (Below.al wr _)) (fun _ _ e => e)) (some ⟨wr.heap.size, 0, none⟩) 1 1 [zb] rfl rfl (by rw [show bs [zb] = [.int .u8 (X : Int)] by simp [bs, bv, HZ.out]]; exact Rd.of_block (heap_alloc_new wr _)) (by omega) (by have := I.out.2.size; rw [World.size_alloc]; omega) ?_
               intro A2 c2 w2 ho hg _
               have S2 := Lib.hid (step.out w2 A2 c2 ho ((Fr.of_below (Below.al wr (.cells #[.int .u8 (X : Int)] 5))).tr ((Fr.of_grown hg).mono (fun k _ e => (I.out.1.lt k e.symm).1))))
               clear ho hg))
          go_roundw
          case rel => exact ⟨i + 1, A2, c2, by have := HI.out; omega, by go_num, rfl, S2⟩
          case measure => simp [intOf]; have := HI.out; omega
      · have HZ : Hid (zb.toNat = X) := by show _ = _; rw [hz.out, if_neg (by decide), if_neg (by omega), HX.out]
        clear hz
        go_wp2_with (first
          | (at_builtin
             refine append_bytes rfl (.tmp 28) (.tmp 30) rfl w0.heap.size A1 i c1 ((clampL K).take i) rfl (own_fr I.out.1 (Fr.of_below (M := NoB) (Below.al wr _)) (fun _ _ e => e)) (some ⟨wr.heap.size, 0, none⟩) 1 1 [zb] rfl rfl (by rw [show bs [zb] = [.int .u8 (X : Int)] by simp [bs, bv, HZ.out]]; exact Rd.of_block (heap_alloc_new wr _)) (by omega) (by have := I.out.2.size; rw [World.size_alloc]; omega) ?_
             intro A2 c2 w2 ho hg _
             have S2 := Lib.hid (step.out w2 A2 c2 ho ((Fr.of_below (Below.al wr (.cells #[.int .u8 (X : Int)] 5))).tr ((Fr.of_grown hg).mono (fun k _ e => (I.out.1.lt k e.symm).1))))
             clear ho hg))
        go_roundw
        case rel => exact ⟨i + 1, A2, c2, by have := HI.out; omega, by go_num, rfl, S2⟩
        case measure => simp [intOf]; have := HI.out; omega
      · have HZ : Hid (zb.toNat = X) := by show _ = _; rw [hz.out, if_neg (by decide), if_neg (by omega), HX.out]
        clear hz
        go_wp2_with (first
          | (at_builtin
             refine append_bytes rfl (.tmp 28) (.tmp 30) rfl w0.heap.size A1 i c1 ((clampL K).take i) rfl (own_fr I.out.1 (Fr.of_below (M := NoB) (Below.al wr _)) (fun _ _ e => e)) (some ⟨wr.heap.size, 0, none⟩) 1 1 [zb] rfl rfl (by rw [show bs [zb] = [.int .u8 (X : Int)] by simp [bs, bv, HZ.out]]; exact Rd.of_block (heap_alloc_new wr _)) (by omega) (by have := I.out.2.size; rw [World.size_alloc]; omega) ?_
             intro A2 c2 w2 ho hg _
             have S2 := Lib.hid (step.out w2 A2 c2 ho ((Fr.of_below (Below.al wr (.cells #[.int .u8 (X : Int)] 5))).tr ((Fr.of_grown hg).mono (fun k _ e => (I.out.1.lt k e.symm).1))))
             clear ho hg))
        go_roundw
        case rel => exact ⟨i + 1, A2, c2, by have := HI.out; omega, by go_num, rfl, S2⟩
        case measure => simp [intOf]; have := HI.out; omega
      · obtain ⟨z, hz2⟩ : ∃ z, X % 16 = z := ⟨_, rfl⟩
        have hzI : (X : Int) % 16 = (z : Int) := by omega
        have hzb : z ≤ 255 := by omega
        have HZ : Hid (zb.toNat = z) := by show _ = _; rw [hz.out, if_pos rfl, u8and15, HX.out, hz2]
        clear hz hz2
        go_wp2_with (first
          | (at_builtin
             refine append_bytes rfl (.tmp 28) (.tmp 30) rfl w0.heap.size A1 i c1 ((clampL K).take i) rfl (own_fr I.out.1 (Fr.of_below (M := NoB) (Below.al wr _)) (fun _ _ e => e)) (some ⟨wr.heap.size, 0, none⟩) 1 1 [zb] rfl rfl (by rw [show bs [zb] = [.int .u8 (z : Int)] by simp [bs, bv, HZ.out]]; exact Rd.of_block (heap_alloc_new wr _)) (by omega) (by have := I.out.2.size; rw [World.size_alloc]; omega) ?_
             intro A2 c2 w2 ho hg _
             have S2 := Lib.hid (step.out w2 A2 c2 ho ((Fr.of_below (Below.al wr (.cells #[.int .u8 (z : Int)] 5))).tr ((Fr.of_grown hg).mono (fun k _ e => (I.out.1.lt k e.symm).1))))
             clear ho hg))
        go_roundw
        case rel => exact ⟨i + 1, A2, c2, by have := HI.out; omega, by go_num, rfl, S2⟩
        case measure => simp [intOf]; have := HI.out; omega
    · have hi16 : i = 16 := by omega
      subst hi16
      go_wp2_with fail
      go_ret
      have h1 := I.out.1
      rw [show (clampL K).take 16 = clampL K from List.take_of_length_le (by rw [clampL_len]; exact Nat.le_refl _)] at h1
      exact ⟨A1, c1, rfl, own_mono h1 B0.out.size, Below.tr B0.out I.out.2⟩
end Go.Proofs.Ytklclbppdoahjaa
/- The reference's Sum, plainly. -/
namespace Go.Proofs.Ytklclbppdoahjaa
set_option maxRecDepth 100000
open Go.RowKit

theorem PP_pP : PP = pP := rfl
theorem byte_digits {a : List Nat} (h : D4 a) (i : Nat) : a.getD (4 * i) 0 + 4 * a.getD (4 * i + 1) 0 + 16 * a.getD (4 * i + 2) 0 + 64 * a.getD (4 * i + 3) 0 = dgval a / 256 ^ i % 256 := by
  have h1 := dgval_take_lt h.le (4 * i)
  have e4 : (4 : Nat) ^ (4 * i) = 256 ^ i := by rw [Nat.pow_mul]
  have g : ∀ m, dgval (a.drop m) = a.getD m 0 + 4 * dgval (a.drop (m + 1)) := by
    intro m
    by_cases hm : m < a.length
    · rw [dgval_drop a m hm, List.getD_eq_getElem?_getD, List.getElem?_eq_getElem hm]; rfl
    · rw [List.drop_eq_nil_of_le (by omega), List.drop_eq_nil_of_le (by omega), List.getD_eq_getElem?_getD, List.getElem?_eq_none (by omega)]; rfl
  have h2 : dgval a = dgval (a.take (4 * i)) + 4 ^ (4 * i) * dgval (a.drop (4 * i)) := by
    by_cases hm : 4 * i ≤ a.length
    · exact dgval_take_drop a _ hm
    · rw [List.take_of_length_le (by omega), List.drop_eq_nil_of_le (by omega)]; simp [dgval]
  have h3 : dgval a / 256 ^ i = dgval (a.drop (4 * i)) := by
    rw [h2, e4, Nat.add_mul_div_left _ _ (Nat.pow_pos (by decide)), Nat.div_eq_of_lt (by rw [← e4]; exact h1), Nat.zero_add]
  rw [h3, g (4 * i), g (4 * i + 1), show 4 * i + 1 + 1 = 4 * i + 2 from rfl, g (4 * i + 2), show 4 * i + 2 + 1 = 4 * i + 3 from rfl, g (4 * i + 3)]
  have hd : ∀ m, a.getD m 0 ≤ 3 := fun m => getD_leD h.le m
  have d0 := hd (4 * i); have d1 := hd (4 * i + 1); have d2 := hd (4 * i + 2); have d3 := hd (4 * i + 3)
  omega
/-- the tag while it is written -/
def tagK (T : List UInt8) (k : Nat) : List UInt8 := T.take k ++ List.replicate (16 - k) 0
theorem tagK_len {T : List UInt8} (h : T.length = 16) {k : Nat} (hk : k ≤ 16) : (tagK T k).length = 16 := by
  unfold tagK; rw [List.length_append, List.length_take, List.length_replicate]; omega
theorem tagK_set {T : List UInt8} (h : T.length = 16) {k : Nat} (hk : k < 16) : (tagK T k).set k (T[k]'(by omega)) = tagK T (k + 1) := by
  unfold tagK
  rw [List.set_append_right _ _ (by rw [List.length_take]; omega), List.length_take, show k - min k T.length = 0 by omega, show 16 - k = (16 - (k + 1)) + 1 by omega, List.replicate_succ, List.set_cons_zero, List.take_succ_eq_append_getElem (by omega), List.append_assoc]
  rfl
end Go.Proofs.Ytklclbppdoahjaa
/- The reference's Sum. -/
namespace Go.Proofs.Ytklclbppdoahjaa
set_option maxRecDepth 100000
open Go.RowKit
attribute [local go_sem] yld yldUpon_value

theorem own_empty (w : World) : (w.alloc (.cells #[] 5)).ownsRow w.heap.size 5 1 (.slice (some ⟨w.heap.size, 0, none⟩) 0 0) 0 (bs []) :=
  ⟨rfl, .inr ⟨w.heap.size, 0, #[], rfl, Nat.le_refl _, heap_alloc_new w _, Nat.le_refl _, by unfold maxLen; omega, rfl, rfl⟩⟩
theorem Rd.one1 (w : World) : Rd (w.alloc (.cells #[.int .u8 1] 5)) (some ⟨w.heap.size, 0, none⟩) (bs [1]) := Rd.one w 1
/-- where Sum stands: j blocks -/
structure RSuI (w wr : World) (K l : List UInt8) (j : Nat) (A : Option Addr) (n c : Nat) (a : List Nat) : Prop where
  dg : Dg wr (fun k => k < wr.heap.size) A n c a
  d4 : D4 a
  val : dgval a = accN (leN (clampL K)) l j
  le : n ≤ 65
  bel : Below w.heap.size w wr
set_option maxRecDepth 100000 in
set_option maxHeartbeats 8000000 in
theorem rSum_any {w : World} {K : List UInt8} (hK : K.length = 32) {F : Nat → Prop} {A : Option Addr} {n c : Nat} {l : List UInt8} (h : Sl w F A n c l) (hF : ∀ k, F k → k < w.heap.size) (hn : n ≤ 100000) :
    Calls Try.prog 36 #[.agg (bs K).toArray, .slice A n c] w fun e w' => e = .returned (.agg (bs (tagL K l)).toArray) ∧ Below w.heap.size w w' := by
  have HK := Lib.hid hK; have H := Lib.hid h; have HF := Lib.hid hF; have HN := Lib.hid hn; have HL := Lib.hid h.len
  clear hK h hF hn
  obtain ⟨iT, hiT, zT, _, _⟩ := info_parts Try.infoTag
  have HiT := Lib.hid hiT; have HzT := Lib.hid zT
  clear hiT zT
  have uK := Lib.hid Try.underlying23
  have i1 : Hid ((Try.prog.info? 23).map (·.size) = some (bs K).length) := by rw [bs_length, HK.out]; exact Try.sizeKey
  obtain ⟨w0, hw0⟩ : ∃ w0, w0 = w.alloc (.cells (bs K).toArray 23) := ⟨_, rfl⟩
  have X0 : Hid (Has w w0 [(w.heap.size, .cells (bs K).toArray 23 (0, 0))]) := by
    rw [hw0]; exact (Has.start (Below.refl _ w)).new (Below.al _ _) (Nat.le_refl _) (heap_alloc_new w _)
  subst hw0
  go_enter Try.func36, Try.ntmps36
  go_wp2_with (first
    | ((with_reducible refine lst_alloc_d 4 rfl 46 rfl iT _ HiT.out HzT.out ?_ ?_)
       (focus rfl)
       intro g4 w4 Hg Hh hb
       have X4 : Hid (Has w w4 [(g4, .cells (bs (List.replicate 16 0)).toArray 46 (0, 0)), (w.heap.size, .cells (bs K).toArray 23 (0, 0))]) := X0.out.new hb (Nat.le_of_eq Hg.out.1.symm) Hh.out
       have r1 : Hid (w4.rangeAt w.heap.size 0 (bs K)) := range_block (X4.out.get (by simp) : w4.heap[w.heap.size]? = some (.cells (bs K).toArray 23 (0, 0)))
       clear Hg Hh hb X0)
    | ((with_reducible refine lst_load_mid 23 (.tmp 2) rfl w.heap.size 0 rfl (bs K) _ r1.out uK.out rfl i1.out ?_ ?_)
       (focus rfl)))
  refine (Clamp_any w4 HK.out).mono ?_
  rintro e w5 ⟨A5, c5, rfl, ho5, hb5⟩
  have X5 := Lib.hid (X4.out.bl hb5)
  have S5 := Lib.hid (Sl.of_own ho5)
  have E4 : Hid (w.heap.size ≤ g4) := Lib.hid (X4.out.ge (by simp : (g4, Obj.cells (bs (List.replicate 16 0)).toArray 46 (0, 0)) ∈ _))
  clear ho5 hb5 X4 r1
  go_wp2_with fail
  refine (Digits_any S5.out (fun _ h => h.2.1) (by decide)).mono ?_
  rintro e w6 ⟨A6, c6, rfl, ho6, hb6⟩
  have X6 := Lib.hid (X5.out.bl hb6)
  have R6 : Hid (Dg w6 (fun k => k < w6.heap.size) A6 64 c6 (digitsL (clampL K))) := (Dg.of_own ho6).mono (fun k h => h.2)
  clear ho6 hb6 X5 S5
  go_wp2_with fail
  go_loopw [6, 7] (fun av z wr => ∃ (j i : Nat) (A' : Option Addr) (n' c' : Nat) (a : List Nat), i = 16 * j ∧ j ≤ (n + 15) / 16 ∧ z = .int .i64 (i : Nat) ∧ av = .slice A' n' c' ∧ Hid (RSuI w6 wr K l j A' n' c' a)) (fun _ z _ => n - (intOf z).toNat)
  case atStart => exact ⟨0, 0, none, 0, 0, [], rfl, Nat.zero_le _, rfl, rfl, Lib.hid ⟨Dg.nil _ _, fun d hd => (by cases hd), rfl, by decide, Below.refl _ _⟩⟩
  case round =>
    obtain ⟨j, i, A1, n1, c1, a, hij, hj, rfl, rfl, I⟩ := hrel
    have hi0 : (0 : Int) ≤ (i : Int) := by omega
    have HIJ := Lib.hid hij
    have HJ := Lib.hid hj
    by_cases hlt : i < n
    · have hiI : (i : Int) < (n : Int) := by omega
      have HI := Lib.hid hlt
      have hnb : n ≤ 100000 := HN.out
      have Hs := Lib.hid (H.out.belF (Below.tr X6.out.bel I.out.bel) HF.out)
      obtain ⟨ad, rfl⟩ : ∃ ad, A = some ad := by
        cases A with
        | some ad => exact ⟨ad, rfl⟩
        | none => have := (H.out.zero rfl).1; omega
      have hcap := H.out.cap
      obtain ⟨t, ht⟩ : ∃ t, i + 16 = t := ⟨_, rfl⟩
      have htI : (i : Int) + 16 = (t : Int) := by omega
      obtain ⟨q, hq⟩ : ∃ q, (if n < t then n else t) = q := ⟨_, rfl⟩
      have hqI : (if n < t then (n : Int) else (t : Int)) = (q : Int) := by rw [← hq]; split <;> rfl
      have hqf : i < q ∧ q ≤ n ∧ q ≤ i + 16 ∧ (q = n ∨ q = i + 16) := by rw [← hq]; split <;> omega
      have hqiI : (i : Int) ≤ (q : Int) := by omega
      have hqcI : (q : Int) ≤ (c : Int) := by omega
      have hqi : i ≤ q := by omega
      have hqc : q ≤ c := by omega
      have hne : ¬ c = i := by omega
      have HQ := Lib.hid hqf
      obtain ⟨P, hP⟩ : ∃ P, P = (l.drop i).take (q - i) := ⟨_, rfl⟩
      have HPl : Hid (P.length = q - i) := by rw [hP, List.length_take, List.length_drop, HL.out]; exact Lib.hid (by omega)
      have HSP : Hid (Sl wr F (some (ad.add i)) (q - i) (c - i) P) := by
        have h1 := Hs.out.drop_ (m := i) (A' := some (ad.add i)) (by omega) (.inr rfl)
        rw [← List.take_append_drop (q - i) (l.drop i), ← hP] at h1
        exact Lib.hid (h1.take_ HPl.out)
      have HB1 : Hid (P ++ [1] = (l.drop (16 * j)).take 16 ++ [1]) := by
        rw [hP, ← HIJ.out]
        refine Lib.hid ?_
        congr 1
        rcases hqf.2.2.2 with e | e
        · rw [List.take_of_length_le (by rw [List.length_drop, HL.out]; omega), List.take_of_length_le (by rw [List.length_drop, HL.out]; omega)]
        · rw [show q - i = 16 by omega]
      have hwsz := I.out.bel.size
      have hW0 := Lib.hid hwsz
      have HFw : Hid (∀ k, F k → k < wr.heap.size) := Lib.hid fun k hk => Nat.lt_of_lt_of_le (HF.out k hk) (Nat.le_trans X6.out.bel.size hwsz)
      clear hq hqf hij hj hP hwsz
      have hqi17 : Hid (q - i ≤ 16) := Lib.hid (by have := HQ.out; omega)
      have HR6 : Hid (Rd (wr.alloc (.cells #[] 5)) (some (ad.add i)) (bs P)) := Lib.hid (HSP.out.belF (Below.al wr _) HFw.out).rd
      have HO6 := Lib.hid (own_empty wr)
      have hs6 : Hid (wr.heap.size ≤ (wr.alloc (.cells #[] 5)).heap.size) := Lib.hid (by rw [World.size_alloc]; omega)
      have hl6 : Hid (0 + (q - i) ≤ 140737488355328) := Lib.hid (by have := hqi17.out; omega)
      obtain ⟨m7, hm7⟩ : ∃ m7, 0 + (q - i) = m7 := ⟨_, rfl⟩
      have HM7 : Hid (m7 ≤ 16 ∧ m7 = P.length) := Lib.hid ⟨by have := hqi17.out; omega, by have := HPl.out; omega⟩
      have hl7 : Hid (m7 + 1 ≤ 140737488355328) := Lib.hid (by have := HM7.out; omega)
      go_wp2_with (first
        | (at_builtin
           refine append_bytes rfl (.tmp 20) (.tmp 28) rfl wr.heap.size _ 0 0 [] rfl HO6.out (some (ad.add i)) (q - i) (c - i) P rfl HPl.out HR6.out hl6.out hs6.out ?_
           intro A7 c7 w7 hown7 hg7 _
           rw [hm7] at hown7
           rw [hm7]
           rw [List.nil_append] at hown7
           have HO7 := Lib.hid (hown7.alloc (.cells #[.int .u8 1] 5))
           have B7 : Hid (Below wr.heap.size wr (w7.alloc (.cells #[.int .u8 1] 5))) := Lib.hid (Below.tr ((Below.al wr _).grown hg7 hs6.out (fun j hj => by have e : some wr.heap.size = some j := hj; injection e with e; omega)) (Below.al w7 _))
           have hs7 := Lib.hid B7.out.size
           clear hown7 hg7)
        | (at_builtin
           refine append_bytes rfl (.tmp 30) (.tmp 31) rfl wr.heap.size A7 m7 c7 P rfl HO7.out (some ⟨w7.heap.size, 0, none⟩) 1 1 [1] rfl rfl (Rd.one1 w7) hl7.out hs7.out ?_
           intro A8 c8 w8 hown8 hg8 _
           have HO8 := Lib.hid hown8
           have B8 : Hid (Below wr.heap.size wr w8) := Lib.hid (B7.out.grown hg8 hs7.out (fun j hj => (HO7.out.lt j hj).1))
           clear hown8 hg8))
      have S8 := Lib.hid (Sl.of_own HO8.out)
      have I8 := I
      clear HO8 HO7 B7 hs7 HSP HR6 HO6 hs6 hl6 hl7 hqi17 HPl
      refine (Digits_any S8.out (fun _ h => h.2.1) (by have := HM7.out; omega)).mono ?_
      rintro e w9 ⟨A9, c9, rfl, ho9, hb9⟩
      have B9 := Lib.hid (Below.tr B8.out hb9)
      have D9 := Lib.hid (Dg.of_own ho9)
      clear ho9 hb9 S8 B8
      go_wp2_with fail
      refine (plus_any (I.out.dg.belF B9.out) D9.out (by have := I.out.le; omega) (by have := HM7.out; omega) I.out.d4.le (digitsL_d4 _).le).mono ?_
      rintro e w10 ⟨A10, n10, c10, r10, rfl, ho10, hb10, hd10, hv10, hn10⟩
      have B10 := Lib.hid (Below.tr B9.out hb10)
      have D10 := Lib.hid (Dg.of_own ho10)
      have F10 := Lib.hid hd10
      have V10 : Hid (dgval r10 = accN (leN (clampL K)) l j + blkN l j) := Lib.hid (by rw [hv10, I.out.val, digitsL_val, HB1.out]; rfl)
      have N10 : Hid (n10 ≤ 100) := Lib.hid (by have := HM7.out; have := I.out.le; omega)
      clear ho10 hb10 hd10 hv10 hn10 D9 B9
      go_wp2_with fail
      refine (rTimes_any D10.out (R6.out.belF (Below.tr I.out.bel B10.out)) (by have := N10.out; omega) (by decide) F10.out.le (digitsL_d4 _).le).mono ?_
      rintro e w11 ⟨A11, n11, c11, r11, rfl, ho11, hb11, hd11, hv11, hn11⟩
      have B11 := Lib.hid (Below.tr B10.out hb11)
      have D11 := Lib.hid (Dg.of_own ho11)
      have F11 := Lib.hid hd11
      have V11 : Hid (dgval r11 = (accN (leN (clampL K)) l j + blkN l j) * leN (clampL K)) := Lib.hid (by rw [hv11, V10.out, digitsL_val])
      have N11 : Hid (n11 ≤ 200) := Lib.hid (by have := N10.out; omega)
      clear ho11 hb11 hd11 hv11 hn11 D10 B10 F10 V10 N10
      go_wp2_with fail
      refine (rest_any D11.out (fun _ h => h.2) (by have := N11.out; omega) F11.out).mono ?_
      rintro e w12 ⟨A12, n12, c12, r12, rfl, ho12, hb12, hd12, hv12, hn12⟩
      have B12 := Lib.hid (Below.tr B11.out hb12)
      have J : Hid (RSuI w6 w12 K l (j + 1) A12 n12 c12 r12) := Lib.hid ⟨ho12, hd12, by rw [hv12, V11.out, PP_pP]; rfl, hn12, Below.tr I.out.bel B12.out⟩
      clear ho12 hb12 hd12 hv12 hn12 D11 B11 F11 V11 N11
      go_wp2_with fail
      go_roundw
      case rel => exact ⟨j + 1, i + 16, A12, n12, c12, r12, by have := HIJ.out; omega, by have := HIJ.out; have := HI.out; omega, by go_num, rfl, J⟩
      case measure => simp [intOf]; have := HI.out; omega
    · have hiI : ¬ (i : Int) < (n : Int) := by omega
      have hjn : j = (n + 15) / 16 := by omega
      have HJN := Lib.hid hjn
      have Xr := Lib.hid (X6.out.bl I.out.bel)
      clear hij hj hjn
      go_wp2_with fail
      have SK : Hid (Sl wr (fun k => k < wr.heap.size) (some ⟨w.heap.size, 16, none⟩) 16 16 (K.drop 16)) := by
        have hb : wr.heap[w.heap.size]? = some (.cells (bs K).toArray 23 (0, 0)) := Xr.out.get (by simp)
        have h1 := (Sl.of_block hb rfl 32 HK.out).drop_ (m := 16) (A' := some ⟨w.heap.size, 16, none⟩) (by decide) (.inr rfl)
        exact Lib.hid (h1.mono fun k e => by rw [e]; exact (Array.getElem?_eq_some_iff.1 hb).1)
      refine (Digits_any SK.out (fun _ h => h) (by decide)).mono ?_
      rintro e w9 ⟨A9, c9, rfl, ho9, hb9⟩
      have B9 := Lib.hid hb9
      have D9 := Lib.hid (Dg.of_own ho9)
      clear ho9 hb9 SK
      go_wp2_with fail
      refine (plus_any (I.out.dg.belF B9.out) D9.out (by have := I.out.le; omega) (by decide) I.out.d4.le (digitsL_d4 _).le).mono ?_
      rintro e w10 ⟨A10, n10, c10, r10, rfl, ho10, hb10, hd10, hv10, hn10⟩
      obtain ⟨T, hT⟩ : ∃ T, T = tagL K l := ⟨_, rfl⟩
      have HT := Lib.hid hT
      have TL : Hid (T.length = 16) := Lib.hid (by rw [hT]; exact tagL_len _ _)
      have D10 := Lib.hid (Dg.of_own ho10)
      have F10 := Lib.hid hd10
      have V10 : Hid (T = leB 16 (dgval r10)) := Lib.hid (by rw [hT, hv10, I.out.val, digitsL_val, HJN.out, ← HL.out]; rfl)
      have X10 := Lib.hid (Xr.out.bl (Below.tr B9.out hb10))
      clear ho10 hb10 hd10 hv10 hn10 D9 B9 I Xr hT
      have z10 : Hid (w.heap.size ≤ w10.heap.size) := Lib.hid X10.out.bel.size
      go_wp2_with (
        (with_reducible refine lst_alloc_d 9 rfl 46 rfl iT _ HiT.out HzT.out ?_ ?_)
        (focus rfl)
        intro g9 w11 Hg Hh hb
        have G11 : Hid (ByB w11 46 g9 16 (tagK T 0)) := by rw [show tagK T 0 = List.replicate 16 0 from rfl]; exact ByB.of_block Hh.out rfl (by simp) (by decide)
        have D11 : Hid (Dg w11 (fun k => k < g9) A10 n10 c10 r10) := Lib.hid (by rw [Hg.out.1]; exact (D10.out.mono (fun _ h => h.2)).belF hb)
        have E11 : Hid (g4 < g9) := Lib.hid (by rw [Hg.out.1]; exact X10.out.lt (by simp : (g4, Obj.cells (bs (List.replicate 16 0)).toArray 46 (0, 0)) ∈ _))
        have E12 : Hid (w.heap.size ≤ g9) := Lib.hid (by rw [Hg.out.1]; exact z10.out)
        have E13 : Hid (w.heap.size < g9) := Lib.hid (by rw [Hg.out.1]; exact X10.out.lt (by simp : (w.heap.size, Obj.cells (bs K).toArray 23 (0, 0)) ∈ _))
        have X11 := Lib.hid (X10.out.bl hb)
        clear Hg Hh hb X10 D10)
      go_loopw [10] (fun iv wr => ∃ k : Nat, k ≤ 16 ∧ iv = .int .i64 (k : Nat) ∧ Hid (ByB wr 46 g9 16 (tagK T k)) ∧ Hid (Has w wr [(g4, .cells (bs (List.replicate 16 0)).toArray 46 (0, 0)), (w.heap.size, .cells (bs K).toArray 23 (0, 0))]) ∧ Hid (Dg wr (fun k => k < g9) A10 n10 c10 r10)) (fun i _ => 16 - (intOf i).toNat)
      case atStart => exact ⟨0, Nat.zero_le _, rfl, G11, X11, D11⟩
      case round =>
        rename World => wi
        clear G11 X11 D11
        obtain ⟨k, hk, rfl, G, X, D⟩ := hrel
        by_cases hlt : k < 16
        · have hkI : (k : Int) < 16 := by omega
          have hk0 : (0 : Int) ≤ (k : Int) := by omega
          obtain ⟨m0, hm0⟩ : ∃ m : Nat, m = 4 * k := ⟨_, rfl⟩
          obtain ⟨m1, hm1⟩ : ∃ m : Nat, m = 4 * k + 1 := ⟨_, rfl⟩
          obtain ⟨m2, hm2⟩ : ∃ m : Nat, m = 4 * k + 2 := ⟨_, rfl⟩
          obtain ⟨m3, hm3⟩ : ∃ m : Nat, m = 4 * k + 3 := ⟨_, rfl⟩
          have i0 : (4 : Int) * (k : Int) = (m0 : Int) := by omega
          have i1' : (m0 : Int) + 1 = (m1 : Int) := by omega
          have i2 : (m0 : Int) + 2 = (m2 : Int) := by omega
          have i3 : (m0 : Int) + 3 = (m3 : Int) := by omega
          have hm0b : m0 ≤ 100 := by omega
          obtain ⟨d0, hd0⟩ : ∃ d, d = r10.getD m0 0 := ⟨_, rfl⟩
          obtain ⟨d1, hd1⟩ : ∃ d, d = r10.getD m1 0 := ⟨_, rfl⟩
          obtain ⟨d2, hd2⟩ : ∃ d, d = r10.getD m2 0 := ⟨_, rfl⟩
          obtain ⟨d3, hd3⟩ : ∃ d, d = r10.getD m3 0 := ⟨_, rfl⟩
          have hB := byte_digits F10.out k
          rw [← hm1, ← hm2, ← hm3, ← hm0, ← hd0, ← hd1, ← hd2, ← hd3] at hB
          have b0 : d0 ≤ 3 := by rw [hd0]; exact getD_leD F10.out.le _
          have b1 : d1 ≤ 3 := by rw [hd1]; exact getD_leD F10.out.le _
          have b2 : d2 ≤ 3 := by rw [hd2]; exact getD_leD F10.out.le _
          have b3 : d3 ≤ 3 := by rw [hd3]; exact getD_leD F10.out.le _
          obtain ⟨x, hx⟩ : ∃ x, x = T[k]'(by rw [TL.out]; exact hlt) := ⟨_, rfl⟩
          have hxT : x.toNat = d0 + 4 * d1 + 16 * d2 + 64 * d3 := by
            rw [hB, hx]
            have hg : T[k]'(by rw [TL.out]; exact hlt) = UInt8.ofNat (dgval r10 / 256 ^ k) := by
              have e := V10.out
              have : T[k]? = (leB 16 (dgval r10))[k]? := by rw [← e]
              rw [List.getElem?_eq_getElem (by rw [TL.out]; exact hlt), List.getElem?_eq_getElem (by rw [leB_len]; exact hlt)] at this
              injection this with this
              rw [this]; simp [leB]
            rw [hg]; simp
          obtain ⟨s1, hs1⟩ : ∃ s : Nat, s = 4 * d1 := ⟨_, rfl⟩
          obtain ⟨s2, hs2⟩ : ∃ s : Nat, s = d0 + s1 := ⟨_, rfl⟩
          obtain ⟨s3, hs3⟩ : ∃ s : Nat, s = 16 * d2 := ⟨_, rfl⟩
          obtain ⟨s4, hs4⟩ : ∃ s : Nat, s = s2 + s3 := ⟨_, rfl⟩
          obtain ⟨s5, hs5⟩ : ∃ s : Nat, s = 64 * d3 := ⟨_, rfl⟩
          have e1 : (4 : Int) * (d1 : Int) = (s1 : Int) := by omega
          have e2 : (d0 : Int) + (s1 : Int) = (s2 : Int) := by omega
          have e3 : (16 : Int) * (d2 : Int) = (s3 : Int) := by omega
          have e4 : (s2 : Int) + (s3 : Int) = (s4 : Int) := by omega
          have e5 : (64 : Int) * (d3 : Int) = (s5 : Int) := by omega
          have e6 : (s4 : Int) + (s5 : Int) = (x.toNat : Int) := by omega
          have c1' : s1 ≤ 12 := by omega
          have c2' : s2 ≤ 15 := by omega
          have c3' : s3 ≤ 48 := by omega
          have c4' : s4 ≤ 63 := by omega
          have c5' : s5 ≤ 192 := by omega
          have hxw : IntKind.u8.wrap (x.toNat : Int) = (x.toNat : Int) := by rw [IntKind.wrap_u8]; have := x.toNat_lt; omega
          have DX0 := digit_any D.out m0; have DX1 := digit_any D.out m1; have DX2 := digit_any D.out m2; have DX3 := digit_any D.out m3
          rw [← hd0] at DX0; rw [← hd1] at DX1; rw [← hd2] at DX2; rw [← hd3] at DX3
          have HX := Lib.hid hx; have HXT := Lib.hid hxT
          have hcell := G.out.cell (i := k) (by rw [tagK_len TL.out (by omega)]; exact hlt)
          have hz := World.ownsRow.frozenAt G.out k
          clear hm0 hm1 hm2 hm3 hd0 hd1 hd2 hd3 hB hx hxT hs1 hs2 hs3 hs4 hs5
          go_wp2_with fail
          refine DX0.mono ?_
          rintro e w' ⟨rfl, rfl⟩
          go_wp2_with fail
          refine DX1.mono ?_
          rintro e w' ⟨rfl, rfl⟩
          go_wp2_with fail
          refine DX2.mono ?_
          rintro e w' ⟨rfl, rfl⟩
          go_wp2_with fail
          refine DX3.mono ?_
          rintro e w' ⟨rfl, rfl⟩
          go_wp2_with fail
          have hf : Fr (fun i => i = g9) wi (wi.setCell ⟨g9, k, none⟩ (.int .u8 (x.toNat : Int))) := (Fr.refl (fun i => i = g9) wi).setCell (p := ⟨g9, k, none⟩) (.inl rfl) _
          have G' : Hid (ByB (wi.setCell ⟨g9, k, none⟩ (.int .u8 (x.toNat : Int))) 46 g9 16 (tagK T (k + 1))) := by
            have h1 := G.out.set k x
            rw [HX.out, tagK_set TL.out hlt, ← HX.out] at h1
            exact h1
          have X' := Lib.hid (X.out.fr hf (by intro p hp e; simp only [List.mem_cons, List.not_mem_nil, or_false] at hp; have := E11.out; have := E13.out; rcases hp with rfl | rfl <;> simp only at e <;> omega) (fun k hk => by rw [hk]; exact E12.out))
          have D' := Lib.hid (D.out.fr hf (fun j hj => ⟨Nat.lt_trans hj (Array.getElem?_eq_some_iff.1 (ByB.heap G.out)).1, fun e => by omega⟩))
          go_roundw
          case rel => exact ⟨k + 1, by omega, by go_num, G', X', D'⟩
          case measure => simp [intOf]; omega
        · have hkI : ¬ (k : Int) < 16 := by omega
          have hk16 : k = 16 := by omega
          have GT : Hid (ByB wi 46 g9 16 T) := by
            have := G.out
            rw [hk16, show tagK T 16 = T by unfold tagK; rw [List.take_of_length_le (by rw [TL.out]; omega)]; simp] at this
            exact this
          have hro : Hid (wi.rangeAt g9 0 (bs T)) := GT.out.range
          have uT := Lib.hid Try.underlying46
          have iT2 : Hid ((Try.prog.info? 46).map (·.size) = some (bs T).length) := by rw [bs_length, TL.out]; exact Try.sizeTag
          have hP : Hid (wi.heap[g4]? = some (.cells (bs (List.replicate 16 0)).toArray 46 (0, 0))) := X.out.get (by simp)
          have Xb := Lib.hid X.out.bel
          clear G X D hk16
          go_wp2_with (first
            | ((with_reducible refine lst_load_mid 46 (.tmp 9) rfl g9 0 rfl (bs T) _ hro.out uT.out rfl iT2.out ?_ ?_)
               (focus rfl))
            | ((with_reducible refine lst_store_abs 46 (.tmp 4) (.tmp 76) rfl g4 46 (bs (List.replicate 16 0)).toArray (bs T).toArray rfl rfl hP.out (by simpa using iT2.out) (by simp [bs_length, TL.out]) (by simp; exact bs_oneCell _) ?_ ?_)
               (focus rfl)
               intro w13 Hh13 hg13
               have P13 := Hh13
               have B13 := Lib.hid hg13
               clear hg13))
          rw [← HT.out]
          refine bodyPost_ret (v := .agg (bs T).toArray) ?_ rfl ⟨rfl, ?_⟩
          · exact results_cell Try.results36 rfl (run_loadVar_mid w13 g4 0 46 (bs T) _ (range_block P13.out) uT.out rfl iT2.out)
          · exact Xb.out.grown B13.out Xb.out.size (fun j hj => by injection hj with hj; have := E4.out; omega)
end Go.Proofs.Ytklclbppdoahjaa
/- The reference's Tag. -/
namespace Go.Proofs.Ytklclbppdoahjaa
set_option maxRecDepth 100000
open Go.RowKit
attribute [local go_sem] yld yldUpon_value

theorem Has.add {w wr : World} {L : List (Nat × Obj)} (h : Has w wr L) {g : Nat} {o : Obj} (ho : wr.heap[g]? = some o) (hg : w.heap.size ≤ g) (hne : ∀ p ∈ L, p.1 ≠ g) : Has w wr ((g, o) :: L) :=
  ⟨fun p hp => by rcases List.mem_cons.1 hp with rfl | hp; exact ⟨ho, hg⟩; exact h.at_ p hp, List.Pairwise.cons (fun p hp e => hne p hp e.symm) h.nd, h.bel⟩
theorem Sl.own_lt {w : World} {base : Nat} {A : Option Addr} {n c : Nat} {l : List UInt8} (h : w.ownsRow base 5 1 (.slice A n c) n (bs l)) : Sl w (fun k => k < w.heap.size) A n c l := (Sl.of_own h).mono (fun k hk => hk.2.1)
set_option maxRecDepth 100000 in
set_option maxHeartbeats 4000000 in
theorem rTag_any {w : World} {ky nc : List UInt8} (hk : ky.length = 32) (hn : nc.length = 12) {F G : Nat → Prop} {A B : Option Addr} {n c m d : Nat} {head ci : List UInt8} (h1 : Sl w F A n c head) (hF : ∀ k, F k → k < w.heap.size) (h2 : Sl w G B m d ci) (hG : ∀ k, G k → k < w.heap.size) (hb1 : n ≤ 40000) (hb2 : m ≤ 40000) :
    Calls Try.prog 27 #[.agg (bs ky).toArray, .agg (bs nc).toArray, .slice A n c, .slice B m d] w fun e w' => e = .returned (.agg (bs (aeadTag ky nc head ci)).toArray) ∧ Below w.heap.size w w' := by
  have HK := Lib.hid hk; have HN := Lib.hid hn; have H1 := Lib.hid h1; have H2 := Lib.hid h2; have HF := Lib.hid hF; have HG := Lib.hid hG
  have B1 := Lib.hid hb1; have B2 := Lib.hid hb2
  have L1 := Lib.hid h1.len; have L2 := Lib.hid h2.len
  clear hk hn h1 h2 hF hG hb1 hb2
  obtain ⟨iT, hiT, zT, _, _⟩ := info_parts Try.infoTag
  have HiT := Lib.hid hiT; have HzT := Lib.hid zT
  clear hiT zT
  obtain ⟨io, hio, hzo, _, _⟩ := info_parts Try.infoO
  have Hio := Lib.hid hio; have Hzo := Lib.hid hzo
  clear hio hzo
  obtain ⟨iZ, hiZ, zZ, _, _⟩ := info_parts Try.infoK
  have HiZ := Lib.hid hiZ; have HzZ := Lib.hid zZ
  clear hiZ zZ
  obtain ⟨P, hP⟩ : ∃ P, P = blockP ky 0 nc := ⟨_, rfl⟩
  have PL : Hid (P.length = 64) := Lib.hid (by rw [hP]; exact blockP_len _ _ _)
  have HP := Lib.hid hP
  clear hP
  have uK := Lib.hid Try.underlying23
  have uN := Lib.hid Try.underlying25
  have iK : Hid ((Try.prog.info? 23).map (·.size) = some (bs ky).length) := by rw [bs_length, HK.out]; exact Try.sizeK
  have iN : Hid ((Try.prog.info? 25).map (·.size) = some (bs nc).length) := by rw [bs_length, HN.out]; exact Try.sizeN
  have uT := Lib.hid Try.underlying46
  have iO : Hid ((Try.prog.info? 23).map (·.size) = some (bs (onceL ky nc)).length) := by rw [bs_length, onceL_len]; exact Try.sizeK
  obtain ⟨T, hT⟩ : ∃ T, T = aeadTag ky nc head ci := ⟨_, rfl⟩
  have HTe : Hid (tagL (onceL ky nc) (aeadT head ci) = T) := hT.symm
  have HTl : Hid (T.length = 16) := by rw [hT]; exact aeadTag_len _ _ _ _
  rw [← hT]
  have iT3 : Hid ((Try.prog.info? 46).map (·.size) = some (bs T).length) := by rw [bs_length, HTl.out]; exact Try.sizeTag
  clear hT
  go_enter Try.func27, Try.ntmps27
  have Y1 : Has w ((w.alloc (.cells (bs ky).toArray 23)).alloc (.cells (bs nc).toArray 25)) [(w.heap.size + 1, .cells (bs nc).toArray 25 (0, 0)), (w.heap.size, .cells (bs ky).toArray 23 (0, 0))] := by
    have Z := ((Has.start (Below.refl _ w)).new (Below.al w (.cells (bs ky).toArray 23)) (Nat.le_refl _) (heap_alloc_new w _)).new (Below.al _ (.cells (bs nc).toArray 25)) (Nat.le_refl _) (heap_alloc_new _ _)
    rw [World.size_alloc] at Z; exact Z
  have X1 := Lib.hid Y1
  clear Y1
  go_wp2_with (first
    | ((with_reducible refine lst_alloc_d 8 rfl 46 rfl iT _ HiT.out HzT.out ?_ ?_)
       (focus rfl)
       intro g8 w8 Hg Hh hb
       have X8 : Hid (Has w w8 [(g8, .cells (bs (List.replicate 16 0)).toArray 46 (0, 0)), (w.heap.size + 1, .cells (bs nc).toArray 25 (0, 0)), (w.heap.size, .cells (bs ky).toArray 23 (0, 0))]) := X1.out.new hb (Nat.le_of_eq Hg.out.1.symm) Hh.out
       have r1 : Hid (w8.rangeAt w.heap.size 0 (bs ky)) := range_block (X8.out.get (by simp) : w8.heap[w.heap.size]? = some (.cells (bs ky).toArray 23 (0, 0)))
       have r2 : Hid (w8.rangeAt (w.heap.size + 1) 0 (bs nc)) := range_block (X8.out.get (by simp) : w8.heap[w.heap.size + 1]? = some (.cells (bs nc).toArray 25 (0, 0)))
       clear Hg Hh hb X1)
    | ((with_reducible refine lst_load_mid 23 (.tmp 4) rfl w.heap.size 0 rfl (bs ky) _ r1.out uK.out rfl iK.out ?_ ?_)
       (focus rfl))
    | ((with_reducible refine lst_load_mid 25 (.tmp 5) rfl (w.heap.size + 1) 0 rfl (bs nc) _ r2.out uN.out rfl iN.out ?_ ?_)
       (focus rfl)))
  refine (RefBlock_any w8 ky nc 0 HK.out HN.out).mono ?_
  rintro e w9 ⟨rfl, hb9⟩
  rw [← HP.out]
  have X9 := Lib.hid (X8.out.bl hb9)
  clear hb9 X8 r1 r2
  have iP : Hid ((Try.prog.info? 61).map (·.size) = some (bs P).length) := by rw [bs_length, PL.out]; exact Try.sizeO
  go_wp2_with (first
    | ((with_reducible refine lst_alloc_d 9 rfl 61 rfl io _ Hio.out Hzo.out ?_ ?_)
       (focus rfl)
       intro g9 w10 Hg Hh hb
       have Q10 : Hid (w10.heap[g9]? = some (.cells (bs (List.replicate 64 0)).toArray 61 (0, 0))) := Hh
       have Y10 := Lib.hid (X9.out.new hb (Nat.le_of_eq Hg.out.1.symm) Q10.out)
       clear Hg Hh hb X9)
    | ((with_reducible refine lst_store_abs 61 (.tmp 9) (.tmp 15) rfl g9 61 (bs (List.replicate 64 0)).toArray (bs P).toArray rfl rfl Q10.out (by simpa using iP.out) (by simp [bs_length, PL.out]) (by simp; exact bs_oneCell _) ?_ ?_)
       (focus rfl)
       intro w11 Hh11 hg11
       have X11 := Lib.hid (Has.wr (L := []) Y10.out hg11 Hh11.out)
       clear Hh11 hg11 Y10 Q10)
    | ((with_reducible refine lst_alloc_d 10 rfl 23 rfl iZ _ HiZ.out HzZ.out ?_ ?_)
       (focus rfl)
       intro g10 w12 Hg Hh hb
       have X12 := Lib.hid (X11.out.bl hb)
       have G12 : Hid (ByB w12 23 g10 32 (partK P 0)) := by rw [show partK P 0 = List.replicate 32 0 from rfl]; exact ByB.of_block Hh.out rfl (by simp) (by decide)
       have E12 : Hid (∀ p ∈ ([(g9, .cells (bs P).toArray 61 (0, 0)), (g8, .cells (bs (List.replicate 16 0)).toArray 46 (0, 0)), (w.heap.size + 1, .cells (bs nc).toArray 25 (0, 0)), (w.heap.size, .cells (bs ky).toArray 23 (0, 0))] : List (Nat × Obj)), p.1 < g10) := Lib.hid (fun p hp => by rw [Hg.out.1]; exact X11.out.lt hp)
       clear Hg Hh hb X11))
  go_loopw [11] (fun iv wr => ∃ k : Nat, k ≤ 32 ∧ iv = .int .i64 (k : Nat) ∧ Hid (ByB wr 23 g10 32 (partK P k)) ∧ Hid (Has w wr [(g9, .cells (bs P).toArray 61 (0, 0)), (g8, .cells (bs (List.replicate 16 0)).toArray 46 (0, 0)), (w.heap.size + 1, .cells (bs nc).toArray 25 (0, 0)), (w.heap.size, .cells (bs ky).toArray 23 (0, 0))])) (fun i _ => 32 - (intOf i).toNat)
  case atStart => exact ⟨0, Nat.zero_le _, rfl, G12, X12⟩
  case round =>
    rename World => wi
    clear G12 X12
    obtain ⟨k, hk, rfl, G, X⟩ := hrel
    have hk0 : (0 : Int) ≤ (k : Int) := by omega
    by_cases hlt : k < 32
    · have hkI : (k : Int) < 32 := by omega
      have hk64 : (k : Int) < 64 := by omega
      obtain ⟨x, hx⟩ : ∃ x, x = P[k]'(by rw [PL.out]; omega) := ⟨_, rfl⟩
      have hpc : wi.cell? ⟨g9, k, none⟩ = some (.int .u8 (x.toNat : Int)) := by
        have hh : wi.heap[g9]? = some (.cells (bs P).toArray 61 (0, 0)) := X.out.get (by simp)
        rw [cell_of_row wi g9 k _ _ _ hh]
        have := bs_get P k (by rw [PL.out]; omega)
        rw [List.getElem?_toArray, hx]; exact this
      have HX := Lib.hid hx
      have hcell := G.out.cell (i := k) (by rw [partK_len PL.out (by omega)]; exact hlt)
      have hz := World.ownsRow.frozenAt G.out k
      clear hx
      go_wp2_with fail
      have hf : Fr (fun i => i = g10) wi (wi.setCell ⟨g10, k, none⟩ (.int .u8 (x.toNat : Int))) := (Fr.refl (fun i => i = g10) wi).setCell (p := ⟨g10, k, none⟩) (.inl rfl) _
      have G' : Hid (ByB (wi.setCell ⟨g10, k, none⟩ (.int .u8 (x.toNat : Int))) 23 g10 32 (partK P (k + 1))) := by
        have h1 := G.out.set k x
        rw [HX.out, partK_set PL.out hlt, ← HX.out] at h1
        exact h1
      have X' := Lib.hid (X.out.fr hf (fun p hp e => by have := E12.out p hp; omega) (fun j hj => by rw [hj]; have := E12.out (w.heap.size, .cells (bs ky).toArray 23 (0, 0)) (by simp); exact Nat.le_of_lt this))
      go_roundw
      case rel => exact ⟨k + 1, by omega, by go_num, G', X'⟩
      case measure => simp [intOf]; omega
    · have hkI : ¬ (k : Int) < 32 := by omega
      have hk32 : k = 32 := by omega
      subst hk32
      have HO : Hid (partK P 32 = onceL ky nc) := by show _ = _; rw [partK_end, HP.out]; rfl
      have Y : Hid (Has w wi [(g10, .cells (bs (onceL ky nc)).toArray 23 (0, 0)), (g9, .cells (bs P).toArray 61 (0, 0)), (g8, .cells (bs (List.replicate 16 0)).toArray 46 (0, 0)), (w.heap.size + 1, .cells (bs nc).toArray 25 (0, 0)), (w.heap.size, .cells (bs ky).toArray 23 (0, 0))]) := by
        have h1 := G.out
        rw [HO.out] at h1
        exact X.out.add h1.heap (Nat.le_of_lt (E12.out (w.heap.size, .cells (bs ky).toArray 23 (0, 0)) (by simp))) (fun p hp e => by have := E12.out p hp; omega)
      have YL : Hid (∀ p ∈ ([(g10, .cells (bs (onceL ky nc)).toArray 23 (0, 0)), (g9, .cells (bs P).toArray 61 (0, 0)), (g8, .cells (bs (List.replicate 16 0)).toArray 46 (0, 0)), (w.heap.size + 1, .cells (bs nc).toArray 25 (0, 0)), (w.heap.size, .cells (bs ky).toArray 23 (0, 0))] : List (Nat × Obj)), p.1 < wi.heap.size) := Lib.hid (fun p hp => Y.out.lt (g := p.1) (o := p.2) hp)
      have YZ : Hid (w.heap.size ≤ wi.heap.size) := Y.out.bel.size
      have S1 := Lib.hid (H1.out.belF X.out.bel HF.out)
      have B1' := B1.out
      have B2' := B2.out
      clear G X HO E12 hkI hlt hk0
      go_wp2_with fail
      refine (rFilled_any S1.out (fun k hk => Nat.lt_of_lt_of_le (HF.out k hk) Y.out.bel.size) (by omega)).mono ?_
      rintro e wa ⟨A1, m1, c1, rfl, hm1, ho1, hba⟩
      have O1 := Lib.hid ho1
      have Ba := Lib.hid hba
      have Ya := Lib.hid (Y.out.bl hba)
      have S2 := Lib.hid (H2.out.belF Ya.out.bel HG.out)
      clear ho1 hba S1 Y
      go_wp2_with fail
      refine (rFilled_any S2.out (fun k hk => Nat.lt_of_lt_of_le (HG.out k hk) Ya.out.bel.size) (by omega)).mono ?_
      rintro e wb ⟨A2, m2, c2, rfl, hm2, ho2, hbb⟩
      have O1b := Lib.hid (own_fr O1.out (Fr.of_below (M := NoB) hbb) (fun _ _ e => e))
      have Bb := Lib.hid (Below.tr Ba.out hbb)
      have T2 := Lib.hid (Sl.of_own ho2)
      have Yb := Lib.hid (Ya.out.bl hbb)
      obtain ⟨m3, hm3⟩ : ∃ m3, m3 = m1 + m2 := ⟨_, rfl⟩
      have hm3b : m3 ≤ 80030 := by omega
      have HM3 := Lib.hid hm3
      have hsum : m1 + m2 ≤ 140737488355328 := by omega
      have HS12 := Lib.hid hsum
      clear ho2 hbb O1 Ba Ya S2 hm3 hsum hm1 hm2
      go_wp2_with (
        at_builtin
        refine append_bytes rfl (.tmp 27) (.tmp 29) rfl wi.heap.size A1 m1 c1 _ rfl O1b.out A2 m2 c2 _ rfl T2.out.len T2.out.rd HS12.out Bb.out.size ?_
        intro A3 c3 w3 hown3 hg3 _
        rw [← HM3.out] at hown3 ⊢
        have O3 := Lib.hid hown3
        have B3 := Lib.hid (Bb.out.grown hg3 Bb.out.size (fun j hj => (O1b.out.lt j hj).1))
        have Y3 := Lib.hid (Yb.out.fr (Fr.of_grown hg3) (fun p hp e => by have h1 := (O1b.out.lt p.1 e.symm).1; exact absurd (YL.out p hp) (by omega)) (fun k hk => Nat.le_trans YZ.out (O1b.out.lt k hk.symm).1))
        clear hown3 hg3 O1b T2 Bb Yb)
      refine (rLength_any w3 n (by omega)).mono ?_
      rintro e w4 ⟨A4, c4, rfl, ho4, hb4⟩
      have O3b := Lib.hid (own_fr O3.out (Fr.of_below (M := NoB) hb4) (fun _ _ e => e))
      have B4 := Lib.hid (Below.tr B3.out hb4)
      have T4 := Lib.hid (Sl.of_own ho4)
      have Y4 := Lib.hid (Y3.out.bl hb4)
      obtain ⟨m4, hm4⟩ : ∃ m4, m4 = m3 + 8 := ⟨_, rfl⟩
      have hm4b : m4 ≤ 80040 := by omega
      have HM4 := Lib.hid hm4
      have HS4 : Hid (m3 + 8 ≤ 140737488355328) := Lib.hid (by omega)
      clear ho4 hb4 O3 B3 Y3 hm4
      go_wp2_with (
        at_builtin
        refine append_bytes rfl (.tmp 31) (.tmp 34) rfl wi.heap.size A3 m3 c3 _ rfl O3b.out A4 8 c4 _ rfl T4.out.len T4.out.rd HS4.out B4.out.size ?_
        intro A5 c5 w5 hown5 hg5 _
        rw [← HM4.out] at hown5 ⊢
        have O5 := Lib.hid hown5
        have B5 := Lib.hid (B4.out.grown hg5 B4.out.size (fun j hj => (O3b.out.lt j hj).1))
        have Y5 := Lib.hid (Y4.out.fr (Fr.of_grown hg5) (fun p hp e => by have h1 := (O3b.out.lt p.1 e.symm).1; exact absurd (YL.out p hp) (by omega)) (fun k hk => Nat.le_trans YZ.out (O3b.out.lt k hk.symm).1))
        clear hown5 hg5 O3b T4 B4 Y4)
      refine (rLength_any w5 m (by omega)).mono ?_
      rintro e w6 ⟨A6, c6, rfl, ho6, hb6⟩
      have O5b := Lib.hid (own_fr O5.out (Fr.of_below (M := NoB) hb6) (fun _ _ e => e))
      have B6 := Lib.hid (Below.tr B5.out hb6)
      have T6 := Lib.hid (Sl.of_own ho6)
      have Y6 := Lib.hid (Y5.out.bl hb6)
      obtain ⟨m5, hm5⟩ : ∃ m5, m5 = m4 + 8 := ⟨_, rfl⟩
      have hm5b : m5 ≤ 80050 := by omega
      have HM5 := Lib.hid hm5
      have HS5 : Hid (m4 + 8 ≤ 140737488355328) := Lib.hid (by omega)
      clear ho6 hb6 O5 B5 Y5 hm5
      go_wp2_with (first
        | (at_builtin
           refine append_bytes rfl (.tmp 36) (.tmp 39) rfl wi.heap.size A5 m4 c5 _ rfl O5b.out A6 8 c6 _ rfl T6.out.len T6.out.rd HS5.out B6.out.size ?_
           intro A7 c7 w7 hown7 hg7 _
           rw [← HM5.out] at hown7 ⊢
           have O7 : Hid (w7.ownsRow wi.heap.size 5 1 (.slice A7 m5 c7) m5 (bs (aeadT head ci))) := by rw [← aeadT_ref head ci, L1.out, L2.out]; exact hown7
           have B7 := Lib.hid (B6.out.grown hg7 B6.out.size (fun j hj => (O5b.out.lt j hj).1))
           have Y7 := Lib.hid (Y6.out.fr (Fr.of_grown hg7) (fun p hp e => by have h1 := (O5b.out.lt p.1 e.symm).1; exact absurd (YL.out p hp) (by omega)) (fun k hk => Nat.le_trans YZ.out (O5b.out.lt k hk.symm).1))
           have r7 : Hid (w7.rangeAt g10 0 (bs (onceL ky nc))) := range_block (Y7.out.get (by simp) : w7.heap[g10]? = some (.cells (bs (onceL ky nc)).toArray 23 (0, 0)))
           clear hown7 hg7 O5b T6 B6 Y6)
        | ((with_reducible refine lst_load_mid 23 (.tmp 10) rfl g10 0 rfl (bs (onceL ky nc)) _ r7.out uK.out rfl iO.out ?_ ?_)
           (focus rfl)))
      have S7 := Lib.hid (Sl.of_own O7.out)
      refine (rSum_any (onceL_len ky nc) S7.out (fun k hk => hk.2.1) (by omega)).mono ?_
      rintro e w8 ⟨rfl, hb8⟩
      rw [HTe.out]
      have Y8 := Lib.hid (Y7.out.bl hb8)
      have h8 : Hid (w8.heap[g8]? = some (.cells (bs (List.replicate 16 0)).toArray 46 (0, 0))) := Y8.out.get (by simp)
      have L8 : Hid (w.heap.size ≤ g8) := Y8.out.ge (g := g8) (o := .cells (bs (List.replicate 16 0)).toArray 46 (0, 0)) (by simp)
      clear hb8 Y7 S7 r7 O7
      go_wp2_with (
        (with_reducible refine lst_store_abs 46 (.tmp 8) (.tmp 43) rfl g8 46 (bs (List.replicate 16 0)).toArray (bs T).toArray rfl rfl h8.out (by simpa using iT3.out) (by simp [bs_length, HTl.out]) (by simp; exact bs_oneCell _) ?_ ?_)
        (focus rfl)
        intro w9 Hh9 hg9')
      refine bodyPost_ret (v := .agg (bs T).toArray) ?_ rfl ⟨rfl, ?_⟩
      · exact results_cell Try.results27 rfl (run_loadVar_mid w9 g8 0 46 (bs T) _ (range_block Hh9.out) uT.out rfl iT3.out)
      · exact Y8.out.bel.grown hg9' Y8.out.bel.size (fun j hj => by injection hj with hj; have := L8.out; omega)
end Go.Proofs.Ytklclbppdoahjaa
/- Aead: New, Seal. -/
namespace Go.Proofs.Ytklclbppdoahjaa
set_option maxRecDepth 100000
open Go.RowKit
attribute [local go_sem] yld yldUpon_value

theorem ANew_any (w : World) : Calls Try.prog 11 #[] w fun e w' => ∃ g, e = .returned (.pointer (some ⟨g, 0, none⟩)) ∧ Below w.heap.size w w' := by
  go_enter Try.func11, Try.ntmps11
  go_wp2_with fail
  go_ret
  exact ⟨w.heap.size, rfl, Below.al _ _⟩
def streamL (ky nc b : List UInt8) : List UInt8 := xorP ky 1 nc b
theorem streamL_len (ky nc b : List UInt8) : (streamL ky nc b).length = b.length := xorP_len _ _ _ _
def sealL (ky nc head plain : List UInt8) : List UInt8 := streamL ky nc plain ++ aeadTag ky nc head (streamL ky nc plain)
theorem sealL_len (ky nc head plain : List UInt8) : (sealL ky nc head plain).length = plain.length + 16 := by unfold sealL; rw [List.length_append, streamL_len, aeadTag_len]
set_option maxHeartbeats 8000000 in
theorem Seal_any {w : World} (rc : Value) {ky nc : List UInt8} (hk : ky.length = 32) (hn : nc.length = 12) {F G : Nat → Prop} {A B : Option Addr} {n c m d : Nat} {head pl : List UInt8} (h1 : Sl w F A n c head) (hF : ∀ k, F k → k < w.heap.size) (h2 : Sl w G B m d pl) (hG : ∀ k, G k → k < w.heap.size) (hb1 : n ≤ 10000000) (hb2 : m ≤ 1000000) :
    Calls Try.prog 12 #[rc, .agg (bs ky).toArray, .agg (bs nc).toArray, .slice A n c, .slice B m d] w fun e w' => ∃ A' n' c', e = .returned (.slice A' n' c') ∧ w'.ownsRow w.heap.size 5 1 (.slice A' n' c') n' (bs (sealL ky nc head pl)) ∧ Below w.heap.size w w' := by
  have HK := Lib.hid hk; have HN := Lib.hid hn; have H1 := Lib.hid h1; have H2 := Lib.hid h2; have HF := Lib.hid hF; have HG := Lib.hid hG
  have L1 := Lib.hid h1.len; have L2 := Lib.hid h2.len
  clear hk hn h1 h2 hF hG
  obtain ⟨iT, hiT, zT, _, _⟩ := info_parts Try.infoTag
  have HiT := Lib.hid hiT; have HzT := Lib.hid zT
  clear hiT zT
  have uK := Lib.hid Try.underlying23
  have uN := Lib.hid Try.underlying25
  have i1 : Hid ((Try.prog.info? 23).map (·.size) = some (bs ky).length) := by rw [bs_length, HK.out]; exact Try.sizeKey
  have i2 : Hid ((Try.prog.info? 25).map (·.size) = some (bs nc).length) := by rw [bs_length, HN.out]; exact Try.sizeN
  obtain ⟨w0, hw0⟩ : ∃ w0, w0 = (w.alloc (.cells (bs ky).toArray 23)).alloc (.cells (bs nc).toArray 25) := ⟨_, rfl⟩
  have X0 : Hid (Has w w0 [(w.heap.size + 1, .cells (bs nc).toArray 25 (0, 0)), (w.heap.size, .cells (bs ky).toArray 23 (0, 0))]) := by
    have h1 : Has w (w.alloc (.cells (bs ky).toArray 23)) [(w.heap.size, .cells (bs ky).toArray 23 (0, 0))] := (Has.start (Below.refl _ w)).new (Below.al _ _) (Nat.le_refl _) (heap_alloc_new w _)
    have h2 := heap_alloc_new (w.alloc (.cells (bs ky).toArray 23)) (.cells (bs nc).toArray 25)
    rw [World.size_alloc] at h2
    rw [hw0]
    exact h1.new (Below.al _ _) (by rw [World.size_alloc]; exact Nat.le_refl _) h2
  subst hw0
  have r1 : Hid (((w.alloc (.cells (bs ky).toArray 23)).alloc (.cells (bs nc).toArray 25)).rangeAt w.heap.size 0 (bs ky)) := range_block (X0.out.get (by simp) : _ = some (.cells (bs ky).toArray 23 (0, 0)))
  have r2 : Hid (((w.alloc (.cells (bs ky).toArray 23)).alloc (.cells (bs nc).toArray 25)).rangeAt (w.heap.size + 1) 0 (bs nc)) := range_block (X0.out.get (by simp) : _ = some (.cells (bs nc).toArray 25 (0, 0)))
  go_enter Try.func12, Try.ntmps12
  go_wp2_with (first
    | ((with_reducible refine lst_load_mid 23 (.tmp 6) rfl w.heap.size 0 rfl (bs ky) _ r1.out uK.out rfl i1.out ?_ ?_)
       (focus rfl))
    | ((with_reducible refine lst_load_mid 25 (.tmp 7) rfl (w.heap.size + 1) 0 rfl (bs nc) _ r2.out uN.out rfl i2.out ?_ ?_)
       (focus rfl)))
  clear r1 r2
  generalize (w.alloc (.cells (bs ky).toArray 23)).alloc (.cells (bs nc).toArray 25) = w0 at X0 ⊢
  have S0 := Lib.hid (H2.out.belF X0.out.bel HG.out)
  refine (Xor_any w0 ky nc 1 HK.out HN.out S0.out (fun k hk => Nat.lt_of_lt_of_le (HG.out k hk) X0.out.bel.size) hb2).mono ?_
  rintro e w1 ⟨A1, c1, rfl, ho1, hb1'⟩
  obtain ⟨C, hC⟩ : ∃ C, C = streamL ky nc pl := ⟨_, rfl⟩
  have HC := Lib.hid hC
  rw [show xorP ky 1 nc pl = C from hC.symm] at ho1
  have HCl : Hid (C.length = m) := by rw [hC]; show _ = _; rw [streamL_len, L2.out]
  have O1 := Lib.hid ho1
  have X1 := Lib.hid (X0.out.bl hb1')
  have Z0 : Hid (w.heap.size ≤ w0.heap.size) := X0.out.bel.size
  have Z01 : Hid (w0.heap.size ≤ w1.heap.size) := hb1'.size
  have r1 : Hid (w1.rangeAt w.heap.size 0 (bs ky)) := range_block (X1.out.get (by simp) : w1.heap[w.heap.size]? = some (.cells (bs ky).toArray 23 (0, 0)))
  have r2 : Hid (w1.rangeAt (w.heap.size + 1) 0 (bs nc)) := range_block (X1.out.get (by simp) : w1.heap[w.heap.size + 1]? = some (.cells (bs nc).toArray 25 (0, 0)))
  clear ho1 hb1' hC X0 S0
  go_wp2_with (first
    | ((with_reducible refine lst_load_mid 23 (.tmp 6) rfl w.heap.size 0 rfl (bs ky) _ r1.out uK.out rfl i1.out ?_ ?_)
       (focus rfl))
    | ((with_reducible refine lst_load_mid 25 (.tmp 7) rfl (w.heap.size + 1) 0 rfl (bs nc) _ r2.out uN.out rfl i2.out ?_ ?_)
       (focus rfl)))
  clear r1 r2
  have Sc := Lib.hid (Sl.of_own O1.out)
  refine (tag_any HK.out HN.out (H1.out.belF X1.out.bel HF.out) (fun k hk => Nat.lt_of_lt_of_le (HF.out k hk) X1.out.bel.size) Sc.out (fun k hk => hk.2.1) hb1 (by omega)).mono ?_
  rintro e w2 ⟨rfl, hb2'⟩
  obtain ⟨T, hT⟩ : ∃ T, T = aeadTag ky nc head C := ⟨_, rfl⟩
  have HT := Lib.hid hT
  have HTl : Hid (T.length = 16) := by rw [hT]; exact aeadTag_len _ _ _ _
  have i3 : Hid ((Try.prog.info? 46).map (·.size) = some (bs T).length) := by rw [bs_length, HTl.out]; exact Try.sizeTag
  rw [← hT]
  have O2 := Lib.hid (own_fr O1.out (Fr.of_below (M := NoB) hb2') (fun _ _ e => e))
  have X2 := Lib.hid (X1.out.bl hb2')
  have Z1 : Hid (w0.heap.size ≤ w2.heap.size ∧ ∀ k, (Value.slice A1 m c1).ownBlock = some k → k < w2.heap.size) := ⟨Nat.le_trans Z01.out hb2'.size, fun k hk => Nat.lt_of_lt_of_le (O1.out.lt k hk).2 hb2'.size⟩
  clear hb2' hT O1 X1 Sc
  go_wp2_with (first
    | ((with_reducible refine lst_alloc_d 12 rfl 46 rfl iT _ HiT.out HzT.out ?_ ?_)
       (focus rfl)
       intro g3 w3 Hg3 Hh3 hb3
       have O3 := Lib.hid (own_fr O2.out (Fr.of_below (M := NoB) hb3) (fun _ _ e => e))
       have X3 := Lib.hid (Below.tr X2.out.bel hb3)
       have h33 : Hid (w3.heap[g3]? = some (.cells (bs (List.replicate 16 0)).toArray 46 (0, 0))) := Hh3
       have E3 : Hid (g3 = w2.heap.size) := Hg3.out.1
       clear Hg3 Hh3 hb3 O2)
    | ((with_reducible refine lst_store_abs 46 (.tmp 12) (.tmp 21) rfl g3 46 (bs (List.replicate 16 0)).toArray (bs T).toArray rfl rfl h33.out (by simpa using i3.out) (by simp [bs_length, HTl.out]) (by simp; exact bs_oneCell _) ?_ ?_)
       (focus rfl)
       intro w4 Hh4 hg4
       have O4 : Hid (w4.ownsRow w0.heap.size 5 1 (.slice A1 m c1) m (bs C)) := own_fr O3.out (Fr.of_grown hg4) (fun k hk e => by have h := Z1.out.2 k hk; have := E3.out; simp at e; omega)
       have B4 : Hid (Below w.heap.size w w4) := X3.out.grown hg4 X3.out.size (fun j hj => by injection hj with hj; have := E3.out; have := Z1.out.1; have := Z0.out; omega)
       have S4 : Hid (Sl w4 (fun k => k = g3) (some ⟨g3, 0, none⟩) 16 16 T) := Sl.of_block Hh4.out rfl 16 HTl.out
       have Z4 : Hid (w0.heap.size ≤ w4.heap.size) := by have h := (Array.getElem?_eq_some_iff.1 Hh4.out).1; have := E3.out; have := Z1.out.1; show _ ≤ _; omega
       clear Hh4 hg4 O3 X3 h33)
    | (at_builtin
       refine append_bytes rfl (.tmp 22) (.tmp 23) rfl w0.heap.size A1 m c1 C rfl O4.out (some ⟨g3, 0, none⟩) 16 16 T rfl HTl.out S4.out.rd (by omega) Z4.out ?_
       intro A5 c5 w5 hown5 hg5 hor5
       have O5 := Lib.hid hown5
       have B5 : Hid (Below w.heap.size w w5) := B4.out.grown hg5 B4.out.size (fun j hj => by have h := (O4.out.lt j hj).1; have := Z0.out; omega)
       clear hown5 hg5 hor5))
  go_ret
  refine ⟨A5, _, c5, rfl, own_mono ?_ Z0.out, B5.out⟩
  have h := O5.out
  unfold sealL
  rw [← HC.out, ← HT.out]; exact h
end Go.Proofs.Ytklclbppdoahjaa
/- The reference's Seal. -/
namespace Go.Proofs.Ytklclbppdoahjaa
set_option maxRecDepth 100000
open Go.RowKit
attribute [local go_sem] yld yldUpon_value

set_option maxRecDepth 100000 in
set_option maxHeartbeats 8000000 in
theorem rSeal_any {w : World} (rc : Value) {ky nc : List UInt8} (hk : ky.length = 32) (hn : nc.length = 12) {F G : Nat → Prop} {A B : Option Addr} {n c m d : Nat} {head pl : List UInt8} (h1 : Sl w F A n c head) (hF : ∀ k, F k → k < w.heap.size) (h2 : Sl w G B m d pl) (hG : ∀ k, G k → k < w.heap.size) (hb1 : n ≤ 40000) (hb2 : m ≤ 40000) :
    Calls Try.prog 13 #[rc, .agg (bs ky).toArray, .agg (bs nc).toArray, .slice A n c, .slice B m d] w fun e w' => ∃ A' n' c', e = .returned (.slice A' n' c') ∧ w'.ownsRow w.heap.size 5 1 (.slice A' n' c') n' (bs (sealL ky nc head pl)) ∧ Below w.heap.size w w' := by
  have HK := Lib.hid hk; have HN := Lib.hid hn; have H1 := Lib.hid h1; have H2 := Lib.hid h2; have HF := Lib.hid hF; have HG := Lib.hid hG
  have L1 := Lib.hid h1.len; have L2 := Lib.hid h2.len
  clear hk hn h1 h2 hF hG
  obtain ⟨iT, hiT, zT, _, _⟩ := info_parts Try.infoTag
  have HiT := Lib.hid hiT; have HzT := Lib.hid zT
  clear hiT zT
  have uK := Lib.hid Try.underlying23
  have uN := Lib.hid Try.underlying25
  have i1 : Hid ((Try.prog.info? 23).map (·.size) = some (bs ky).length) := by rw [bs_length, HK.out]; exact Try.sizeKey
  have i2 : Hid ((Try.prog.info? 25).map (·.size) = some (bs nc).length) := by rw [bs_length, HN.out]; exact Try.sizeN
  obtain ⟨w0, hw0⟩ : ∃ w0, w0 = (w.alloc (.cells (bs ky).toArray 23)).alloc (.cells (bs nc).toArray 25) := ⟨_, rfl⟩
  have X0 : Hid (Has w w0 [(w.heap.size + 1, .cells (bs nc).toArray 25 (0, 0)), (w.heap.size, .cells (bs ky).toArray 23 (0, 0))]) := by
    have h1 : Has w (w.alloc (.cells (bs ky).toArray 23)) [(w.heap.size, .cells (bs ky).toArray 23 (0, 0))] := (Has.start (Below.refl _ w)).new (Below.al _ _) (Nat.le_refl _) (heap_alloc_new w _)
    have h2 := heap_alloc_new (w.alloc (.cells (bs ky).toArray 23)) (.cells (bs nc).toArray 25)
    rw [World.size_alloc] at h2
    rw [hw0]
    exact h1.new (Below.al _ _) (by rw [World.size_alloc]; exact Nat.le_refl _) h2
  subst hw0
  have r1 : Hid (((w.alloc (.cells (bs ky).toArray 23)).alloc (.cells (bs nc).toArray 25)).rangeAt w.heap.size 0 (bs ky)) := range_block (X0.out.get (by simp) : _ = some (.cells (bs ky).toArray 23 (0, 0)))
  have r2 : Hid (((w.alloc (.cells (bs ky).toArray 23)).alloc (.cells (bs nc).toArray 25)).rangeAt (w.heap.size + 1) 0 (bs nc)) := range_block (X0.out.get (by simp) : _ = some (.cells (bs nc).toArray 25 (0, 0)))
  go_enter Try.func13, Try.ntmps13
  go_wp2_with (first
    | ((with_reducible refine lst_load_mid 23 (.tmp 6) rfl w.heap.size 0 rfl (bs ky) _ r1.out uK.out rfl i1.out ?_ ?_)
       (focus rfl))
    | ((with_reducible refine lst_load_mid 25 (.tmp 7) rfl (w.heap.size + 1) 0 rfl (bs nc) _ r2.out uN.out rfl i2.out ?_ ?_)
       (focus rfl)))
  clear r1 r2
  generalize (w.alloc (.cells (bs ky).toArray 23)).alloc (.cells (bs nc).toArray 25) = w0 at X0 ⊢
  have S0 := Lib.hid (H2.out.belF X0.out.bel HG.out)
  refine (RefXor_any w0 ky nc 1 HK.out HN.out S0.out (fun k hk => Nat.lt_of_lt_of_le (HG.out k hk) X0.out.bel.size) (by omega)).mono ?_
  rintro e w1 ⟨A1, c1, rfl, ho1, hb1'⟩
  obtain ⟨C, hC⟩ : ∃ C, C = streamL ky nc pl := ⟨_, rfl⟩
  have HC := Lib.hid hC
  rw [show xorP ky 1 nc pl = C from hC.symm] at ho1
  have HCl : Hid (C.length = m) := by rw [hC]; show _ = _; rw [streamL_len, L2.out]
  have O1 := Lib.hid ho1
  have X1 := Lib.hid (X0.out.bl hb1')
  have Z0 : Hid (w.heap.size ≤ w0.heap.size) := X0.out.bel.size
  have Z01 : Hid (w0.heap.size ≤ w1.heap.size) := hb1'.size
  have r1 : Hid (w1.rangeAt w.heap.size 0 (bs ky)) := range_block (X1.out.get (by simp) : w1.heap[w.heap.size]? = some (.cells (bs ky).toArray 23 (0, 0)))
  have r2 : Hid (w1.rangeAt (w.heap.size + 1) 0 (bs nc)) := range_block (X1.out.get (by simp) : w1.heap[w.heap.size + 1]? = some (.cells (bs nc).toArray 25 (0, 0)))
  clear ho1 hb1' hC X0 S0
  go_wp2_with (first
    | ((with_reducible refine lst_load_mid 23 (.tmp 6) rfl w.heap.size 0 rfl (bs ky) _ r1.out uK.out rfl i1.out ?_ ?_)
       (focus rfl))
    | ((with_reducible refine lst_load_mid 25 (.tmp 7) rfl (w.heap.size + 1) 0 rfl (bs nc) _ r2.out uN.out rfl i2.out ?_ ?_)
       (focus rfl)))
  clear r1 r2
  have Sc := Lib.hid (Sl.of_own O1.out)
  refine (rTag_any HK.out HN.out (H1.out.belF X1.out.bel HF.out) (fun k hk => Nat.lt_of_lt_of_le (HF.out k hk) X1.out.bel.size) Sc.out (fun k hk => hk.2.1) hb1 hb2).mono ?_
  rintro e w2 ⟨rfl, hb2'⟩
  obtain ⟨T, hT⟩ : ∃ T, T = aeadTag ky nc head C := ⟨_, rfl⟩
  have HT := Lib.hid hT
  have HTl : Hid (T.length = 16) := by rw [hT]; exact aeadTag_len _ _ _ _
  have i3 : Hid ((Try.prog.info? 46).map (·.size) = some (bs T).length) := by rw [bs_length, HTl.out]; exact Try.sizeTag
  rw [← hT]
  have O2 := Lib.hid (own_fr O1.out (Fr.of_below (M := NoB) hb2') (fun _ _ e => e))
  have X2 := Lib.hid (X1.out.bl hb2')
  have Z1 : Hid (w0.heap.size ≤ w2.heap.size ∧ ∀ k, (Value.slice A1 m c1).ownBlock = some k → k < w2.heap.size) := ⟨Nat.le_trans Z01.out hb2'.size, fun k hk => Nat.lt_of_lt_of_le (O1.out.lt k hk).2 hb2'.size⟩
  clear hb2' hT O1 X1 Sc
  go_wp2_with (first
    | ((with_reducible refine lst_alloc_d 12 rfl 46 rfl iT _ HiT.out HzT.out ?_ ?_)
       (focus rfl)
       intro g3 w3 Hg3 Hh3 hb3
       have O3 := Lib.hid (own_fr O2.out (Fr.of_below (M := NoB) hb3) (fun _ _ e => e))
       have X3 := Lib.hid (Below.tr X2.out.bel hb3)
       have h33 : Hid (w3.heap[g3]? = some (.cells (bs (List.replicate 16 0)).toArray 46 (0, 0))) := Hh3
       have E3 : Hid (g3 = w2.heap.size) := Hg3.out.1
       clear Hg3 Hh3 hb3 O2)
    | ((with_reducible refine lst_store_abs 46 (.tmp 12) (.tmp 22) rfl g3 46 (bs (List.replicate 16 0)).toArray (bs T).toArray rfl rfl h33.out (by simpa using i3.out) (by simp [bs_length, HTl.out]) (by simp; exact bs_oneCell _) ?_ ?_)
       (focus rfl)
       intro w4 Hh4 hg4
       have O4 : Hid (w4.ownsRow w0.heap.size 5 1 (.slice A1 m c1) m (bs C)) := own_fr O3.out (Fr.of_grown hg4) (fun k hk e => by have h := Z1.out.2 k hk; have := E3.out; simp at e; omega)
       have B4 : Hid (Below w.heap.size w w4) := X3.out.grown hg4 X3.out.size (fun j hj => by injection hj with hj; have := E3.out; have := Z1.out.1; have := Z0.out; omega)
       have S4 : Hid (w4.heap[g3]? = some (.cells (bs T).toArray 46 (0, 0))) := Hh4
       have N4 : Hid (∀ j, (Value.slice A1 m c1).ownBlock = some j → j ≠ g3) := Lib.hid (fun j hj => by have h := Z1.out.2 j hj; have := E3.out; omega)
       have Z4 : Hid (w0.heap.size ≤ w4.heap.size) := by have h := (Array.getElem?_eq_some_iff.1 Hh4.out).1; have := E3.out; have := Z1.out.1; show _ ≤ _; omega
       clear Hh4 hg4 O3 X3 h33))
  clear Z1 E3
  go_loopw [11, 13] (fun out iv wr => ∃ (k M : Nat) (A' : Option Addr) (c' : Nat), k ≤ 16 ∧ M = m + k ∧ iv = .int .i64 (k : Nat) ∧ out = .slice A' M c' ∧ Hid (wr.ownsRow w0.heap.size 5 1 (.slice A' M c') M (bs (C ++ T.take k)) ∧ Below w.heap.size w wr ∧ wr.heap[g3]? = some (.cells (bs T).toArray 46 (0, 0)) ∧ (∀ j, (Value.slice A' M c').ownBlock = some j → j ≠ g3) ∧ w0.heap.size ≤ wr.heap.size)) (fun _ iv _ => 16 - (intOf iv).toNat)
  case atStart => exact ⟨0, m, A1, c1, Nat.zero_le _, rfl, rfl, rfl, Lib.hid ⟨by rw [List.take_zero, List.append_nil]; exact O4.out, B4.out, S4.out, N4.out, Z4.out⟩⟩
  case round =>
    clear O4 B4 S4 N4 Z4
    obtain ⟨k, M, A2, c2, hk, hM, rfl, rfl, I⟩ := hrel
    have hk0 : (0 : Int) ≤ (k : Int) := by omega
    by_cases hlt : k < 16
    · have hkI : (k : Int) < 16 := by omega
      obtain ⟨x, hx⟩ : ∃ x, x = T[k]'(by rw [HTl.out]; exact hlt) := ⟨_, rfl⟩
      have hcell : wr.cell? ⟨g3, k, none⟩ = some (.int .u8 (x.toNat : Int)) := by
        rw [cell_of_row wr g3 k _ _ _ I.out.2.2.1]
        have := bs_get T k (by rw [HTl.out]; exact hlt)
        rw [List.getElem?_toArray, hx]; exact this
      have htk : Hid (T.take (k + 1) = T.take k ++ [x]) := by
        show _ = _
        rw [List.take_succ_eq_append_getElem (by rw [HTl.out]; exact hlt), hx]
      have Oa := Lib.hid (I.out.1.alloc (.cells #[.int .u8 (x.toNat : Int)] 5))
      have Za : Hid (w0.heap.size ≤ (wr.alloc (.cells #[.int .u8 (x.toNat : Int)] 5)).heap.size) := Lib.hid (by have := I.out.2.2.2.2; rw [World.size_alloc]; omega)
      have Ba := Lib.hid (Below.trans I.out.2.1 ((Below.al wr (.cells #[.int .u8 (x.toNat : Int)] 5)).mono I.out.2.1.size))
      have Ga : Hid ((wr.alloc (.cells #[.int .u8 (x.toNat : Int)] 5)).heap[g3]? = some (.cells (bs T).toArray 46 (0, 0))) := Lib.hid (heap_bel I.out.2.2.1 (Below.al _ _))
      have La : Hid (g3 < (wr.alloc (.cells #[.int .u8 (x.toNat : Int)] 5)).heap.size) := Lib.hid ((Array.getElem?_eq_some_iff.1 Ga.out).1)
      have Na := Lib.hid I.out.2.2.2.1
      have R1 : Hid (Rd (wr.alloc (.cells #[.int .u8 (x.toNat : Int)] 5)) (some ⟨wr.heap.size, 0, none⟩) (bs [x])) := Lib.hid (Rd.one wr x)
      have hi8 : Hid (M + 1 ≤ 140737488355328) := Lib.hid (by omega)
      have HM : Hid (M + 1 = m + (k + 1)) := Lib.hid (by omega)
      clear hx hM I
      go_wp2_with (
        at_builtin
        refine append_bytes rfl (.tmp 27) (.tmp 31) rfl w0.heap.size A2 M c2 _ rfl Oa.out (some ⟨wr.heap.size, 0, none⟩) 1 1 [x] rfl rfl R1.out hi8.out Za.out ?_
        intro A3 c3 w5 hown5 hg5 hor5
        have O5 := Lib.hid hown5
        have B5 := Lib.hid (Ba.out.grown hg5 Ba.out.size (fun j hj => Nat.le_trans Z0.out (Oa.out.lt j hj).1))
        have G5 : Hid (w5.heap[g3]? = some (.cells (bs T).toArray 46 (0, 0))) := Lib.hid (((Fr.of_grown hg5).block g3 La.out (fun e => Na.out g3 e.symm rfl)).trans Ga.out)
        have N5 : Hid (∀ j, (Value.slice A3 (M + 1) c3).ownBlock = some j → j ≠ g3) := Lib.hid (fun j hj => by
          rcases hor5 with h | h
          · exact Na.out j (h.symm.trans hj)
          · rw [h] at hj; injection hj with hj; have := La.out; omega)
        have Z5 : Hid (w0.heap.size ≤ w5.heap.size) := Lib.hid (Nat.le_trans Za.out (Fr.of_grown hg5).size)
        clear hown5 hg5 hor5)
      go_roundw
      case rel => exact ⟨k + 1, M + 1, A3, c3, by omega, HM.out, by go_num, rfl, Lib.hid ⟨by rw [htk.out, ← List.append_assoc]; exact O5.out, B5.out, G5.out, N5.out, Z5.out⟩⟩
      case measure => simp [intOf]; omega
    · have hkI : ¬ (k : Int) < 16 := by omega
      have hk16 : k = 16 := by omega
      subst hk16
      subst hM
      go_wp2_with fail
      go_ret
      refine ⟨A2, m + 16, c2, rfl, own_mono ?_ Z0.out, I.out.2.1⟩
      have h := I.out.1
      rw [List.take_of_length_le (by rw [HTl.out]; exact Nat.le_refl _)] at h
      unfold sealL
      rw [← HC.out, ← HT.out]; exact h
end Go.Proofs.Ytklclbppdoahjaa
/- Aead: Open. -/
namespace Go.Proofs.Ytklclbppdoahjaa
set_option maxRecDepth 100000
open Go.RowKit
attribute [local go_sem] yld yldUpon_value

theorem or_byte (a b : UInt8) : bits .or .u8 (a.toNat : Int) (b.toNat : Int) = ((a ||| b).toNat : Int) := by
  show IntKind.u8.wrap ((BitVec.ofInt _ _ ||| BitVec.ofInt _ _).toNat : Int) = _
  have e : ∀ u : UInt8, BitVec.ofInt (IntKind.u8.bits) (u.toNat : Int) = u.toBitVec := fun u => by
    apply BitVec.eq_of_toNat_eq
    have := u.toNat_lt
    show (BitVec.ofInt 8 _).toNat = _
    rw [BitVec.toNat_ofInt]
    simp only [Nat.reducePow]
    show _ = u.toNat
    omega
  rw [e, e]
  have h := (a ||| b).toNat_lt
  show IntKind.u8.wrap ((a ||| b).toNat : Int) = _
  generalize (a ||| b).toNat = x at h
  simp [IntKind.wrap, IntKind.signed, IntKind.bits]
  omega
/-- what is odd of the first k -/
def oddL (s t : List UInt8) : Nat → UInt8
  | 0 => 0
  | k + 1 => oddL s t k ||| (s.getD k 0 ^^^ t.getD k 0)
theorem or_zero8 (a b : UInt8) : a ||| b = 0 ↔ a = 0 ∧ b = 0 := by
  constructor
  · intro h
    have h2 : a.toNat ||| b.toNat = 0 := by rw [← UInt8.toNat_or, h]; rfl
    have h3 := Nat.or_eq_zero_iff.1 h2
    exact ⟨UInt8.toNat_inj.1 h3.1, UInt8.toNat_inj.1 h3.2⟩
  · rintro ⟨rfl, rfl⟩; rfl
theorem oddL_zero (s t : List UInt8) (k : Nat) : oddL s t k = 0 ↔ ∀ i, i < k → s.getD i 0 = t.getD i 0 := by
  induction k with
  | zero => simp [oddL]
  | succ k ih =>
    rw [oddL, or_zero8, ih, UInt8.xor_eq_zero_iff]
    constructor
    · rintro ⟨h1, h2⟩ i hi
      by_cases h : i = k
      · subst h; exact h2
      · exact h1 i (by omega)
    · intro h
      exact ⟨fun i hi => h i (by omega), h k (by omega)⟩
theorem oddL_eq {s t : List UInt8} {k : Nat} (hs : s.length = k) (ht : t.length = k) : oddL s t k = 0 ↔ s = t := by
  rw [oddL_zero]
  constructor
  · intro h
    apply List.ext_getElem (by omega)
    intro i h1 h2
    have := h i (by omega)
    rwa [getD_eq h1, getD_eq h2] at this
  · rintro rfl i _; rfl
/-- what is opened -/
def openL (ky nc head s : List UInt8) : Option (List UInt8) :=
  if s.length < 16 then none else if s.drop (s.length - 16) = aeadTag ky nc head (s.take (s.length - 16)) then some (streamL ky nc (s.take (s.length - 16))) else none
theorem openL_len {ky nc head s p : List UInt8} (h : openL ky nc head s = some p) : p.length + 16 = s.length := by
  unfold openL at h
  split at h
  · cases h
  · split at h
    · injection h with h; subst h; rw [streamL_len, List.length_take]; omega
    · cases h

set_option maxHeartbeats 8000000 in
theorem Open_any {w : World} (rc : Value) {ky nc : List UInt8} (hk : ky.length = 32) (hn : nc.length = 12) {F G : Nat → Prop} {A B : Option Addr} {n c m d : Nat} {head s : List UInt8} (h1 : Sl w F A n c head) (hF : ∀ k, F k → k < w.heap.size) (h2 : Sl w G B m d s) (hG : ∀ k, G k → k < w.heap.size) (hb1 : n ≤ 10000000) (hb2 : m ≤ 1000000) :
    Calls Try.prog 18 #[rc, .agg (bs ky).toArray, .agg (bs nc).toArray, .slice A n c, .slice B m d] w fun e w' => (∃ A' n' c', e = .returned (.tuple #[.slice A' n' c', .bool (openL ky nc head s).isSome]) ∧ w'.ownsRow w.heap.size 5 1 (.slice A' n' c') n' (bs ((openL ky nc head s).getD []))) ∧ Below w.heap.size w w' := by
  have HK := Lib.hid hk; have HN := Lib.hid hn; have H1 := Lib.hid h1; have H2 := Lib.hid h2; have HF := Lib.hid hF; have HG := Lib.hid hG
  have L1 := Lib.hid h1.len; have L2 := Lib.hid h2.len
  by_cases hlt : m < 16
  · have ho : openL ky nc head s = none := by unfold openL; rw [if_pos (by have := L2.out; omega)]
    rw [ho]
    have hltI : (m : Int) - 16 < 0 := by omega
    have hltI2 : -100 ≤ (m : Int) - 16 := by omega
    clear hk hn h1 h2 hF hG ho
    go_enter Try.func18, Try.ntmps18
    go_wp2_with fail
    go_ret2
    exact ⟨⟨none, 0, 0, rfl, World.ownsRow_nil _ _ _ _⟩, Below.tr (Below.al _ _) (Below.al _ _)⟩
  · obtain ⟨q, hq⟩ : ∃ q, m = q + 16 := ⟨m - 16, by omega⟩
    subst hq
    have hsq : s.length - 16 = q := by have := L2.out; omega
    obtain ⟨C, hC⟩ : ∃ C, C = s.take q := ⟨_, rfl⟩
    obtain ⟨S, hS⟩ : ∃ S, S = s.drop q := ⟨_, rfl⟩
    obtain ⟨T, hT⟩ : ∃ T, T = aeadTag ky nc head C := ⟨_, rfl⟩
    have ho : Hid (openL ky nc head s = if S = T then some (streamL ky nc C) else none) := by
      show _ = _
      unfold openL; rw [if_neg (by have := L2.out; omega), hsq, ← hC, ← hS, ← hT]
    have HT := Lib.hid hT
    have HTl : Hid (T.length = 16) := by rw [hT]; exact aeadTag_len _ _ _ _
    have HSl : Hid (S.length = 16) := by rw [hS]; show _ = _; rw [List.length_drop]; have := L2.out; omega
    have HCl : Hid (C.length = q) := by rw [hC]; show _ = _; rw [List.length_take]; have := L2.out; omega
    obtain ⟨ad, rfl⟩ : ∃ ad, B = some ad := by
      cases B with
      | some ad => exact ⟨ad, rfl⟩
      | none => have := (h2.zero rfl).1; omega
    have hcapN := h2.cap
    have Sc : Hid (Sl w G (some ad) q d C) := by rw [hC]; exact Sl.take_ (l' := s.drop q) (by rw [List.take_append_drop]; exact h2) (by rw [List.length_take]; have := L2.out; omega)
    have Ss : Hid (Sl w G (some (ad.add q)) 16 (d - q) S) := by
      have h := h2.drop_ (m := q) (A' := some (ad.add q)) (by omega) (.inr rfl)
      rw [show q + 16 - q = 16 by omega] at h; rw [hS]; exact h
    have hcapI : (q : Int) < d := by omega
    have hqd : q ≤ d := by omega
    have hqI : ((q + 16 : Nat) : Int) - 16 = (q : Int) := by omega
    have hqI2 : ((q : Int) + 16) - 16 = (q : Int) := by omega
    have hqI3 : (q : Int) ≤ (q : Int) + 16 := by omega
    have hq0 : (0 : Int) ≤ (q : Int) := by omega
    clear hk hn h1 h2 hF hG hC hS hT hsq H2
    obtain ⟨iT, hiT, zT, _, _⟩ := info_parts Try.infoTag
    have HiT := Lib.hid hiT; have HzT := Lib.hid zT
    clear hiT zT
    have uK := Lib.hid Try.underlying23
    have uN := Lib.hid Try.underlying25
    have i1 : Hid ((Try.prog.info? 23).map (·.size) = some (bs ky).length) := by rw [bs_length, HK.out]; exact Try.sizeKey
    have i2 : Hid ((Try.prog.info? 25).map (·.size) = some (bs nc).length) := by rw [bs_length, HN.out]; exact Try.sizeN
    have i3 : Hid ((Try.prog.info? 46).map (·.size) = some (bs T).length) := by rw [bs_length, HTl.out]; exact Try.sizeTag
    obtain ⟨w0, hw0⟩ : ∃ w0, w0 = (w.alloc (.cells (bs ky).toArray 23)).alloc (.cells (bs nc).toArray 25) := ⟨_, rfl⟩
    have X0 : Hid (Has w w0 [(w.heap.size + 1, .cells (bs nc).toArray 25 (0, 0)), (w.heap.size, .cells (bs ky).toArray 23 (0, 0))]) := by
      have h1 : Has w (w.alloc (.cells (bs ky).toArray 23)) [(w.heap.size, .cells (bs ky).toArray 23 (0, 0))] := (Has.start (Below.refl _ w)).new (Below.al _ _) (Nat.le_refl _) (heap_alloc_new w _)
      have h2 := heap_alloc_new (w.alloc (.cells (bs ky).toArray 23)) (.cells (bs nc).toArray 25)
      rw [World.size_alloc] at h2
      rw [hw0]
      exact h1.new (Below.al _ _) (by rw [World.size_alloc]; exact Nat.le_refl _) h2
    subst hw0
    go_enter Try.func18, Try.ntmps18
    go_wp2_with fail
    generalize (w.alloc (.cells (bs ky).toArray 23)).alloc (.cells (bs nc).toArray 25) = w0 at X0 ⊢
    have r1 : Hid (w0.rangeAt w.heap.size 0 (bs ky)) := range_block (X0.out.get (by simp) : w0.heap[w.heap.size]? = some (.cells (bs ky).toArray 23 (0, 0)))
    have r2 : Hid (w0.rangeAt (w.heap.size + 1) 0 (bs nc)) := range_block (X0.out.get (by simp) : w0.heap[w.heap.size + 1]? = some (.cells (bs nc).toArray 25 (0, 0)))
    have z1 : Hid (w.heap.size < w0.heap.size ∧ w.heap.size + 1 < w0.heap.size) := ⟨(X0.out.lt (g := w.heap.size) (o := .cells (bs ky).toArray 23 (0, 0)) (by simp)), (X0.out.lt (g := w.heap.size + 1) (o := .cells (bs nc).toArray 25 (0, 0)) (by simp))⟩
    have Hh1 := Lib.hid (H1.out.belF X0.out.bel HF.out)
    have Sc0 := Lib.hid (Sc.out.belF X0.out.bel HG.out)
    go_cut [13] from 13 to 28 (fun s13 wx => ∃ g, s13 = .pointer (some ⟨g, 0, none⟩) ∧ Hid (Below w0.heap.size w0 wx ∧ w0.heap.size ≤ g ∧ wx.heap[g]? = some (.cells (bs T).toArray 46 (0, 0))))
    case first =>
      refine wp_calm ?_
      refine wp_region_os (fun _ w' => Below (w0).drew.heap.size (w0).drew w') [0, 1] (.take 0 (.take 1 (.move 2 (.move 3 (.move 4 (.move 5 (.two 6 [] (.run 7 [0, 1] (.run 8 [] .done)) 7 [0, 1] (.run 6 [] (.run 8 [] .done))))))))) (by kernel_rfl) (by kernel_rfl) (fun _ _ _ _ _ h => nomatch h.1) ?_
      have hS0 : Below (w0).drew.heap.size (w0).drew (w0).drew := Below.refl _ _
      refine os_load_mid 23 (.tmp 6) (w.heap.size) (0) (bs ky) _ hS0 rfl rfl rfl rfl rfl (uK.out) rfl (i1.out) (fun w' h => rangeAt_bel (range_dr (r1.out)) h z1.out.1) ⟨_, rfl, ?_⟩
      refine os_load_mid 25 (.tmp 7) (w.heap.size + 1) (0) (bs nc) _ hS0 rfl rfl rfl rfl rfl (uN.out) rfl (i2.out) (fun w' h => rangeAt_bel (range_dr (r2.out)) h z1.out.2) ⟨_, rfl, ?_⟩
      refine os_move rfl rfl rfl (Nat.le_of_ble_eq_true rfl) ?_
      apply Exists.intro
      refine ⟨fun w' K hK => ?_, ?_⟩
      (focus
        go_simp
        exact hK)
      refine os_move rfl rfl rfl (Nat.le_of_ble_eq_true rfl) ?_
      apply Exists.intro
      refine ⟨fun w' K hK => ?_, ?_⟩
      (focus
        go_simp
        exact hK)
      refine os_move rfl rfl rfl (Nat.le_of_ble_eq_true rfl) ?_
      apply Exists.intro
      refine ⟨fun w' K hK => ?_, ?_⟩
      (focus
        go_simp
        exact hK)
      refine os_move rfl rfl rfl (Nat.le_of_ble_eq_true rfl) ?_
      apply Exists.intro
      refine ⟨fun w' K hK => ?_, ?_⟩
      (focus
        go_simp
        exact hK)
      refine os_two rfl rfl rfl rfl (fun K hK => ?_) (fun K hK => ?_)
      · go_wp2_with fail
        refine (tag_any HK.out HN.out (Hh1.out.belF (Below.undr hS0) (fun k hk => Nat.lt_of_lt_of_le (HF.out k hk) X0.out.bel.size)) (fun k hk => Nat.lt_of_lt_of_le (HF.out k hk) (Nat.le_trans X0.out.bel.size (Below.undr hS0).size)) (Sc0.out.belF (Below.undr hS0) (fun k hk => Nat.lt_of_lt_of_le (HG.out k hk) X0.out.bel.size)) (fun k hk => Nat.lt_of_lt_of_le (HG.out k hk) (Nat.le_trans X0.out.bel.size (Below.undr hS0).size)) hb1 (by omega)).mono ?_
        rintro e wh ⟨rfl, hbh⟩
        rw [← HT.out]
        try replace Hh := Lib.hid (heap_bel Hh.out hbh)
        go_wp2_with fail
        refine ⟨fun _ hk => absurd hk List.not_mem_nil, ?_⟩
        replace hS0 := Below.tr hS0 (hbh)
        refine os_run rfl rfl (fun K hK => ?_)
        refine wp_alloc_abs 46 rfl iT _ HiT.out HzT.out ?_
        intro g wk Hg Hh hb
        have hE : w0.heap.size ≤ g := by
          have e1 := Hg.out.1; have e2 := hS0.size
          have e3 : w0.drew.heap.size = w0.heap.size := rfl
          omega
        clear Hg
        refine hK _ _ ⟨fun _ _ h => Below.tr h (hb), ?_⟩
        clear hK
        replace hS0 := Below.tr hS0 (hb)
        refine os_run rfl rfl (fun K hK => ?_)
        refine wp_store_abs 46 (.tmp 13) (.tmp 28) rfl g 46 _ (bs T).toArray rfl rfl Hh.out (by simpa using i3.out) (by simp [Value.cells, bs_length, HTl.out]) (by simp; exact bs_oneCell _) ?_
        intro w9 Hh9 hg9
        refine hK _ _ ⟨fun _ hk => absurd hk List.not_mem_nil, ?_⟩
        clear hK
        refine os_done ⟨rfl, ?_⟩
        go_wp2_with fail
        go_meet
        exact ⟨g, rfl, Lib.hid ⟨(Below.undr hS0).grown hg9 (Below.undr hS0).size (fun j hj => by injection hj with hj; omega), hE, Hh9.out⟩⟩
      · refine wp_alloc_abs 46 rfl iT _ HiT.out HzT.out ?_
        intro g wk Hg Hh hb
        have hE : w0.heap.size ≤ g := by
          have e1 := Hg.out.1; have e2 := hS0.size
          have e3 : w0.drew.heap.size = w0.heap.size := rfl
          omega
        clear Hg
        refine hK _ _ ⟨fun _ _ h => Below.tr h (hb), ?_⟩
        clear hK
        replace hS0 := Below.tr hS0 (hb)
        refine os_run rfl rfl (fun K hK => ?_)
        go_wp2_with fail
        refine (tag_any HK.out HN.out (Hh1.out.belF (Below.undr hS0) (fun k hk => Nat.lt_of_lt_of_le (HF.out k hk) X0.out.bel.size)) (fun k hk => Nat.lt_of_lt_of_le (HF.out k hk) (Nat.le_trans X0.out.bel.size (Below.undr hS0).size)) (Sc0.out.belF (Below.undr hS0) (fun k hk => Nat.lt_of_lt_of_le (HG.out k hk) X0.out.bel.size)) (fun k hk => Nat.lt_of_lt_of_le (HG.out k hk) (Nat.le_trans X0.out.bel.size (Below.undr hS0).size)) hb1 (by omega)).mono ?_
        rintro e wh ⟨rfl, hbh⟩
        rw [← HT.out]
        try replace Hh := Lib.hid (heap_bel Hh.out hbh)
        go_wp2_with fail
        refine ⟨fun _ hk => absurd hk List.not_mem_nil, ?_⟩
        replace hS0 := Below.tr hS0 (hbh)
        refine os_run rfl rfl (fun K hK => ?_)
        refine wp_store_abs 46 (.tmp 13) (.tmp 28) rfl g 46 _ (bs T).toArray rfl rfl Hh.out (by simpa using i3.out) (by simp [Value.cells, bs_length, HTl.out]) (by simp; exact bs_oneCell _) ?_
        intro w9 Hh9 hg9
        refine hK _ _ ⟨fun _ hk => absurd hk List.not_mem_nil, ?_⟩
        clear hK
        refine os_done ⟨rfl, ?_⟩
        go_wp2_with fail
        go_meet
        exact ⟨g, rfl, Lib.hid ⟨(Below.undr hS0).grown hg9 (Below.undr hS0).size (fun j hj => by injection hj with hj; omega), hE, Hh9.out⟩⟩
    case rest =>
      obtain ⟨g, rfl, hC⟩ := hcut
      have Bc := Lib.hid hC.out.1
      have Xc := Lib.hid (X0.out.bl hC.out.1)
      have Gc : Hid (∀ i (h : i < 16), wc.cell? ⟨g, i, none⟩ = some (.int .u8 ((T[i]'(by rw [HTl.out]; exact h)).toNat : Int))) := by
        intro i h
        have hr := range_block hC.out.2.2 i _ (bs_get T i (by rw [HTl.out]; exact h))
        rw [Nat.zero_add] at hr; exact hr
      have Sx := Lib.hid (Ss.out.belF Xc.out.bel HG.out)
      have Scx := Lib.hid (Sc0.out.belF hC.out.1 (fun k hk => Nat.lt_of_lt_of_le (HG.out k hk) X0.out.bel.size))
      clear hC r1 r2 z1 Hh1 Sc0 X0 Bc Ss
      go_wp2_with fail
      go_loopw [14, 33] (fun v i wr => ∃ k : Nat, k ≤ 16 ∧ i = .int .i64 (k : Nat) ∧ v = .int .u8 ((oddL S T k).toNat : Int) ∧ wc = wr) (fun _ i _ => 16 - (intOf i).toNat)
      case atStart => exact ⟨0, Nat.zero_le _, rfl, rfl, rfl⟩
      case round =>
        obtain ⟨k, hk, rfl, rfl, rfl⟩ := hrel
        by_cases hlt : k < 16
        · have hlI : (k : Int) < 16 := by omega
          have hkI : (0 : Int) ≤ (k : Int) := by omega
          have hct := Gc.out k hlt
          obtain ⟨ad', ha, hcs⟩ := Sx.out.rd.at_ (show k < S.length by rw [HSl.out]; exact hlt)
          injection ha with ha; subst ha
          have hst : Hid (oddL S T (k + 1) = oddL S T k ||| (S[k]'(by rw [HSl.out]; exact hlt) ^^^ T[k]'(by rw [HTl.out]; exact hlt))) := by
            show _ = _
            rw [oddL, getD_eq (by rw [HSl.out]; exact hlt), getD_eq (by rw [HTl.out]; exact hlt)]
          generalize S[k]'(by rw [HSl.out]; exact hlt) = x at hcs hst
          generalize T[k]'(by rw [HTl.out]; exact hlt) = y at hct hst
          have hxy := xor_byte x y
          generalize x ^^^ y = z at hxy hst
          have hoz := or_byte (oddL S T k) z
          rw [← hst.out] at hoz
          go_wp2_with fail
          go_roundw
          case rel => exact ⟨k + 1, by omega, by go_num, by first | rfl | trivial, by first | rfl | trivial⟩
          case measure => simp [intOf]; omega
        · have hk16 : k = 16 := by omega
          subst hk16
          have hod := oddL_eq HSl.out HTl.out
          by_cases hst : S = T
          · have hz : (oddL S T 16).toNat = 0 := by rw [hod.2 hst]; rfl
            rw [hz]
            have Ho : Hid (openL ky nc head s = some (streamL ky nc C)) := by show _ = _; rw [ho.out, if_pos hst]
            have r1 : Hid (wc.rangeAt w.heap.size 0 (bs ky)) := range_block (Xc.out.get (by simp) : wc.heap[w.heap.size]? = some (.cells (bs ky).toArray 23 (0, 0)))
            have r2 : Hid (wc.rangeAt (w.heap.size + 1) 0 (bs nc)) := range_block (Xc.out.get (by simp) : wc.heap[w.heap.size + 1]? = some (.cells (bs nc).toArray 25 (0, 0)))
            have z1 : Hid (w.heap.size < wc.heap.size ∧ w.heap.size + 1 < wc.heap.size) := ⟨(Xc.out.lt (g := w.heap.size) (o := .cells (bs ky).toArray 23 (0, 0)) (by simp)), (Xc.out.lt (g := w.heap.size + 1) (o := .cells (bs nc).toArray 25 (0, 0)) (by simp))⟩
            clear ho hst hod Gc Sx
            go_wp2_with fail
            refine wp_calm ?_
            refine wp_region_os (fun _ w' => Below (wc).drew.heap.size (wc).drew w') [0, 1] (.take 0 (.take 1 (.move 2 (.move 3 (.move 4 (.run 5 [] (.move 6 (.move 7 .done)))))))) (by kernel_rfl) (by kernel_rfl) (fun _ _ _ _ _ h => nomatch h.1) ?_
            have hS0 : Below (wc).drew.heap.size (wc).drew (wc).drew := Below.refl _ _
            refine os_load_mid 23 (.tmp 6) (w.heap.size) (0) (bs ky) _ hS0 rfl rfl rfl rfl rfl (uK.out) rfl (i1.out) (fun w' h => rangeAt_bel (range_dr (r1.out)) h z1.out.1) ⟨_, rfl, ?_⟩
            refine os_load_mid 25 (.tmp 7) (w.heap.size + 1) (0) (bs nc) _ hS0 rfl rfl rfl rfl rfl (uN.out) rfl (i2.out) (fun w' h => rangeAt_bel (range_dr (r2.out)) h z1.out.2) ⟨_, rfl, ?_⟩
            refine os_move rfl rfl rfl (Nat.le_of_ble_eq_true rfl) ?_
            apply Exists.intro
            refine ⟨fun w' K hK => ?_, ?_⟩
            (focus
              go_simp
              exact hK)
            refine os_move rfl rfl rfl (Nat.le_of_ble_eq_true rfl) ?_
            apply Exists.intro
            refine ⟨fun w' K hK => ?_, ?_⟩
            (focus
              go_simp
              exact hK)
            refine os_move rfl rfl rfl (Nat.le_of_ble_eq_true rfl) ?_
            apply Exists.intro
            refine ⟨fun w' K hK => ?_, ?_⟩
            (focus
              go_simp
              exact hK)
            refine os_run rfl rfl (fun K hK => ?_)
            go_wp2_with fail
            refine (Xor_any wc.drew ky nc 1 HK.out HN.out (Scx.out.belF (Below.undr hS0) (fun k hk => Nat.lt_of_lt_of_le (HG.out k hk) Xc.out.bel.size)) (fun k hk => Nat.lt_of_lt_of_le (HG.out k hk) (Nat.le_trans Xc.out.bel.size (Below.undr hS0).size)) (by omega)).mono ?_
            rintro e wx ⟨Ax, cx, rfl, hox, hbx⟩
            go_wp2_with fail
            refine ⟨fun _ hk => absurd hk List.not_mem_nil, ?_⟩
            replace hS0 := Below.tr hS0 (hbx)
            refine os_move rfl rfl rfl (Nat.le_of_ble_eq_true rfl) ?_
            apply Exists.intro
            refine ⟨fun w' K hK => ?_, ?_⟩
            (focus
              go_simp
              exact hK)
            refine os_move rfl rfl rfl (Nat.le_of_ble_eq_true rfl) ?_
            apply Exists.intro
            refine ⟨fun w' K hK => ?_, ?_⟩
            (focus
              go_simp
              exact hK)
            refine os_done ⟨rfl, ?_⟩
            go_wp2_with fail
            go_ret2
            rw [Ho.out]
            exact ⟨⟨Ax, q, cx, rfl, own_mono hox Xc.out.bel.size⟩, Below.tr Xc.out.bel (Below.undr hS0)⟩
          · have hz : ((oddL S T 16).toNat : Int) ≠ 0 := fun e => hst (hod.1 (UInt8.toNat_inj.1 (by rw [show (oddL S T 16).toNat = 0 by omega]; rfl)))
            have Ho : Hid (openL ky nc head s = none) := by show _ = _; rw [ho.out, if_neg hst]
            generalize ((oddL S T 16).toNat : Int) = z at hz
            clear ho hst hod Gc Sx
            go_wp2_with fail
            go_ret2
            rw [Ho.out]
            exact ⟨⟨none, 0, 0, rfl, World.ownsRow_nil _ _ _ _⟩, Xc.out.bel⟩
end Go.Proofs.Ytklclbppdoahjaa
/- The reference's Open. -/
namespace Go.Proofs.Ytklclbppdoahjaa
set_option maxRecDepth 100000
open Go.RowKit
attribute [local go_sem] yld yldUpon_value

set_option maxRecDepth 100000 in
set_option maxHeartbeats 4000000 in
theorem rOpen_any {w : World} (rc : Value) {ky nc : List UInt8} (hk : ky.length = 32) (hn : nc.length = 12) {F G : Nat → Prop} {A B : Option Addr} {n c m d : Nat} {head s : List UInt8} (h1 : Sl w F A n c head) (hF : ∀ k, F k → k < w.heap.size) (h2 : Sl w G B m d s) (hG : ∀ k, G k → k < w.heap.size) (hb1 : n ≤ 40000) (hb2 : m ≤ 40000) :
    Calls Try.prog 19 #[rc, .agg (bs ky).toArray, .agg (bs nc).toArray, .slice A n c, .slice B m d] w fun e w' => (∃ A' n' c', e = .returned (.tuple #[.slice A' n' c', .bool (openL ky nc head s).isSome]) ∧ w'.ownsRow w.heap.size 5 1 (.slice A' n' c') n' (bs ((openL ky nc head s).getD []))) ∧ Below w.heap.size w w' := by
  have HK := Lib.hid hk; have HN := Lib.hid hn; have H1 := Lib.hid h1; have H2 := Lib.hid h2; have HF := Lib.hid hF; have HG := Lib.hid hG
  have L1 := Lib.hid h1.len; have L2 := Lib.hid h2.len
  by_cases hlt : m < 16
  · have ho : openL ky nc head s = none := by unfold openL; rw [if_pos (by have := L2.out; omega)]
    rw [ho]
    have hltI : (m : Int) < 16 := by omega
    clear hk hn h1 h2 hF hG ho
    go_enter Try.func19, Try.ntmps19
    go_wp2_with fail
    go_ret2
    exact ⟨⟨none, 0, 0, rfl, World.ownsRow_nil _ _ _ _⟩, Below.tr (Below.al _ _) (Below.al _ _)⟩
  · obtain ⟨q, hq⟩ : ∃ q, m = q + 16 := ⟨m - 16, by omega⟩
    subst hq
    have hsq : s.length - 16 = q := by have := L2.out; omega
    obtain ⟨C, hC⟩ : ∃ C, C = s.take q := ⟨_, rfl⟩
    obtain ⟨S, hS⟩ : ∃ S, S = s.drop q := ⟨_, rfl⟩
    obtain ⟨T, hT⟩ : ∃ T, T = aeadTag ky nc head C := ⟨_, rfl⟩
    have ho : Hid (openL ky nc head s = if S = T then some (streamL ky nc C) else none) := by
      show _ = _
      unfold openL; rw [if_neg (by have := L2.out; omega), hsq, ← hC, ← hS, ← hT]
    have HT := Lib.hid hT
    have HTl : Hid (T.length = 16) := by rw [hT]; exact aeadTag_len _ _ _ _
    have HSl : Hid (S.length = 16) := by rw [hS]; show _ = _; rw [List.length_drop]; have := L2.out; omega
    have HCl : Hid (C.length = q) := by rw [hC]; show _ = _; rw [List.length_take]; have := L2.out; omega
    obtain ⟨ad, rfl⟩ : ∃ ad, B = some ad := by
      cases B with
      | some ad => exact ⟨ad, rfl⟩
      | none => have := (h2.zero rfl).1; omega
    have hcapN := h2.cap
    have Sc : Hid (Sl w G (some ad) q d C) := by rw [hC]; exact Sl.take_ (l' := s.drop q) (by rw [List.take_append_drop]; exact h2) (by rw [List.length_take]; have := L2.out; omega)
    have Ss : Hid (Sl w G (some (ad.add q)) 16 (d - q) S) := by
      have h := h2.drop_ (m := q) (A' := some (ad.add q)) (by omega) (.inr rfl)
      rw [show q + 16 - q = 16 by omega] at h; rw [hS]; exact h
    have hcapI : (q : Int) < d := by omega
    have hqd : q ≤ d := by omega
    have hqI : ((q + 16 : Nat) : Int) - 16 = (q : Int) := by omega
    have hqI2 : ((q : Int) + 16) - 16 = (q : Int) := by omega
    have hqI3 : (q : Int) ≤ (q : Int) + 16 := by omega
    have hq0 : (0 : Int) ≤ (q : Int) := by omega
    clear hk hn h1 h2 hF hG hC hS hT hsq H2
    obtain ⟨iT, hiT, zT, _, _⟩ := info_parts Try.infoTag
    have HiT := Lib.hid hiT; have HzT := Lib.hid zT
    clear hiT zT
    have uK := Lib.hid Try.underlying23
    have uN := Lib.hid Try.underlying25
    have i1 : Hid ((Try.prog.info? 23).map (·.size) = some (bs ky).length) := by rw [bs_length, HK.out]; exact Try.sizeKey
    have i2 : Hid ((Try.prog.info? 25).map (·.size) = some (bs nc).length) := by rw [bs_length, HN.out]; exact Try.sizeN
    have i3 : Hid ((Try.prog.info? 46).map (·.size) = some (bs T).length) := by rw [bs_length, HTl.out]; exact Try.sizeTag
    obtain ⟨w0, hw0⟩ : ∃ w0, w0 = (w.alloc (.cells (bs ky).toArray 23)).alloc (.cells (bs nc).toArray 25) := ⟨_, rfl⟩
    have X0 : Hid (Has w w0 [(w.heap.size + 1, .cells (bs nc).toArray 25 (0, 0)), (w.heap.size, .cells (bs ky).toArray 23 (0, 0))]) := by
      have h1 : Has w (w.alloc (.cells (bs ky).toArray 23)) [(w.heap.size, .cells (bs ky).toArray 23 (0, 0))] := (Has.start (Below.refl _ w)).new (Below.al _ _) (Nat.le_refl _) (heap_alloc_new w _)
      have h2 := heap_alloc_new (w.alloc (.cells (bs ky).toArray 23)) (.cells (bs nc).toArray 25)
      rw [World.size_alloc] at h2
      rw [hw0]
      exact h1.new (Below.al _ _) (by rw [World.size_alloc]; exact Nat.le_refl _) h2
    subst hw0
    have hq16 : ¬ ((q + 16 : Nat) : Int) < 16 := by omega
    have hq16' : ¬ ((q : Int) + 16) < 16 := by omega
    have r1 : Hid (((w.alloc (.cells (bs ky).toArray 23)).alloc (.cells (bs nc).toArray 25)).rangeAt w.heap.size 0 (bs ky)) := range_block (X0.out.get (by simp) : _ = some (.cells (bs ky).toArray 23 (0, 0)))
    have r2 : Hid (((w.alloc (.cells (bs ky).toArray 23)).alloc (.cells (bs nc).toArray 25)).rangeAt (w.heap.size + 1) 0 (bs nc)) := range_block (X0.out.get (by simp) : _ = some (.cells (bs nc).toArray 25 (0, 0)))
    go_enter Try.func19, Try.ntmps19
    go_wp2_with (first
      | ((with_reducible refine lst_load_mid 23 (.tmp 6) rfl w.heap.size 0 rfl (bs ky) _ r1.out uK.out rfl i1.out ?_ ?_)
         (focus rfl))
      | ((with_reducible refine lst_load_mid 25 (.tmp 7) rfl (w.heap.size + 1) 0 rfl (bs nc) _ r2.out uN.out rfl i2.out ?_ ?_)
         (focus rfl)))
    clear r1 r2
    generalize (w.alloc (.cells (bs ky).toArray 23)).alloc (.cells (bs nc).toArray 25) = w0 at X0 ⊢
    have Sc0 := Lib.hid (Sc.out.belF X0.out.bel HG.out)
    refine (rTag_any HK.out HN.out (H1.out.belF X0.out.bel HF.out) (fun k hk => Nat.lt_of_lt_of_le (HF.out k hk) X0.out.bel.size) Sc0.out (fun k hk => Nat.lt_of_lt_of_le (HG.out k hk) X0.out.bel.size) hb1 (by omega)).mono ?_
    rintro e w1 ⟨rfl, hb1'⟩
    rw [← HT.out]
    have X1 := Lib.hid (X0.out.bl hb1')
    clear hb1' X0 Sc0
    go_wp2_with (first
      | ((with_reducible refine lst_alloc_d 13 rfl 46 rfl iT _ HiT.out HzT.out ?_ ?_)
         (focus rfl)
         intro g w2 Hg Hh hb
         have h2 : Hid (w2.heap[g]? = some (.cells (bs (List.replicate 16 0)).toArray 46 (0, 0))) := Hh
         have E2 : Hid (g = w1.heap.size) := Hg.out.1
         have Y2 := Lib.hid (X1.out.bl hb)
         clear Hg Hh hb)
      | ((with_reducible refine lst_store_abs 46 (.tmp 13) (.tmp 27) rfl g 46 (bs (List.replicate 16 0)).toArray (bs T).toArray rfl rfl h2.out (by simpa using i3.out) (by simp [bs_length, HTl.out]) (by simp; exact bs_oneCell _) ?_ ?_)
         (focus rfl)
         intro wc Hh3 hg3
         have Xc : Hid (Has w wc [(w.heap.size + 1, .cells (bs nc).toArray 25 (0, 0)), (w.heap.size, .cells (bs ky).toArray 23 (0, 0))]) := Y2.out.fr (Fr.of_grown hg3) (fun p hp e => by have h := X1.out.lt (g := p.1) (o := p.2) hp; injection e with e; have := E2.out; omega) (fun k hk => by injection hk with hk; have := E2.out; have := X1.out.bel.size; omega)
         have Gc : Hid (∀ i (h : i < 16), wc.cell? ⟨g, i, none⟩ = some (.int .u8 ((T[i]'(by rw [HTl.out]; exact h)).toNat : Int))) := by
           intro i h
           have hr := range_block Hh3.out i _ (bs_get T i (by rw [HTl.out]; exact h))
           rw [Nat.zero_add] at hr; exact hr
         clear Hh3 hg3 Y2 h2))
    have Sx := Lib.hid (Ss.out.belF Xc.out.bel HG.out)
    have Scx := Lib.hid (Sc.out.belF Xc.out.bel HG.out)
    clear X1 E2 Ss Sc
    go_loopw [14] (fun i wr => ∃ k mm : Nat, k ≤ 16 ∧ i = .int .i64 (k : Nat) ∧ S.take k = T.take k ∧ wr = wc.drewN mm) (fun i _ => 16 - (intOf i).toNat)
    case atStart => exact ⟨0, 0, Nat.zero_le _, rfl, rfl, rfl⟩
    case round =>
      obtain ⟨k, mm, hk, rfl, ht, rfl⟩ := hrel
      have Ht := Lib.hid ht; clear ht
      have hkI : (0 : Int) ≤ (k : Int) := by omega
      by_cases hlt : k < 16
      · have hlI : (k : Int) < 16 := by omega
        have hct := Gc.out k hlt
        obtain ⟨ad', ha, hcs⟩ := Sx.out.rd.at_ (show k < S.length by rw [HSl.out]; exact hlt)
        injection ha with ha; subst ha
        obtain ⟨v, hv⟩ : ∃ v, v = q + k := ⟨_, rfl⟩
        have hvI : (q : Int) + (k : Int) = (v : Int) := by omega
        have hvl : (v : Int) < ((q + 16 : Nat) : Int) := by omega
        have hvl' : (v : Int) < (q : Int) + 16 := by omega
        have hv0 : (0 : Int) ≤ (v : Int) := by omega
        have hvw : IntKind.i64.wrap (v : Int) = (v : Int) := by rw [IntKind.wrap_i64]; omega
        rw [addr_add_add, ← hv] at hcs
        clear hv
        by_cases he : S[k]'(by rw [HSl.out]; exact hlt) = T[k]'(by rw [HTl.out]; exact hlt)
        · have Hts := Lib.hid (take_succ_eq (show k < S.length by rw [HSl.out]; exact hlt) (show k < T.length by rw [HTl.out]; exact hlt) Ht.out he)
          rw [he] at hcs
          generalize T[k]'(by rw [HTl.out]; exact hlt) = y at hct hcs
          have heq : ((y.toNat : Int) != (y.toNat : Int)) = false := by simp
          clear he
          go_wp2_with fail
          go_quiet (fail)
          go_wp2_with fail
          go_roundw
          case rel => exact ⟨k + 1, mm + nq, by omega, by go_num, Hts.out, rfl⟩
          case measure => simp [intOf]; omega
        · have Ho : Hid (openL ky nc head s = none) := by
            show _ = _
            rw [ho.out, if_neg]
            rintro rfl; exact he rfl
          have heq : (((S[k]'(by rw [HSl.out]; exact hlt)).toNat : Int) != ((T[k]'(by rw [HTl.out]; exact hlt)).toNat : Int)) = true := by
            simp only [bne_iff_ne, ne_eq]; intro e; exact he (UInt8.toNat_inj.1 (by omega))
          generalize S[k]'(by rw [HSl.out]; exact hlt) = x at hcs heq
          generalize T[k]'(by rw [HTl.out]; exact hlt) = y at hct heq
          clear he
          go_wp2_with fail
          go_quiet (fail)
          go_wp2_with fail
          go_ret2
          rw [Ho.out]
          exact ⟨⟨none, 0, 0, rfl, World.ownsRow_nil _ _ _ _⟩, Below.tr Xc.out.bel (Below.tr (Below.drN wc mm) (Below.drN _ _))⟩
      · have hlI : ¬ (k : Int) < 16 := by omega
        have hk16 : k = 16 := by omega
        subst hk16
        have hst : S = T := by
          have h := Ht.out
          rw [List.take_of_length_le (by rw [HSl.out]; exact Nat.le_refl _), List.take_of_length_le (by rw [HTl.out]; exact Nat.le_refl _)] at h
          exact h
        have Ho : Hid (openL ky nc head s = some (streamL ky nc C)) := by show _ = _; rw [ho.out, if_pos hst]
        have Xd := Lib.hid (Xc.out.bl (Below.drN wc mm))
        have Sd := Lib.hid (Scx.out.belF (Below.drN wc mm) (fun k hk => Nat.lt_of_lt_of_le (HG.out k hk) Xc.out.bel.size))
        generalize wc.drewN mm = wd at Xd Sd ⊢
        have r1 : Hid (wd.rangeAt w.heap.size 0 (bs ky)) := range_block (Xd.out.get (by simp) : wd.heap[w.heap.size]? = some (.cells (bs ky).toArray 23 (0, 0)))
        have r2 : Hid (wd.rangeAt (w.heap.size + 1) 0 (bs nc)) := range_block (Xd.out.get (by simp) : wd.heap[w.heap.size + 1]? = some (.cells (bs nc).toArray 25 (0, 0)))
        clear ho hst Gc Sx Xc Scx
        go_wp2_with (first
          | ((with_reducible refine lst_load_mid 23 (.tmp 6) rfl w.heap.size 0 rfl (bs ky) _ r1.out uK.out rfl i1.out ?_ ?_)
             (focus rfl))
          | ((with_reducible refine lst_load_mid 25 (.tmp 7) rfl (w.heap.size + 1) 0 rfl (bs nc) _ r2.out uN.out rfl i2.out ?_ ?_)
             (focus rfl)))
        refine (RefXor_any wd ky nc 1 HK.out HN.out Sd.out (fun k hk => Nat.lt_of_lt_of_le (HG.out k hk) Xd.out.bel.size) (by omega)).mono ?_
        rintro e wx ⟨Ax, cx, rfl, hox, hbx⟩
        have Oox := Lib.hid hox
        have Bbx := Lib.hid hbx
        clear hox hbx r1 r2
        go_wp2_with fail
        go_ret2
        rw [Ho.out]
        exact ⟨⟨Ax, q, cx, rfl, own_mono Oox.out Xd.out.bel.size⟩, Below.tr Xd.out.bel Bbx.out⟩
end Go.Proofs.Ytklclbppdoahjaa
/- As Ord3, parted where three loud operations may come in any order. -/
namespace Go.Proofs.Ytklclbppdoahjaa
set_option maxRecDepth 100000
open Go.RowKit
section
variable {P : Program} {ops : Array Oper} {Q : Exit → Act → World → Prop} {md : Region.Mode} {S : Nat → World → Prop} {ts : List Nat}

inductive O3 where
  | os (r : OS)
  | pre (r : OS) (m : O3)
  | three (i : Nat) (ks : List Nat) (r : O3) (j : Nat) (ls : List Nat) (s : O3) (k : Nat) (ms : List Nat) (t : O3)

def O3.size : O3 → Nat
  | .os r => r.size
  | .pre r m => r.size + m.size
  | .three _ _ r _ _ _ _ _ _ => r.size + 1

def preB (md : Region.Mode) (ops : Array Oper) (ts : List Nat) : OS → Array Bool → Option (Array Bool)
  | .done, listed => some listed
  | .take i r, listed => if ((Region.ready md ops listed).contains i && Region.free md ops listed i && ts.contains i) = true then preB md ops ts r (listed.setIfInBounds i true) else none
  | .move i r, listed => if ((Region.ready md ops listed).contains i && Region.free md ops listed i) = true then preB md ops ts r (listed.setIfInBounds i true) else none
  | .run .., _ => none
  | .two .., _ => none

def o3B (md : Region.Mode) (ops : Array Oper) (ts : List Nat) : O3 → Array Bool → Bool
  | .os r, listed => osB md ops ts r listed
  | .pre r m, listed => match preB md ops ts r listed with
    | some l => o3B md ops ts m l
    | none => false
  | .three i ks r j ls s k ms t, listed => decide (Region.ready md ops listed = [i, j, k]) && decide (r.size = s.size) && decide (r.size = t.size) && keepB md ops ts i ks && keepB md ops ts j ls && keepB md ops ts k ms
      && o3B md ops ts r (listed.setIfInBounds i true) && o3B md ops ts s (listed.setIfInBounds j true) && o3B md ops ts t (listed.setIfInBounds k true)

def wpO3 (P : Program) (ops : Array Oper) (Q : Exit → Act → World → Prop) (S : Nat → World → Prop) : O3 → Act → World → Prop
  | .os r, a, w => wpOS P ops Q S r a w
  | .pre r m, a, w => wpOS P ops (fun _ a w => wpO3 P ops Q S m a w) S r a w
  | .three i ks r j ls s k ms t, a, w => wpOp P ops Q i (fun a' w' => (∀ k ∈ ks, S k w → S k w') ∧ wpO3 P ops Q S r a' w') a w ∧ wpOp P ops Q j (fun a' w' => (∀ k ∈ ls, S k w → S k w') ∧ wpO3 P ops Q S s a' w') a w
      ∧ wpOp P ops Q k (fun a' w' => (∀ k ∈ ms, S k w → S k w') ∧ wpO3 P ops Q S t a' w') a w

theorem pre_of (hs : Region.noSelect ops = true) (hQ : ∀ c a d v w, Q (.panic c) (Act.put a (some d) v) w → Q (.panic c) a w) (Q0 : Exit → Act → World → Prop) (m : Nat) (l' : Array Bool)
    (hk : ∀ a' w', Q0 .normal a' w' → OrdS P md ops Q S ts m l' a' w') : ∀ (r : OS) (listed : Array Bool) (a : Act) (w : World),
    preB md ops ts r listed = some l' → wpOS P ops Q0 S r a w → OrdS P md ops Q S ts (r.size + m) listed a w
  | .done, listed, a, w, hB, h => by
    simp only [preB, Option.some.injEq] at hB
    subst hB
    rw [show OS.done.size + m = m from Nat.zero_add m]
    exact hk a w h
  | .take i r, listed, a, w, hB, h => by
    unfold preB at hB
    split at hB
    · rename_i hc
      simp only [Bool.and_eq_true] at hc
      obtain ⟨⟨hr, hf⟩, hts⟩ := hc
      obtain ⟨hS, o, v, ho, hy, h'⟩ := h
      rw [show (OS.take i r).size + m = (r.size + m) + 1 by show r.size + 1 + m = _; omega]
      exact ordS_first ho (Region.noSelect_spec hs) (.inl ⟨by simpa using hts, rfl⟩) (fun c a w => by cases hd : o.dst with
        | none => exact id
        | some d => exact hQ c a d v w) (r.size + m) listed a w (Region.free_spec ho hf) (by simpa using hr) hy hS
        (pre_of hs hQ Q0 m l' hk r _ _ w hB h')
    · cases hB
  | .move i r, listed, a, w, hB, h => by
    unfold preB at hB
    split at hB
    · rename_i hc
      simp only [Bool.and_eq_true] at hc
      obtain ⟨hr, hf⟩ := hc
      obtain ⟨o, v, ho, hy, h'⟩ := h
      rw [show (OS.move i r).size + m = (r.size + m) + 1 by show r.size + 1 + m = _; omega]
      exact ordS_first ho (Region.noSelect_spec hs) (.inr fun _ => trivial) (fun c a w => by cases hd : o.dst with
        | none => exact id
        | some d => exact hQ c a d v w) (r.size + m) listed a w (Region.free_spec ho hf) (by simpa using hr) hy trivial
        (pre_of hs hQ Q0 m l' hk r _ _ w hB h')
    · cases hB
  | .run .., _, _, _, hB, _ => by cases hB
  | .two .., _, _, _, hB, _ => by cases hB

theorem o3_of (hs : Region.noSelect ops = true) (hQ : ∀ c a d v w, Q (.panic c) (Act.put a (some d) v) w → Q (.panic c) a w) : ∀ (r : O3) (listed : Array Bool) (a : Act) (w : World),
    o3B md ops ts r listed = true → wpO3 P ops Q S r a w → OrdS P md ops Q S ts r.size listed a w
  | .os r, listed, a, w, hB, h => os_of hs hQ r listed a w hB h
  | .pre r m, listed, a, w, hB, h => by
    unfold o3B at hB
    split at hB
    · rename_i l hl
      exact pre_of hs hQ _ m.size l (fun a' w' h' => o3_of hs hQ m l a' w' hB h') r listed a w hl h
    · cases hB
  | .three i ks r j ls s k ms t, listed, a, w, hB, h => by
    simp only [o3B, Bool.and_eq_true, decide_eq_true_eq] at hB
    obtain ⟨⟨⟨⟨⟨⟨⟨⟨hr, hsz⟩, hsz2⟩, hk1⟩, hk2⟩, hk3⟩, hB1⟩, hB2⟩, hB3⟩ := hB
    refine ⟨fun h0 => (by rw [hr] at h0; cases h0), fun q hq => ?_⟩
    rw [hr] at hq
    simp only [List.mem_cons, List.not_mem_nil, or_false] at hq
    rcases hq with rfl | rfl | rfl
    · exact wpOp_mono (fun a' w' h' => ⟨keep_of hk1 h'.1, o3_of hs hQ r _ a' w' hB1 h'.2⟩) h.1
    · refine wpOp_mono (fun a' w' h' => ⟨keep_of hk2 h'.1, ?_⟩) h.2.1
      have h2 := o3_of hs hQ s _ a' w' hB2 h'.2
      show OrdS P md ops Q S ts r.size _ a' w'
      rw [hsz]; exact h2
    · refine wpOp_mono (fun a' w' h' => ⟨keep_of hk3 h'.1, ?_⟩) h.2.2
      have h2 := o3_of hs hQ t _ a' w' hB3 h'.2
      show OrdS P md ops Q S ts r.size _ a' w'
      rw [hsz2]; exact h2

/-- THE BEGINNING. -/
theorem wp_region_o3 {id : Nat} {l : List Oper} {a : Act} {w : World} (S : Nat → World → Prop) (ts : List Nat) (r : O3) (hm : P.follows .mixedOrders = true)
    (hB : (Region.noSelect l.toArray && decide (r.size = l.length) && o3B .any l.toArray ts r (Array.replicate l.length false)) = true)
    (hQ : ∀ c a d v w, Q (.panic c) (Act.put a (some d) v) w → Q (.panic c) a w)
    (h : wpO3 P l.toArray Q S r a w.drew) : (Code.region id l.toArray true).wp P Q a w := by
  simp only [Bool.and_eq_true, decide_eq_true_eq] at hB
  refine wp_region_any hm ?_
  have h1 := o3_of (md := .any) hB.1.1 hQ r _ a _ hB.2 h
  rw [hB.1.2] at h1
  have h2 := any_of_ordS _ _ _ _ h1
  simpa using h2
theorem o3_pre {r : OS} {m : O3} {a : Act} {w : World} (h : wpOS P ops (fun _ a w => wpO3 P ops Q S m a w) S r a w) : wpO3 P ops Q S (.pre r m) a w := h
theorem o3_os {r : OS} {a : Act} {w : World} (h : wpOS P ops Q S r a w) : wpO3 P ops Q S (.os r) a w := h
theorem o3_done {m : O3} {a : Act} {w : World} (h : wpO3 P ops Q S m a w) : wpOS P ops (fun _ a w => wpO3 P ops Q S m a w) S .done a w := h
theorem o3_three {i j k : Nat} {ks ls ms : List Nat} {r s t : O3} {o o' o'' : Oper} {a : Act} {w : World} (ho : ops.toList[i]? = some o) (ho' : ops.toList[j]? = some o') (ho'' : ops.toList[k]? = some o'')
    (hw : Region.wanted o (yielded ops a.tmps) = true) (hw' : Region.wanted o' (yielded ops a.tmps) = true) (hw'' : Region.wanted o'' (yielded ops a.tmps) = true)
    (h : ∀ K : Act → World → Prop, (∀ a' w', ((∀ k ∈ ks, S k w → S k w') ∧ wpO3 P ops Q S r a' w') → K a' w') → o.wp P a w K Q)
    (h' : ∀ K : Act → World → Prop, (∀ a' w', ((∀ k ∈ ls, S k w → S k w') ∧ wpO3 P ops Q S s a' w') → K a' w') → o'.wp P a w K Q)
    (h'' : ∀ K : Act → World → Prop, (∀ a' w', ((∀ k ∈ ms, S k w → S k w') ∧ wpO3 P ops Q S t a' w') → K a' w') → o''.wp P a w K Q) : wpO3 P ops Q S (.three i ks r j ls s k ms t) a w :=
  ⟨wpOp_run ho hw (h _ fun _ _ h => h), wpOp_run ho' hw' (h' _ fun _ _ h => h), wpOp_run ho'' hw'' (h'' _ fun _ _ h => h)⟩
end
end Go.Proofs.Ytklclbppdoahjaa
