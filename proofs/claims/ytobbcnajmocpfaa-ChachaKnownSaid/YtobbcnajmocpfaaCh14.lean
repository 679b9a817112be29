/- ChachaPlaces' walk. -/
import Derived.Test.YtobbcnajmocpfaaCh13
namespace Go.Proofs.Ytobbcnajmocpfaa
open Go.RowKit
attribute [local go_sem] yld yldUpon_value

theorem xorP_set (key nonce : List UInt8) (ctr : BitVec 32) (b : List UInt8) (a : Nat) (h : a < b.length) (u : UInt8) :
    xorP key ctr nonce (b.set a (b[a] ^^^ u)) = (xorP key ctr nonce b).set a ((xorP key ctr nonce b)[a]'(by rw [xorP_len]; exact h) ^^^ u) := by
  apply List.ext_getElem?
  intro j
  have hl : (b.set a (b[a] ^^^ u)).length = b.length := List.length_set
  rcases Nat.lt_or_ge j b.length with hj | hj
  · rw [xorP_get (by rw [hl]; exact hj)]
    have hj2 : j < (xorP key ctr nonce b).length := by rw [xorP_len]; exact hj
    have e := xorP_get (key := key) (nonce := nonce) (ctr := ctr) hj
    rw [List.getElem?_eq_getElem hj2] at e
    have e := Option.some.inj e
    by_cases ha : a = j
    · subst ha
      rw [List.getElem?_set_self hj2, List.getElem_set_self, e]
      congr 1
      rw [UInt8.xor_assoc, UInt8.xor_comm u, ← UInt8.xor_assoc]
    · rw [List.getElem?_set_ne ha, List.getElem_set_ne ha, List.getElem?_eq_getElem hj2, e]
  · rw [List.getElem?_eq_none (by rw [xorP_len, hl]; exact hj), List.getElem?_eq_none (by rw [List.length_set, xorP_len]; exact hj)]
theorem xor_twice (L : List UInt8) (a : Nat) (h : a < L.length) (u : UInt8) : (L.set a (L[a] ^^^ u)).set a ((L.set a (L[a] ^^^ u))[a]'(by rw [List.length_set]; exact h) ^^^ u) = L := by
  rw [List.getElem_set_self, UInt8.xor_assoc, UInt8.xor_self, UInt8.xor_zero, List.set_set, List.set_getElem_self]
theorem xorP_take (key nonce : List UInt8) (ctr : BitVec 32) (b : List UInt8) (a : Nat) : xorP key ctr nonce (b.take a) = (xorP key ctr nonce b).take a := by
  apply List.ext_getElem?
  intro j
  rcases Nat.lt_or_ge j (b.take a).length with hj | hj
  · have h1 : j < b.length ∧ j < a := by rw [List.length_take] at hj; omega
    rw [xorP_get hj, List.getElem?_take, if_pos h1.2, xorP_get h1.1, List.getElem_take]
  · rw [List.getElem?_eq_none (by rw [xorP_len]; exact hj), List.getElem?_eq_none (by rw [List.length_take, xorP_len]; rw [List.length_take] at hj; exact hj)]
theorem ksP_add (key nonce : List UInt8) (ctr : BitVec 32) (q j : Nat) : ksP key (ctr + BitVec.ofNat 32 q) nonce j = ksP key ctr nonce (64 * q + j) := by
  unfold ksP
  rw [show (64 * q + j) / 64 = q + j / 64 by omega, show (64 * q + j) % 64 = j % 64 by omega]
  congr 2
  rw [BitVec.add_assoc]
  congr 1
  apply BitVec.eq_of_toNat_eq
  simp [BitVec.toNat_add, BitVec.toNat_ofNat]
theorem xorP_drop (key nonce : List UInt8) (ctr : BitVec 32) (b : List UInt8) (q : Nat) : xorP key (ctr + BitVec.ofNat 32 q) nonce (b.drop (64 * q)) = (xorP key ctr nonce b).drop (64 * q) := by
  apply List.ext_getElem?
  intro j
  rcases Nat.lt_or_ge j (b.drop (64 * q)).length with hj | hj
  · have h1 : 64 * q + j < b.length := by rw [List.length_drop] at hj; omega
    rw [xorP_get hj, List.getElem?_drop, xorP_get h1, List.getElem_drop, ksP_add]
  · rw [List.getElem?_eq_none (by rw [xorP_len]; exact hj), List.getElem?_eq_none (by rw [List.length_drop, xorP_len]; rw [List.length_drop] at hj; exact hj)]

set_option maxRecDepth 100000 in
set_option maxHeartbeats 8000000 in
theorem ChachaPlaces_any (w : World) (key nonce : List UInt8) (ctr : BitVec 32) (hk : key.length = 32) (hn : nonce.length = 12) {A : Option Addr} {n c : Nat} {b : List UInt8} (hs : Sl w (Old w) A n c b) (hb : n ≤ 140737488355000) (at_ : Int) (u : UInt8) :
    Calls Try.prog 6 #[.agg (bs key).toArray, .int .u32 (wv ctr), .agg (bs nonce).toArray, .slice A n c, .int .i64 at_, .int .u8 (u.toNat : Int)] w fun e w' => e = .returned (.bool true) ∧ Below w.heap.size w w' := by
  have Hs := Lib.hid hs; have Hk := Lib.hid hk; have Hn := Lib.hid hn; have Hb := Lib.hid hb; have HL := Lib.hid hs.len
  have u1 := Lib.hid Try.underlying23
  have u2 := Lib.hid Try.underlying26
  have i1 : Hid ((Try.prog.info? 23).map (·.size) = some (bs key).length) := by rw [bs_length, hk]; exact Try.sizeK
  have i2 : Hid ((Try.prog.info? 26).map (·.size) = some (bs nonce).length) := by rw [bs_length, hn]; exact Try.sizeN
  clear hs hk hn hb
  have hK2 := Lib.hid (range_block (heap_alloc2_old w (.cells (bs key).toArray 23) (.cells (bs nonce).toArray 26)))
  have hN2 := Lib.hid (range_block (heap_alloc2_new w (.cells (bs key).toArray 23) (.cells (bs nonce).toArray 26)))
  have hB2 : Hid (Below w.heap.size w ((w.alloc (.cells (bs key).toArray 23)).alloc (.cells (bs nonce).toArray 26))) := ((Below.refl _ _).alloc (Nat.le_refl _) _).alloc (by simp) _
  have hz2 : Hid (((w.alloc (.cells (bs key).toArray 23)).alloc (.cells (bs nonce).toArray 26)).heap.size = w.heap.size + 2) := by show _ = _; simp
  have hc3 : (8192 < n) ∨ (n = 0) ∨ (¬ 8192 < n ∧ 0 < n) := by omega
  rcases hc3 with hc | hc | hc
  · have hcI : (8192 : Int) < (n : Int) := by omega
    go_enter Try.func6, Try.ntmps6
    go_wp2_with fail
    refine (works_any _).mono ?_
    rintro e w3 ⟨rfl, hb3⟩
    go_wp2_with fail
    go_ret
    exact ⟨rfl, hB2.out.trans (hb3.mono (by have := hz2.out; omega))⟩
  · have hcI : decide ((8192 : Int) < (n : Int)) = false := decide_eq_false (by omega)
    have hcI2 : ((n : Int) == 0) = true := by simp [hc]
    clear hc
    go_enter Try.func6, Try.ntmps6
    go_wp2_with fail
    refine (works_any _).mono ?_
    rintro e w3 ⟨rfl, hb3⟩
    go_wp2_with fail
    go_ret
    exact ⟨rfl, hB2.out.trans (hb3.mono (by have := hz2.out; omega))⟩
  · obtain ⟨hc, hp⟩ := hc
    have hcI : decide ((8192 : Int) < (n : Int)) = false := decide_eq_false (by omega)
    have hcI2 : ((n : Int) == 0) = false := by simp; omega
    have Hc := Lib.hid hc; have Hp := Lib.hid hp
    clear hc hp
    go_enter Try.func6, Try.ntmps6
    go_wp2_with fail
    generalize ((w.alloc (.cells (bs key).toArray 23)).alloc (.cells (bs nonce).toArray 26)) = w2 at hK2 hN2 hB2 hz2 ⊢
    refine (Pick_any at_ n w2 (by have := Hb.out; omega)).mono ?_
    rintro e w2' ⟨rfl, rfl⟩
    obtain ⟨a, ha, ha2⟩ : ∃ a : Nat, (if (n : Int) < 1 then 0 else at_ % (n : Int)) = (a : Int) ∧ a < n := by
      have := Hp.out
      have h1 := Int.emod_nonneg at_ (show (n : Int) ≠ 0 by omega)
      have h2 := Int.emod_lt_of_pos at_ (show (0 : Int) < (n : Int) by omega)
      exact ⟨(at_ % (n : Int)).toNat, by rw [if_neg (by omega)]; omega, by omega⟩
    rw [ha]
    have Ha := Lib.hid ha2
    clear ha ha2
    have hA : ∃ ad, A = some ad := by
      cases A with
      | some ad => exact ⟨ad, rfl⟩
      | none => have := (Hs.out.zero rfl).1; have := Hp.out; omega
    obtain ⟨ad, rfl⟩ := hA
    have s2 : Hid (Sl w2 (Old w) (some ad) n c b) := Hs.out.fr (Fr.of_below (M := NoB) hB2.out) (fun k hk => ⟨hk, id⟩)
    go_wp2_with (first
      | ((with_reducible refine lst_load_mid 23 (.tmp 6) rfl w.heap.size 0 rfl (bs key) _ hK2.out u1.out rfl i1.out ?_ ?_)
         (focus rfl))
      | ((with_reducible refine lst_load_mid 26 (.tmp 8) rfl (w.heap.size + 1) 0 rfl (bs nonce) _ hN2.out u2.out rfl i2.out ?_ ?_)
         (focus rfl)))
    refine (Xor_any w2 key nonce ctr Hk.out Hn.out s2.out (fun k hk => by have := hz2.out; have hk : k < w.heap.size := hk; omega) (by have := Hc.out; omega)).mono ?_
    rintro e w3 ⟨A3, c3, rfl, hown3, hb3⟩
    obtain ⟨g3, cap3, hv3, _, _⟩ := hown3.form Hp.out
    injection hv3 with hA3 _ hc3
    subst hA3 hc3
    have s3 := Lib.hid (Sl.of_own hown3)
    have B3 : Hid (Below w.heap.size w w3) := hB2.out.trans (hb3.mono (by have := hz2.out; omega))
    have k3 : Hid (w3.rangeAt w.heap.size 0 (bs key)) := rangeAt_fr hK2.out (Fr.of_below (M := NoB) hb3) id (by have := hz2.out; omega)
    have n3 : Hid (w3.rangeAt (w.heap.size + 1) 0 (bs nonce)) := rangeAt_fr hN2.out (Fr.of_below (M := NoB) hb3) id (by have := hz2.out; omega)
    have z3 : Hid (w.heap.size + 2 ≤ w3.heap.size) := by have := hb3.size; have := hz2.out; show _ ≤ _; omega
    have b3 : Hid (Sl w3 (Old w) (some ad) n c b) := Hs.out.fr (Fr.of_below (M := NoB) B3.out) (fun k hk => ⟨hk, id⟩)
    clear hown3 hb3 hK2 hN2 hB2 hz2 s2
    go_wp2_with fail
    refine (CopyBytes_sl b3.out (fun k hk => by have := z3.out; have hk : k < w.heap.size := hk; omega) (by have := Hc.out; omega)).mono ?_
    rintro e w4 ⟨A4, c4, rfl, hown4, hb4⟩
    obtain ⟨g4, cap4, hv4, hg4, hg4l⟩ := hown4.form Hp.out
    injection hv4 with hA4 _ hc4
    subst hA4 hc4
    have hal : a < b.length := by have := Ha.out; have := HL.out; omega
    obtain ⟨v, hv⟩ : ∃ v, v = b[a] := ⟨_, rfl⟩
    have hcv : w4.cell? ⟨g4, a, none⟩ = some (.int .u8 (v.toNat : Int)) := by
      rw [hown4.cellAt a (by have := Ha.out; omega), bs_get b a hal, hv]; rfl
    have hfv := hown4.frozenAt a
    have hanI : (a : Int) < (n : Int) := by have := Ha.out; omega
    have ha0 : (0 : Int) ≤ (a : Int) := by omega
    obtain ⟨z, hz⟩ : ∃ z, z = v ^^^ u := ⟨_, rfl⟩
    have hxz := xor_byte v u
    rw [← hz] at hxz
    have Hz := Lib.hid hz; have Hv := Lib.hid hv; have Hal := Lib.hid hal
    have Ho4 := Lib.hid hown4; have Hb4 := Lib.hid hb4
    have Hg4 : Hid (w3.heap.size ≤ g4 ∧ g4 < w4.heap.size) := ⟨hg4, hg4l⟩
    clear hz hv hown4 hb4 hg4 hg4l
    have b35 : Hid (Below w3.heap.size w3 (w4.setCell ⟨g4, a, none⟩ (.int .u8 (z.toNat : Int)))) :=
      (((Fr.of_below (M := fun j => j = g4) Hb4.out)).setCell (p := ⟨g4, a, none⟩) (.inl rfl) _).to_below (fun i hi e => by have := Hg4.out; omega)
    have s5 : Hid ((w4.setCell ⟨g4, a, none⟩ (.int .u8 (z.toNat : Int))).ownsRow w3.heap.size 5 1 (.slice (some ⟨g4, 0, none⟩) n c4) n (bs (b.set a z))) := by
      have h := (Ho4.out.stored a (bv z)).1
      rw [bs_set] at h; exact h
    have k5 : Hid ((w4.setCell ⟨g4, a, none⟩ (.int .u8 (z.toNat : Int))).rangeAt w.heap.size 0 (bs key)) := rangeAt_fr k3.out (Fr.of_below (M := NoB) b35.out) id (by have := z3.out; omega)
    have n5 : Hid ((w4.setCell ⟨g4, a, none⟩ (.int .u8 (z.toNat : Int))).rangeAt (w.heap.size + 1) 0 (bs nonce)) := rangeAt_fr n3.out (Fr.of_below (M := NoB) b35.out) id (by have := z3.out; omega)
    go_wp2_with (first
      | ((with_reducible refine lst_load_mid 23 (.tmp 6) rfl w.heap.size 0 rfl (bs key) _ k5.out u1.out rfl i1.out ?_ ?_)
         (focus rfl))
      | ((with_reducible refine lst_load_mid 26 (.tmp 8) rfl (w.heap.size + 1) 0 rfl (bs nonce) _ n5.out u2.out rfl i2.out ?_ ?_)
         (focus rfl)))
    generalize (w4.setCell ⟨g4, a, none⟩ (.int .u8 (z.toNat : Int))) = w5 at b35 s5 k5 n5 ⊢
    have c5 := Lib.hid (Sl.of_own s5.out)
    clear hcv hfv hxz Ho4 Hb4 s5 k5 n5
    refine (Xor_any w5 key nonce ctr Hk.out Hn.out c5.out (fun k hk => hk.2.1) (by have := Hc.out; omega)).mono ?_
    rintro e w6 ⟨A6, c6, rfl, hown6, hb6⟩
    obtain ⟨g6, cap6, hv6, hg6, hg6l⟩ := hown6.form Hp.out
    injection hv6 with hA6 _ hc6
    subst hA6 hc6
    obtain ⟨L, hLL⟩ : ∃ L, L = xorP key ctr nonce b := ⟨_, rfl⟩
    obtain ⟨M, hM⟩ : ∃ M, M = xorP key ctr nonce (b.set a z) := ⟨_, rfl⟩
    rw [← hM] at hown6
    rw [← hLL] at s3
    have hMl : M.length = n := by rw [hM, xorP_len, List.length_set]; exact HL.out
    have hLl : L.length = n := by rw [hLL, xorP_len]; exact HL.out
    have haM : a < M.length := by have := Ha.out; omega
    obtain ⟨v6, hv6⟩ : ∃ v6, v6 = M[a] := ⟨_, rfl⟩
    have hcv : w6.cell? ⟨g6, a, none⟩ = some (.int .u8 (v6.toNat : Int)) := by
      rw [hown6.cellAt a (by have := Ha.out; omega), bs_get M a haM, hv6]; rfl
    have hfv := hown6.frozenAt a
    obtain ⟨z6, hz6⟩ : ∃ z6, z6 = v6 ^^^ u := ⟨_, rfl⟩
    have hxz := xor_byte v6 u
    rw [← hz6] at hxz
    have HM2 : Hid (M.set a z6 = L) := by
      have haL : a < L.length := by have := Ha.out; omega
      have e : M = L.set a (L[a] ^^^ u) := by
        rw [hM, Hz.out, Hv.out, xorP_set key nonce ctr b a hal u]
        subst hLL; rfl
      have h := xor_twice L a haL u
      show M.set a z6 = L
      rw [hz6, hv6]
      have e2 : M[a] = (L.set a (L[a] ^^^ u))[a]'(by rw [List.length_set]; exact haL) := by congr 1
      rw [e2]
      rw [e]
      exact h
    have HLL := Lib.hid hLL
    have HLl := Lib.hid hLl
    have b36 : Hid (Below w3.heap.size w3 w6) := b35.out.trans (hb6.mono b35.out.size)
    have b37 : Hid (Below w3.heap.size w3 (w6.setCell ⟨g6, a, none⟩ (.int .u8 (z6.toNat : Int)))) :=
      (((Fr.of_below (M := fun j => j = g6) b36.out)).setCell (p := ⟨g6, a, none⟩) (.inl rfl) _).to_below (fun i hi e => by have := b35.out.size; omega)
    have y7 : Hid ((w6.setCell ⟨g6, a, none⟩ (.int .u8 (z6.toNat : Int))).ownsRow w5.heap.size 5 1 (.slice (some ⟨g6, 0, none⟩) n c6) n (bs L)) := by
      have h := (hown6.stored a (bv z6)).1
      rw [bs_set, HM2.out] at h; exact h
    have hne : ((n : Int) != (n : Int)) = false := by simp
    clear hM hMl hLl haM hv6 hz6 hLL HM2 hown6 hb6 c5 Hz Hv
    go_wp2_with fail
    generalize (w6.setCell ⟨g6, a, none⟩ (.int .u8 (z6.toNat : Int))) = w7 at b37 y7 ⊢
    have k7 : Hid (w7.drew.rangeAt w.heap.size 0 (bs key)) := rangeAt_fr k3.out (Fr.of_below (M := NoB) (below_drewN b37.out 1)) id (by have := z3.out; omega)
    have n7 : Hid (w7.drew.rangeAt (w.heap.size + 1) 0 (bs nonce)) := rangeAt_fr n3.out (Fr.of_below (M := NoB) (below_drewN b37.out 1)) id (by have := z3.out; omega)
    have x7 : Hid (Sl w7.drew (fun k => w2.heap.size ≤ k ∧ k < w3.heap.size ∧ (Value.slice (some ⟨g3, 0, none⟩) n c3).ownBlock = some k) (some ⟨g3, 0, none⟩) n c3 L) := s3.out.fr (Fr.of_below (M := NoB) (below_drewN b37.out 1)) (fun k hk => ⟨hk.2.1, id⟩)
    have b7 : Hid (Sl w7.drew (Old w) (some ad) n c b) := b3.out.fr (Fr.of_below (M := NoB) (below_drewN b37.out 1)) (fun k hk => ⟨by have := z3.out; have hk : k < w.heap.size := hk; omega, id⟩)
    have z7 : Hid (w3.heap.size ≤ w7.drew.heap.size) := b37.out.size
    have b37d : Hid (Below w3.heap.size w3 w7.drew) := below_drewN b37.out 1
    have y7d := Lib.hid (Sl.of_own (show w7.drew.ownsRow w5.heap.size 5 1 (.slice (some ⟨g6, 0, none⟩) n c6) n (bs L) from y7.out))
    refine wp_calm ?_
    refine wp_region_os (fun i w' => match i with
      | 5 => w'.rangeAt w.heap.size 0 (bs key)
      | 7 => w'.rangeAt (w.heap.size + 1) 0 (bs nonce)
      | _ => True) [5, 7]
      (.move 0 (.move 1 (.run 2 [5, 7] (.move 3 (.move 4 (.take 5 (.move 6 (.take 7 (.move 8 (.move 9 (.move 10 (.move 12 (.move 13 (.move 14 (.run 11 [5, 7] (.run 15 [5, 7] (.move 16 (.move 17 .done)))))))))))))))))) (by kernel_rfl) (by kernel_rfl) (fun _ _ _ _ _ h => nomatch h.1) ?_
    iterate 2 (
      refine os_move rfl rfl rfl (Nat.le_of_ble_eq_true rfl) ?_
      apply Exists.intro
      refine ⟨fun w' K hK => ?_, ?_⟩
      (focus
        go_simp
        exact hK))
    refine os_run rfl rfl (fun K hK => ?_)
    go_wp2_with fail
    refine (Same_at x7.out y7d.out (by have := Hc.out; omega) (by have := Hc.out; omega) true (by simp)).mono ?_
    rintro e w8 ⟨rfl, x, hw8⟩
    have k8 : Hid (w8.rangeAt w.heap.size 0 (bs key)) := by rw [hw8]; exact k7.out
    have n8 : Hid (w8.rangeAt (w.heap.size + 1) 0 (bs nonce)) := by rw [hw8]; exact n7.out
    have x8 : Hid (Sl w8 (fun k => w2.heap.size ≤ k ∧ k < w3.heap.size ∧ (Value.slice (some ⟨g3, 0, none⟩) n c3).ownBlock = some k) (some ⟨g3, 0, none⟩) n c3 L) := by
      rw [hw8]; exact x7.out.fr (Fr.of_below (M := NoB) (below_drewN (Below.refl _ _) x)) (fun k hk => ⟨by have := z7.out; omega, id⟩)
    have b8 : Hid (Sl w8 (Old w) (some ad) n c b) := by
      rw [hw8]; exact b7.out.fr (Fr.of_below (M := NoB) (below_drewN (Below.refl _ _) x)) (fun k hk => ⟨by have := z7.out; have := z3.out; have hk : k < w.heap.size := hk; omega, id⟩)
    have b38 : Hid (Below w3.heap.size w3 w8) := by rw [hw8]; exact below_drewN b37d.out x
    have z8 : Hid (w3.heap.size ≤ w8.heap.size) := b38.out.size
    have hkeep : Hid (∀ k ∈ [5, 7], (match k with
      | 5 => w7.drew.rangeAt w.heap.size 0 (bs key)
      | 7 => w7.drew.rangeAt (w.heap.size + 1) 0 (bs nonce)
      | _ => True) → (match k with
      | 5 => w8.rangeAt w.heap.size 0 (bs key)
      | 7 => w8.rangeAt (w.heap.size + 1) 0 (bs nonce)
      | _ => True)) := by rw [hw8]; exact fun _ _ h => h
    clear hw8 k7 n7 x7 b7 z7 b37d y7d b37 y7
    go_wp2_with fail
    refine ⟨hkeep.out, ?_⟩
    clear hkeep
    iterate 2 (
      refine os_move rfl rfl rfl (Nat.le_of_ble_eq_true rfl) ?_
      apply Exists.intro
      refine ⟨fun w' K hK => ?_, ?_⟩
      (focus
        go_simp
        exact hK))
    refine os_load_mid 23 (.tmp 6) w.heap.size 0 (bs key) _ k8.out rfl rfl rfl rfl rfl u1.out rfl i1.out (fun w' h => h) ⟨_, rfl, ?_⟩
    refine os_moveg rfl rfl rfl (Nat.le_of_ble_eq_true rfl) ?_
    apply Exists.intro
    refine ⟨fun w' K hK => ?_, ?_⟩
    (focus
      go_simp
      exact hK)
    refine os_load_mid 26 (.tmp 8) (w.heap.size + 1) 0 (bs nonce) _ n8.out rfl rfl rfl rfl rfl u2.out rfl i2.out (fun w' h => h) ⟨_, rfl, ?_⟩
    have hac : a ≤ c := by have := b8.out.cap; have := Ha.out; omega
    have hac3 : a ≤ c3 := by have := x8.out.cap; have := Ha.out; omega
    iterate 6 (
      refine os_moveg rfl rfl rfl (Nat.le_of_ble_eq_true rfl) ?_
      apply Exists.intro
      refine ⟨fun w' K hK => ?_, ?_⟩
      (focus
        go_simp
        exact hK))
    refine os_run rfl rfl (fun K hK => ?_)
    have tb : Hid (Sl w8 (Old w) (some ad) a c (b.take a)) := by
      have h : Sl w8 (Old w) (some ad) n c (b.take a ++ b.drop a) := by rw [List.take_append_drop]; exact b8.out
      exact h.take_ (by rw [List.length_take]; have := HL.out; have := Ha.out; omega)
    go_wp2_with fail
    refine (Xor_any w8 key nonce ctr Hk.out Hn.out tb.out (fun k hk => by have := z8.out; have := z3.out; have hk : k < w.heap.size := hk; omega) (by have := Hc.out; have := Ha.out; omega)).mono ?_
    rintro e w9 ⟨A9, c9, rfl, hown9, hb9⟩
    rw [xorP_take, ← HLL.out] at hown9
    have b39 : Hid (Below w3.heap.size w3 w9) := b38.out.trans (hb9.mono z8.out)
    have k9 : Hid (w9.rangeAt w.heap.size 0 (bs key)) := rangeAt_fr k3.out (Fr.of_below (M := NoB) b39.out) id (by have := z3.out; omega)
    have n9 : Hid (w9.rangeAt (w.heap.size + 1) 0 (bs nonce)) := rangeAt_fr n3.out (Fr.of_below (M := NoB) b39.out) id (by have := z3.out; omega)
    have x9 : Hid (Sl w9 (fun k => w2.heap.size ≤ k ∧ k < w3.heap.size ∧ (Value.slice (some ⟨g3, 0, none⟩) n c3).ownBlock = some k) (some ⟨g3, 0, none⟩) n c3 L) := s3.out.fr (Fr.of_below (M := NoB) b39.out) (fun k hk => ⟨hk.2.1, id⟩)
    have s9 := Lib.hid (Sl.of_own hown9)
    have tx : Hid (Sl w9 (fun k => w2.heap.size ≤ k ∧ k < w3.heap.size ∧ (Value.slice (some ⟨g3, 0, none⟩) n c3).ownBlock = some k) (some ⟨g3, 0, none⟩) a c3 (L.take a)) := by
      have h : Sl w9 (fun k => w2.heap.size ≤ k ∧ k < w3.heap.size ∧ (Value.slice (some ⟨g3, 0, none⟩) n c3).ownBlock = some k) (some ⟨g3, 0, none⟩) n c3 (L.take a ++ L.drop a) := by rw [List.take_append_drop]; exact x9.out
      exact h.take_ (by rw [List.length_take]; have := HLl.out; have := Ha.out; omega)
    go_wp2_with fail
    refine ⟨fun i hi h => ?_, ?_⟩
    · simp only [List.mem_cons, List.not_mem_nil, or_false] at hi
      rcases hi with rfl | rfl
      · exact k9.out
      · exact n9.out
    clear tb x8 b8 b38 z8 k8 n8 hown9 hb9
    refine os_run rfl rfl (fun K hK => ?_)
    go_wp2_with fail
    refine (Same_at s9.out tx.out (by have := Hc.out; have := Ha.out; omega) (by have := Hc.out; have := Ha.out; omega) true (by simp)).mono ?_
    rintro e w10 ⟨rfl, x, hw10⟩
    have b310 : Hid (Below w3.heap.size w3 w10) := by rw [hw10]; exact below_drewN b39.out x
    have k10 : Hid (w10.rangeAt w.heap.size 0 (bs key)) := rangeAt_fr k3.out (Fr.of_below (M := NoB) b310.out) id (by have := z3.out; omega)
    have n10 : Hid (w10.rangeAt (w.heap.size + 1) 0 (bs nonce)) := rangeAt_fr n3.out (Fr.of_below (M := NoB) b310.out) id (by have := z3.out; omega)
    clear hw10 s9 tx x9 b39 k9 n9
    go_wp2_with fail
    refine ⟨fun i hi h => ?_, ?_⟩
    · simp only [List.mem_cons, List.not_mem_nil, or_false] at hi
      rcases hi with rfl | rfl
      · exact k10.out
      · exact n10.out
    refine os_moveg rfl rfl rfl (Nat.le_of_ble_eq_true rfl) ?_
    apply Exists.intro
    refine ⟨fun w' K hK => ?_, ?_⟩
    (focus
      go_simp
      exact hK)
    refine os_move rfl rfl rfl (Nat.le_of_ble_eq_true rfl) ?_
    apply Exists.intro
    refine ⟨fun w' K hK => ?_, ?_⟩
    (focus
      go_simp
      exact hK)
    refine os_done ⟨rfl, ?_⟩
    have hnB : (n : Int) ≤ 8192 := by have := Hc.out; omega
    go_wp2_with fail
    clear hnB
    obtain ⟨q, hq⟩ : ∃ q, q = a / 64 := ⟨_, rfl⟩
    obtain ⟨p, hp⟩ : ∃ p, p = 64 * q := ⟨_, rfl⟩
    have hdiv : (a : Int) / 64 = (q : Int) := by omega
    rw [hdiv]
    have hpa : p ≤ a := by omega
    have hq9 : q ≤ 8192 := by have := Hc.out; have := Ha.out; omega
    have hconv : IntKind.u32.wrap (q : Int) = (q : Int) := by rw [wrap_u32]; omega
    have hadd : IntKind.u32.wrap (wv ctr + (q : Int)) = wv (ctr + BitVec.ofNat 32 q) := by
      have := add32 ctr (BitVec.ofNat 32 q)
      rw [wv_ofNat (show q < 4294967296 by omega)] at this
      rw [wrap_u32, this]
    have hmul : IntKind.i64.wrap (64 * (q : Int)) = (p : Int) := by rw [wrap64_id _ (by omega) (by omega)]; omega
    have hpn : p ≤ n := by have := Ha.out; omega
    have hpc : ¬ c = p := by have := Ha.out; have := Hs.out.cap; omega
    have hpc3 : ¬ c3 = p := by have := Ha.out; have := s3.out.cap; omega
    have Hpq : Hid (p = 64 * q) := hp
    have Hpn := Lib.hid hpn
    clear hdiv hp hq hq9 hac hac3 hpa
    have kd : Hid (w10.drew.rangeAt w.heap.size 0 (bs key)) := k10.out
    have nd : Hid (w10.drew.rangeAt (w.heap.size + 1) 0 (bs nonce)) := n10.out
    have b311 : Hid (Below w3.heap.size w3 w10.drew) := below_drewN b310.out 1
    clear k10 n10 b310
    refine wp_calm ?_
    refine wp_region_os (fun i w' => match i with
      | 0 => w'.rangeAt w.heap.size 0 (bs key)
      | 5 => w'.rangeAt (w.heap.size + 1) 0 (bs nonce)
      | _ => True) [0, 5]
      (.take 0 (.move 1 (.move 2 (.move 3 (.move 4 (.take 5 (.move 6 (.move 7 (.move 8 (.move 9 (.move 11 (.move 12 (.move 13 (.move 14 (.run 10 [0, 5] (.run 15 [0, 5] (.move 16 (.run 17 [0, 5] (.move 18 (.move 19 .done)))))))))))))))))))) (by kernel_rfl) (by kernel_rfl) (fun _ _ _ _ _ h => nomatch h.1) ?_
    refine os_load_mid 23 (.tmp 6) w.heap.size 0 (bs key) _ kd.out rfl rfl rfl rfl rfl u1.out rfl i1.out (fun w' h => h) ⟨_, rfl, ?_⟩
    iterate 4 (
      refine os_move rfl rfl rfl (Nat.le_of_ble_eq_true rfl) ?_
      apply Exists.intro
      refine ⟨fun w' K hK => ?_, ?_⟩
      (focus
        go_simp
        exact hK))
    refine os_load_mid 26 (.tmp 8) (w.heap.size + 1) 0 (bs nonce) _ nd.out rfl rfl rfl rfl rfl u2.out rfl i2.out (fun w' h => h) ⟨_, rfl, ?_⟩
    iterate 3 (
      refine os_move rfl rfl rfl (Nat.le_of_ble_eq_true rfl) ?_
      apply Exists.intro
      refine ⟨fun w' K hK => ?_, ?_⟩
      (focus
        go_simp
        exact hK))
    iterate 5 (
      refine os_move rfl rfl rfl (Nat.le_of_ble_eq_true rfl) ?_
      apply Exists.intro
      refine ⟨fun w' K hK => ?_, ?_⟩
      (focus
        go_simp
        exact hK))
    refine os_run rfl rfl (fun K hK => ?_)
    have b10 : Hid (Sl w10.drew (Old w) (some ad) n c b) := b3.out.fr (Fr.of_below (M := NoB) b311.out) (fun k hk => ⟨by have := z3.out; have hk : k < w.heap.size := hk; omega, id⟩)
    have db : Hid (Sl w10.drew (Old w) (some (ad.add p)) (n - p) (c - p) (b.drop p)) := b10.out.drop_ Hpn.out (.inr rfl)
    go_wp2_with fail
    refine (Xor_any w10.drew key nonce (ctr + BitVec.ofNat 32 q) Hk.out Hn.out db.out (fun k hk => by have := b311.out.size; have := z3.out; have hk : k < w.heap.size := hk; omega) (by have := Hc.out; omega)).mono ?_
    rintro e w11 ⟨A11, c11, rfl, hown11, hb11⟩
    rw [Hpq.out, xorP_drop, ← HLL.out, ← Hpq.out] at hown11
    have s11 := Lib.hid (Sl.of_own hown11)
    have b312 : Hid (Below w3.heap.size w3 w11) := b311.out.trans (hb11.mono b311.out.size)
    have x11 : Hid (Sl w11 (fun k => w2.heap.size ≤ k ∧ k < w3.heap.size ∧ (Value.slice (some ⟨g3, 0, none⟩) n c3).ownBlock = some k) (some ⟨g3, 0, none⟩) n c3 L) := s3.out.fr (Fr.of_below (M := NoB) b312.out) (fun k hk => ⟨hk.2.1, id⟩)
    have dx : Hid (Sl w11 (fun k => w2.heap.size ≤ k ∧ k < w3.heap.size ∧ (Value.slice (some ⟨g3, 0, none⟩) n c3).ownBlock = some k) (some ⟨g3, p, none⟩) (n - p) (c3 - p) (L.drop p)) := by
      have h := x11.out.drop_ (A' := some ⟨g3, p, none⟩) Hpn.out (.inr (by show _ = some ((⟨g3, 0, none⟩ : Addr).add p); rw [addr_add_zero, Nat.zero_add]))
      exact h
    have k11 : Hid (w11.rangeAt w.heap.size 0 (bs key)) := rangeAt_fr k3.out (Fr.of_below (M := NoB) b312.out) id (by have := z3.out; omega)
    have n11 : Hid (w11.rangeAt (w.heap.size + 1) 0 (bs nonce)) := rangeAt_fr n3.out (Fr.of_below (M := NoB) b312.out) id (by have := z3.out; omega)
    clear hown11 hb11 x11 b10 db b311 kd nd
    go_wp2_with fail
    refine ⟨fun i hi h => ?_, ?_⟩
    · simp only [List.mem_cons, List.not_mem_nil, or_false] at hi
      rcases hi with rfl | rfl
      · exact k11.out
      · exact n11.out
    refine os_run rfl rfl (fun K hK => ?_)
    go_wp2_with fail
    refine (Same_at s11.out dx.out (by have := Hc.out; omega) (by have := Hc.out; omega) true (by simp)).mono ?_
    rintro e w12 ⟨rfl, x, hw12⟩
    have b313 : Hid (Below w3.heap.size w3 w12) := by rw [hw12]; exact below_drewN b312.out x
    have k12 : Hid (w12.rangeAt w.heap.size 0 (bs key)) := rangeAt_fr k3.out (Fr.of_below (M := NoB) b313.out) id (by have := z3.out; omega)
    have n12 : Hid (w12.rangeAt (w.heap.size + 1) 0 (bs nonce)) := rangeAt_fr n3.out (Fr.of_below (M := NoB) b313.out) id (by have := z3.out; omega)
    clear hw12 s11 dx b312 k11 n11
    go_wp2_with fail
    refine ⟨fun i hi h => ?_, ?_⟩
    · simp only [List.mem_cons, List.not_mem_nil, or_false] at hi
      rcases hi with rfl | rfl
      · exact k12.out
      · exact n12.out
    refine os_move rfl rfl rfl (Nat.le_of_ble_eq_true rfl) ?_
    apply Exists.intro
    refine ⟨fun w' K hK => ?_, ?_⟩
    (focus
      go_simp
      exact hK)
    refine os_run rfl rfl (fun K hK => ?_)
    go_wp2_with fail
    refine (works_any _).mono ?_
    rintro e w13 ⟨rfl, hb13⟩
    have b314 : Hid (Below w3.heap.size w3 w13) := b313.out.trans (hb13.mono b313.out.size)
    have k13 : Hid (w13.rangeAt w.heap.size 0 (bs key)) := rangeAt_fr k3.out (Fr.of_below (M := NoB) b314.out) id (by have := z3.out; omega)
    have n13 : Hid (w13.rangeAt (w.heap.size + 1) 0 (bs nonce)) := rangeAt_fr n3.out (Fr.of_below (M := NoB) b314.out) id (by have := z3.out; omega)
    clear hb13
    go_wp2_with fail
    refine ⟨fun i hi h => ?_, ?_⟩
    · simp only [List.mem_cons, List.not_mem_nil, or_false] at hi
      rcases hi with rfl | rfl
      · exact k13.out
      · exact n13.out
    iterate 2 (
      refine os_move rfl rfl rfl (Nat.le_of_ble_eq_true rfl) ?_
      apply Exists.intro
      refine ⟨fun w' K hK => ?_, ?_⟩
      (focus
        go_simp
        exact hK))
    refine os_done ⟨rfl, ?_⟩
    go_wp2_with fail
    go_ret
    exact ⟨rfl, B3.out.trans (b314.out.mono B3.out.size)⟩
theorem ChachaPlacesW_any (w : World) (key : List UInt8) (hk : key.length = 32) (ctr : Int) (hc : (Lit.int .u32 ctr).wf = true) (nonce : List UInt8) (hn : nonce.length = 12) {A : Option Addr} {n c : Nat} {l : List UInt8} (hs : Sl w (Old w) A n c l) (hb : n ≤ 140737488355000) (at_ : Int) (_ : (Lit.int .i64 at_).wf = true) (z : Int) (hz : (Lit.int .u8 z).wf = true) :
    Calls Try.prog 6 #[.agg (bs key).toArray, .int .u32 ctr, .agg (bs nonce).toArray, .slice A n c, .int .i64 at_, .int .u8 z] w fun e w' => e = .returned (.bool true) ∧ Below w.heap.size w w' := by
  have h := ChachaPlaces_any w key nonce (BitVec.ofInt 32 ctr) hk hn hs hb at_ (UInt8.ofNat z.toNat)
  rw [← word_of_wf hc, byte_of_wf hz] at h
  exact h
end Go.Proofs.Ytobbcnajmocpfaa
