/- FrameTurned's walk. -/
import Derived.Test.YtmdnlgfngpgfnaaDoorFr6
import Derived.Test.YtmdnlgfngpgfnaaDoorFr14
import Derived.Test.YtmdnlgfngpgfnaaDoorFr7
import Derived.OpenShut
namespace Go.Proofs.YtmdnlgfngpgfnaaDoor
open Go.RowKit

theorem odd_wv2 (y : BitVec 32) : (wv y).tmod 2 = ((y.toNat % 2 : Nat) : Int) := (Int.ofNat_tmod _ _).symm
theorem or32 (a b : BitVec 32) : bits .or .u32 (wv a) (wv b) = wv (a ||| b) := by
  show IntKind.u32.wrap ((BitVec.ofInt _ _ ||| BitVec.ofInt _ _).toNat : Int) = _
  rw [ofInt_wv, ofInt_wv]
  exact wrap_wv _
/-- the bits that are turned in the first i rounds -/
def fI (A E : Nat) (y : BitVec 32) (i : Nat) (p : Nat) : Bool := decide (A ≤ p ∧ p < A + i ∧ p < E) && y.getLsbD (p - A)
theorem fI_zero (A E : Nat) (y : BitVec 32) : fI A E y 0 = fun _ => false := by
  funext p
  unfold fI
  rw [decide_eq_false (by omega)]; rfl
theorem xorl_pat_zero (l : List UInt8) {n : Nat} (h : l.length = n) : xorl l (pat (fun _ => false) n) = l := by
  rw [pat_zero _ n (fun _ _ => rfl), xorl_zero l n h]
theorem fI_same (A E : Nat) (y : BitVec 32) (k : Nat) (h : y.getLsbD k = false) : fI A E y (k + 1) = fI A E y k := by
  funext p
  unfold fI
  by_cases hp : p = A + k
  · subst hp
    rw [show A + k - A = k by omega, h]; simp
  · congr 1
    rw [decide_eq_decide]; omega
theorem fI_more (A E : Nat) (y : BitVec 32) (k : Nat) (h : y.getLsbD k = true) (hE : A + k < E) : fI A E y (k + 1) = more1 (fI A E y k) (A + k) := by
  funext p
  unfold fI more1
  by_cases hp : p = A + k
  · subst hp
    rw [show A + k - A = k by omega, h, decide_eq_true (by omega)]; simp
  · have e : (p == A + k) = false := by simpa using hp
    rw [e, Bool.or_false]
    congr 1
    rw [decide_eq_decide]; omega
theorem tbit (y : BitVec 32) (k : Nat) : ((wv y / 2 ^ k).tmod 2 == 1) = y.getLsbD k := by
  have e1 : wv y / 2 ^ k = ((y.toNat / 2 ^ k : Nat) : Int) := by simp [wv]
  have e2 : ((y.toNat / 2 ^ k : Nat) : Int).tmod 2 = ((y.toNat / 2 ^ k % 2 : Nat) : Int) := (Int.ofNat_tmod _ _).symm
  rw [e1, e2]
  show _ = y.toNat.testBit k
  rw [Nat.testBit_eq_decide_div_mod_eq, Bool.eq_iff_iff]
  simp only [beq_iff_eq, decide_eq_true_eq]
  omega
theorem xorl_len2 {l : List UInt8} {n : Nat} (f : Nat → Bool) (h : l.length = n) : (xorl l (pat f n)).length = n := by
  rw [xorl_len _ _ (by rw [pat_len, h]), h]
theorem fI_at (A E : Nat) (y : BitVec 32) (k : Nat) : fI A E y k (A + k) = false := by
  unfold fI
  rw [decide_eq_false (by omega)]; rfl
theorem bs_set (l : List UInt8) (j : Nat) (u : UInt8) : bs (l.set j u) = (bs l).set j (bv u) := by simp [bs, List.map_set]
theorem xor_pow (u : UInt8) {T : Nat} (h : T < 8) : bits .xor .u8 (u.toNat : Int) (2 ^ T % 256) = ((u ^^^ UInt8.ofNat (2 ^ T)).toNat : Int) := by
  rw [← xor_byte]
  match T, h with
  | 0, _ => rfl
  | 1, _ => rfl
  | 2, _ => rfl
  | 3, _ => rfl
  | 4, _ => rfl
  | 5, _ => rfl
  | 6, _ => rfl
  | 7, _ => rfl
theorem turned_no (k0 : UInt8) (body : List UInt8) {n : Nat} (hl : body.length = n) (hn : n ≤ 2039) (A E : Nat) (y : BitVec 32) (k : Nat) (hk : k ≤ 32) (hend : 32 ≤ k ∨ E ≤ A + k)
    (hreg : A < E ∧ E ≤ 8 * (n + 9) ∧ (E ≤ 8 ∨ (40 ≤ A ∧ E ≤ 8 * (5 + n)) ∨ 8 * (5 + n) ≤ A)) (hy : y.getLsbD 0 = true) : (getP (xorl (frameB k0 body) (pat (fI A E y k) (n + 9)))).e ≠ 0 := by
  subst hl
  refine get_turned k0 body hn (fI A E y k) A (min k (E - A)) (by omega) (by omega) ?_ ?_ ?_ (by omega)
  · unfold fI
    rw [decide_eq_true (by omega), Nat.sub_self, hy]; rfl
  · intro p hp
    unfold fI
    rw [decide_eq_false (by omega)]; rfl
  · intro p hp
    unfold fI
    rw [decide_eq_false (by omega)]; rfl
set_option maxRecDepth 100000 in
set_option maxHeartbeats 2000000 in
theorem FrameTurned_any (w : World) (hS : Steps w) (kind : Int) (_ : (Lit.int .i64 kind).wf = true) (A1 : Option Addr) (n c1 : Nat) (body : List UInt8) (h1 : Sl w (Old w) A1 n c1 body) (b1 : n ≤ 140737488355000)
    (at0 : Int) (_ : (Lit.int .i64 at0).wf = true) (bt : Int) (hbt : (Lit.int .u32 bt).wf = true) :
    Calls Tryd.prog 5 #[.int .i64 kind, .slice A1 n c1, .int .i64 at0, .int .u32 bt] w fun e w' => e = .returned (.bool true) ∧ Below w.heap.size w w' := by
  have HS := Lib.hid hS; have H1 := Lib.hid h1; have L1 := Lib.hid h1.len
  clear hS h1
  obtain ⟨x, rfl⟩ : ∃ x : BitVec 32, bt = wv x := ⟨BitVec.ofNat 32 bt.toNat, by
    have := Go.bounds_u32 hbt
    rw [wv_ofNat (by omega)]; omega⟩
  have hkp : ∃ kn : Nat, (if (255 : Int) < 1 then 0 else kind % 255) = (kn : Int) ∧ kn < 255 := ⟨(kind % 255).toNat, by rw [if_neg (by decide)]; omega⟩
  obtain ⟨kn, hkp, hkn⟩ := hkp
  have Hkp := Lib.hid hkp
  clear hkp
  have Hkn := Lib.hid hkn
  by_cases hlong : 2039 < n
  · have hE : putE (1 + (kn : Int)) n = 5 := by unfold putE; rw [if_neg (by omega), if_pos hlong]
    have HE := Lib.hid hE
    clear hE
    go_enter Tryd.func5, Tryd.ntmps5
    clear hkn hlong
    go_wp2_with fail
    refine (Pick_any kind 255 w (by omega)).mono ?_
    rintro e w' ⟨rfl, rfl⟩
    rw [Hkp.out]
    have hkI : (kn : Int) < 255 := by have := Hkn.out; omega
    go_wp2_with fail
    refine (Put_any HS.out (1 + (kn : Int)) H1.out (fun k hk => hk) (by omega)).mono ?_
    rintro e w1 ⟨A3, n3, c3, rfl, hown3, hb3⟩
    rw [HE.out]
    have Hb3 := Lib.hid hb3
    have HS3 := Lib.hid (HS.out.below hb3 HS.out.pos)
    clear hown3 hb3
    go_wp2_with (go_at_call 11
                 (with_reducible refine (works_any w1 HS3.out).mono ?_)
                 rintro e w9 ⟨rfl, hb9⟩)
    all_goals
      go_ret
      exact ⟨rfl, Hb3.out.trans (hb9.mono Hb3.out.size)⟩
  · have hn : n ≤ 2039 := by omega
    have hE : putE (1 + (kn : Int)) n = 0 := by unfold putE; rw [if_neg (by omega), if_neg (by omega)]
    have hB : putB (1 + (kn : Int)) body = frameB (UInt8.ofNat (1 + kn)) body := by
      unfold putB
      rw [L1.out, hE, if_pos rfl, show (1 + (kn : Int)).toNat = 1 + kn by omega]
    have HE := Lib.hid hE; have HB := Lib.hid hB
    have hfl : Hid ((frameB (UInt8.ofNat (1 + kn)) body).length = n + 9) := by show _ = _; rw [frameB_len, L1.out]
    have Hn := Lib.hid hn
    clear hE hB hkn hlong hn
    go_enter Tryd.func5, Tryd.ntmps5
    go_wp2_with fail
    refine (Pick_any kind 255 w (by omega)).mono ?_
    rintro e w' ⟨rfl, rfl⟩
    rw [Hkp.out]
    have hkI : (kn : Int) < 255 := by have := Hkn.out; omega
    go_wp2_with fail
    refine (Put_any HS.out (1 + (kn : Int)) H1.out (fun k hk => hk) (by omega)).mono ?_
    rintro e w1 ⟨A3, n3, c3, rfl, hown3, hb3⟩
    rw [HE.out]
    rw [HB.out] at hown3
    have hn3 : n3 = n + 9 := by have h := hown3.1; rw [bs_length, hfl.out] at h; omega
    subst hn3
    have Hb3 := Lib.hid hb3; have Ho3 := Lib.hid hown3
    have HS3 := Lib.hid (HS.out.below hb3 HS.out.pos)
    have hz1 := hb3.size
    have hnI : (n : Int) ≤ 2039 := by have := Hn.out; omega
    clear hown3 hb3 b1
    go_wp2_with fail
    have hpa : ∃ a1 : Nat, (if (8 * ((n : Int) + 9 - 5)) < 1 then 0 else at0 % (8 * ((n : Int) + 9 - 5))) = (a1 : Int) ∧ a1 < 8 * (n + 4) := ⟨(at0 % (8 * ((n : Int) + 9 - 5))).toNat, by
      rw [if_neg (by omega)]
      have g1 := Int.emod_nonneg at0 (show (8 * ((n : Int) + 9 - 5)) ≠ 0 by omega)
      have g2 := Int.emod_lt_of_pos at0 (show (0 : Int) < 8 * ((n : Int) + 9 - 5) by omega)
      omega⟩
    obtain ⟨a1, hpa, ha1⟩ := hpa
    refine (Pick_any at0 _ w1 (by omega)).mono ?_
    rintro e w' ⟨rfl, rfl⟩
    rw [hpa]
    have Ha1 := Lib.hid ha1
    clear hpa ha1
    have ha1I : (a1 : Int) < 20000 := by have := Ha1.out; omega
    have hmd2 : (wv x).tmod 2 = ((x.toNat % 2 : Nat) : Int) := odd_wv2 x
    go_wp2_with fail
    have hp8 : ∃ p : Nat, (if (8 : Int) < 1 then 0 else (40 + (a1 : Int)) % 8) = (p : Int) ∧ p < 8 := ⟨((40 + (a1 : Int)) % 8).toNat, by rw [if_neg (by decide)]; omega⟩
    obtain ⟨A, hp8, hp⟩ := hp8
    refine (Pick_any (40 + (a1 : Int)) 8 w1 (by omega)).mono ?_
    rintro e w' ⟨rfl, rfl⟩
    rw [hp8]
    clear hp8
    have hpI : (A : Int) < 8 := by omega
    go_wp2_with fail
    obtain ⟨E, hE⟩ : ∃ E : Nat, E = 8 := ⟨8, rfl⟩
    rw [show Value.int .i64 8 = Value.int .i64 (E : Int) by rw [hE]; rfl]
    have hreg := Lib.hid (show A < E ∧ E ≤ 8 * (n + 9) ∧ (E ≤ 8 ∨ (40 ≤ A ∧ E ≤ 8 * (5 + n)) ∨ 8 * (5 + n) ≤ A) by omega)
    clear hE hp hpI
    rotate_left
    obtain ⟨A, hA⟩ : ∃ A : Nat, 40 + (a1 : Int) = (A : Int) := ⟨40 + a1, by omega⟩
    obtain ⟨E, hE⟩ : ∃ E : Nat, 8 * (5 + (n : Int)) = (E : Int) := ⟨8 * (5 + n), by omega⟩
    have h1 := Ha1.out
    have hreg := Lib.hid (show A < E ∧ E ≤ 8 * (n + 9) ∧ (E ≤ 8 ∨ (40 ≤ A ∧ E ≤ 8 * (5 + n)) ∨ 8 * (5 + n) ≤ A) by omega)
    rw [hA, hE]
    clear hA hE h1
    rotate_left
    obtain ⟨A, hA⟩ : ∃ A : Nat, 40 + (a1 : Int) = (A : Int) := ⟨40 + a1, by omega⟩
    obtain ⟨E, hE⟩ : ∃ E : Nat, 8 * ((n : Int) + 9) = (E : Int) := ⟨8 * (n + 9), by omega⟩
    have h1 := Ha1.out
    have hreg := Lib.hid (show A < E ∧ E ≤ 8 * (n + 9) ∧ (E ≤ 8 ∨ (40 ≤ A ∧ E ≤ 8 * (5 + n)) ∨ 8 * (5 + n) ≤ A) by omega)
    rw [hA, hE]
    clear hA hE h1
    rotate_left
    all_goals
      clear ha1I Ha1 hmd2
      have Sb := Lib.hid (Sl.of_own Ho3.out)
      refine (CopyBytes_sl Sb.out (fun k hk => hk.2.1) (by have := Hn.out; omega)).mono ?_
      rintro e w2 ⟨A4, c4, rfl, hown4, hb4⟩
      have Hb4 := Lib.hid hb4
      have Ho4 := Lib.hid hown4
      have hz2 := hb4.size
      clear hb4 hown4
      have hor : bits .or .u32 (wv x) 1 = wv (x ||| 1#32) := or32 x 1#32
      have hy0 := Lib.hid (show (x ||| 1#32).getLsbD 0 = true by simp)
      generalize x ||| 1#32 = y at hor hy0
      go_wp2_with fail
      clear hor
      have hAE : A < 16400 := by have := Hn.out; have := hreg.out; omega
      have hE2 : E ≤ 16400 := by have := Hn.out; have := hreg.out; omega
      go_loopw [13] (fun i w' => ∃ k : Nat, k ≤ 32 ∧ i = .int .i64 (k : Nat) ∧ w'.ownsRow w1.heap.size 5 1 (.slice A4 (n + 9) c4) (n + 9) (bs (xorl (frameB (UInt8.ofNat (1 + kn)) body) (pat (fI A E y k) (n + 9)))) ∧ Hid (Below w1.heap.size w1 w')) (fun i _ => 32 - (intOf i).toNat)
      case atStart => exact ⟨0, by omega, rfl, by rw [fI_zero, xorl_pat_zero _ hfl.out]; exact Ho4.out, Hb4.out⟩
      case round =>
        obtain ⟨k, hk, rfl, hown, hbw⟩ := hrel
        have Hown := Lib.hid hown; clear hown
        by_cases hlt : k < 32 ∧ A + k < E
        · obtain ⟨h32, hAk⟩ := hlt
          have h32I : (k : Int) < 32 := by omega
          have hAkI : (A : Int) + (k : Int) < (E : Int) := by omega
          by_cases hbit : y.getLsbD k = true
          · have htb : ((wv y / 2 ^ k).tmod 2 == 1) = true := by rw [tbit, hbit]
            have hlen := xorl_len2 (fI A E y k) hfl.out
            obtain ⟨J, T, hJ, hT, hT8, hJT⟩ : ∃ J T : Nat, ((A : Int) + (k : Int)) / 8 = (J : Int) ∧ ((A : Int) + (k : Int)) % 8 = (T : Int) ∧ T < 8 ∧ A + k = 8 * J + T := ⟨(A + k) / 8, (A + k) % 8, by omega, by omega, by omega, by omega⟩
            have hJn : J < n + 9 := by have := hreg.out; omega
            obtain ⟨g, cap, hv, hg1, hg2⟩ := Hown.out.form (by omega)
            injection hv with hA1 _ hc1
            subst hA1 hc1
            have Hlen := Lib.hid hlen
            clear hlen
            obtain ⟨u, hu⟩ : ∃ u, (xorl (frameB (UInt8.ofNat (1 + kn)) body) (pat (fI A E y k) (n + 9)))[J]? = some u := ⟨_, List.getElem?_eq_getElem (by rw [Hlen.out]; exact hJn)⟩
            have hcell : wr.cell? ⟨g, J, none⟩ = some (.int .u8 (u.toNat : Int)) := by
              rw [Hown.out.cellAt J (by omega)]; simp only [bs, List.getElem?_map, hu]; rfl
            have hfz := Hown.out.frozenAt J
            have hJI : (J : Int) < (n : Int) + 9 := by omega
            have hJ0 : (0 : Int) ≤ (J : Int) := by omega
            have Hu := Lib.hid hu; have HJT := Lib.hid hJT
            have Hbit := Lib.hid hbit
            have hz2' := hbw.out.size
            clear hu hJT hbit
            have hT8I : (T : Int) < 8 := by omega
            go_wp2_with fail
            obtain ⟨s1, s2⟩ := Hown.out.stored J (.int .u8 (bits .xor .u8 (u.toNat : Int) (2 ^ T % 256)))
            have hst : (xorl (frameB (UInt8.ofNat (1 + kn)) body) (pat (fI A E y k) (n + 9))).set J (u ^^^ UInt8.ofNat (2 ^ T)) = xorl (frameB (UInt8.ofNat (1 + kn)) body) (pat (fI A E y (k + 1)) (n + 9)) := by
              rw [turn_set _ _ _ J T hfl.out hJn hT8 (by rw [← HJT.out]; exact fI_at A E y k) u Hu.out, fI_more A E y k Hbit.out hAk, HJT.out]
            rw [xor_pow u hT8, show (.int .u8 ((u ^^^ UInt8.ofNat (2 ^ T)).toNat : Int) : Value) = bv (u ^^^ UInt8.ofNat (2 ^ T)) from rfl, ← bs_set, hst] at s1
            go_roundw
            case rel => exact ⟨k + 1, by omega, by go_num, by rw [xor_pow u hT8]; exact s1, hbw.out.grown s2 hz2' (fun j hj => (Hown.out.lt j hj).1)⟩
            case measure => simp [intOf]; omega
          · have htb : ((wv y / 2 ^ k).tmod 2 == 1) = false := by rw [tbit]; simpa using hbit
            have Hbit := Lib.hid hbit
            clear hbit
            go_wp2_with fail
            go_roundw
            case rel => exact ⟨k + 1, by omega, by go_num, by rw [fI_same A E y k (by simpa using Hbit.out)]; exact Hown.out, hbw⟩
            case measure => simp [intOf]; omega
        · have hgo : Hid ((getP (xorl (frameB (UInt8.ofNat (1 + kn)) body) (pat (fI A E y k) (n + 9)))).e ≠ 0) := turned_no (UInt8.ofNat (1 + kn)) body L1.out Hn.out A E y k hk (by omega) hreg.out hy0.out
          have hz2' := hbw.out.size
          have hHS := HS3.out.below hbw.out HS3.out.pos
          have HSr := Lib.hid hHS
          clear hHS
          have hnt : decide ((k : Int) < 32) = false ∨ (decide ((k : Int) < 32) = true ∧ decide ((A : Int) + (k : Int) < (E : Int)) = false) := by
            by_cases h : k < 32
            · right; exact ⟨decide_eq_true (by omega), decide_eq_false (by omega)⟩
            · left; exact decide_eq_false (by omega)
          clear hlt
          rcases hnt with hnt | ⟨hnt, hnt2⟩
          all_goals
            go_wp2_with fail
            have s5 := Sl.of_own Hown.out
            generalize hG : getP (xorl (frameB (UInt8.ofNat (1 + kn)) body) (pat (fI A E y k) (n + 9))) = G at hgo
            have hGn : G.n = 0 := by rw [← hG]; exact getP_bad _ (by rw [hG]; exact hgo.out)
            refine (Get_any HSr.out s5 (fun k hk => hk.2.1) (by have := Hn.out; omega) G hG).mono ?_
            rintro e w5 ⟨A6, n6, c6, rfl, hown6, hb6⟩
            obtain ⟨Ge, Gk, Gb, Gn⟩ := G
            have hGn : Gn = 0 := hGn
            subst hGn
            have hne : (Ge != 0) = true := by simpa using hgo.out
            have Hb6 := Lib.hid hb6
            have HS6 := Lib.hid (HSr.out.below hb6 HSr.out.pos)
            clear hown6 hb6 s5 hG hgo
            unfold gotV
            go_wp2_with fail
            have hb7 : Below w1.heap.size w1 (w5.alloc (.cells #[.int .i64 Gk, .slice A6 n6 c6] 34)) := (hbw.out.trans (Hb6.out.mono hz2')).alloc (Nat.le_trans hz2' Hb6.out.size) _
            have hS7 := HS3.out.below hb7 HS3.out.pos
            refine (works_any _ hS7).mono ?_
            rintro e w9 ⟨rfl, hb9⟩
            go_wp2_with fail
            go_ret
            exact ⟨rfl, (Hb3.out.trans (hb7.mono hz1)).trans (hb9.mono (Nat.le_trans hz1 hb7.size))⟩
end Go.Proofs.YtmdnlgfngpgfnaaDoor
