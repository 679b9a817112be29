/- number, whole, Get. -/
import Derived.Test.YtmdnlgfngpgfnaaDoorFr3
namespace Go.Proofs.YtmdnlgfngpgfnaaDoor
open Go.RowKit

theorem wv_ofNat {x : Nat} (h : x < 4294967296) : wv (BitVec.ofNat 32 x) = (x : Int) := by
  simp only [wv, BitVec.toNat_ofNat]; omega
theorem or_num (k x y : Nat) (hx : x % 2 ^ k = 0) (hy : y < 2 ^ k) (h1 : x < 4294967296) (h2 : y < 4294967296) (h3 : x + y < 4294967296) : bits .or .u32 (x : Int) (y : Int) = ((x + y : Nat) : Int) := by
  rw [← wv_ofNat h1, ← wv_ofNat h2, ← wv_ofNat h3]
  show IntKind.u32.wrap ((BitVec.ofInt _ _ ||| BitVec.ofInt _ _).toNat : Int) = _
  rw [ofInt_wv, ofInt_wv]
  have e : BitVec.ofNat 32 x ||| BitVec.ofNat 32 y = BitVec.ofNat 32 (x + y) := by
    apply BitVec.eq_of_toNat_eq
    rw [BitVec.toNat_or]
    simp only [BitVec.toNat_ofNat, Nat.reducePow]
    rw [Nat.mod_eq_of_lt h1, Nat.mod_eq_of_lt h2, Nat.mod_eq_of_lt h3]
    exact nat_join k x y hx hy
  rw [← e]
  exact wrap_wv _
theorem be_num (a b d e : UInt8) : bits .or .u32 (bits .or .u32 (bits .or .u32 ((a.toNat : Int) % 4294967296 * 16777216 % 4294967296) ((b.toNat : Int) % 4294967296 * 65536 % 4294967296)) ((d.toNat : Int) % 4294967296 * 256 % 4294967296)) ((e.toNat : Int) % 4294967296) =
    ((a.toNat * 16777216 + b.toNat * 65536 + d.toNat * 256 + e.toNat : Nat) : Int) := by
  have ha := a.toNat_lt; have hb := b.toNat_lt; have hd := d.toNat_lt; have he := e.toNat_lt
  simp only [Nat.reducePow] at ha hb hd he
  have e1 : (a.toNat : Int) % 4294967296 * 16777216 % 4294967296 = ((a.toNat * 16777216 : Nat) : Int) := by omega
  have e2 : (b.toNat : Int) % 4294967296 * 65536 % 4294967296 = ((b.toNat * 65536 : Nat) : Int) := by omega
  have e3 : (d.toNat : Int) % 4294967296 * 256 % 4294967296 = ((d.toNat * 256 : Nat) : Int) := by omega
  have e4 : (e.toNat : Int) % 4294967296 = ((e.toNat : Nat) : Int) := by omega
  rw [e1, e2, e3, e4]
  rw [or_num 24 _ _ (by simp only [Nat.reducePow]; omega) (by simp only [Nat.reducePow]; omega) (by omega) (by omega) (by omega)]
  rw [or_num 16 _ _ (by simp only [Nat.reducePow]; omega) (by simp only [Nat.reducePow]; omega) (by omega) (by omega) (by omega)]
  rw [or_num 8 _ _ (by simp only [Nat.reducePow]; omega) (by simp only [Nat.reducePow]; omega) (by omega) (by omega) (by omega)]
set_option maxHeartbeats 1000000 in
theorem number_any {w : World} {F : Nat → Prop} {A : Option Addr} {n c : Nat} {a b d e : UInt8} {l : List UInt8} (h : Sl w F A n c (a :: b :: d :: e :: l)) :
    Calls Tryd.prog 33 #[.slice A n c] w fun x w' => x = .returned (.int .u32 (a.toNat * 16777216 + b.toNat * 65536 + d.toNat * 256 + e.toNat : Nat)) ∧ ∃ k, w' = w.drewN k := by
  have hlen := h.len
  simp only [List.length_cons] at hlen
  obtain ⟨ad, rfl, h0⟩ := h.rd 0 _ rfl
  obtain ⟨ad1, e1, h1⟩ := h.rd 1 _ rfl
  obtain ⟨ad2, e2, h2⟩ := h.rd 2 _ rfl
  obtain ⟨ad3, e3, h3⟩ := h.rd 3 _ rfl
  injection e1 with e1; injection e2 with e2; injection e3 with e3
  subst e1 e2 e3
  simp only [bv] at h0 h1 h2 h3
  have h0 : w.cell? ad = some (.int .u8 (a.toNat : Int)) := h0
  have h1 : w.cell? ⟨ad.block, ad.off + 1, none⟩ = some (.int .u8 (b.toNat : Int)) := h1
  have h2 : w.cell? ⟨ad.block, ad.off + 2, none⟩ = some (.int .u8 (d.toNat : Int)) := h2
  have h3 : w.cell? ⟨ad.block, ad.off + 3, none⟩ = some (.int .u8 (e.toNat : Int)) := h3
  have i0 : (0 : Int) < (n : Int) := by omega
  have j0 : 0 < n := by omega
  have j1 : 1 < n := by omega
  have j2 : 2 < n := by omega
  have j3 : 3 < n := by omega
  have i1 : (1 : Int) < (n : Int) := by omega
  have i2 : (2 : Int) < (n : Int) := by omega
  have i3 : (3 : Int) < (n : Int) := by omega
  clear h hlen
  go_enter Tryd.func33, Tryd.ntmps33
  go_wp2_with fail
  go_quiet (fail)
  go_wp2
  go_ret
  exact ⟨ret_int (be_num a b d e), nq, rfl⟩
/-- the number of the first four bytes -/
def num4 : List UInt8 → Nat
  | a :: b :: d :: e :: _ => a.toNat * 16777216 + b.toNat * 65536 + d.toNat * 256 + e.toNat
  | _ => 0
theorem num4_lt (l : List UInt8) : num4 l < 4294967296 := by
  unfold num4
  split
  · rename_i a b d e _
    have ha := a.toNat_lt; have hb := b.toNat_lt; have hd := d.toNat_lt; have he := e.toNat_lt
    simp only [Nat.reducePow] at ha hb hd he
    omega
  · omega
theorem number_l {w : World} {F : Nat → Prop} {A : Option Addr} {n c : Nat} {l : List UInt8} (h : Sl w F A n c l) (hn : 4 ≤ n) :
    Calls Tryd.prog 33 #[.slice A n c] w fun x w' => x = .returned (.int .u32 (num4 l : Nat)) ∧ ∃ k, w' = w.drewN k := by
  have hl := h.len
  match l, h with
  | a :: b :: d :: e :: l, h => exact number_any h
  | [], _ => simp at hl; omega
  | [_], _ => simp at hl; omega
  | [_, _], _ => simp at hl; omega
  | [_, _, _], _ => simp at hl; omega
/-- what whole says: the error, the body's length -/
def wholeP (l : List UInt8) : Int × Nat :=
  if l.length < 5 then (4, 0) else if l.head? = some 0 then (2, 0) else if 2039 < num4 (l.drop 1) then (5, 0) else if l.length < num4 (l.drop 1) + 9 then (4, 0) else (0, num4 (l.drop 1))
def wholeV (A : Option Addr) (c : Nat) (r : Int × Nat) : Value := .tuple #[if r.1 = 0 then .slice A (r.2 + 9) c else .slice none 0 0, .int .i64 r.2, .int .i64 r.1]

set_option maxRecDepth 100000 in
set_option maxHeartbeats 1000000 in
theorem whole_any {w : World} {F : Nat → Prop} {A : Option Addr} {n c : Nat} {l : List UInt8} (h : Sl w F A n c l) (hl : n ≤ 9223372036854775000) (r : Int × Nat) (hr : wholeP l = r) :
    Calls Tryd.prog 32 #[.slice A n c] w fun e w' => e = .returned (wholeV A c r) ∧ ∃ k, w' = w.drewN k := by
  subst hr
  have hlen := h.len
  have hcap := h.cap
  by_cases h5 : n < 5
  · have hw : wholeP l = (4, 0) := by unfold wholeP; rw [if_pos (by omega)]
    rw [hw]
    have h5' : (n : Int) < 5 := by omega
    clear hw h
    go_enter Tryd.func32, Tryd.ntmps32
    go_wp2
    go_ret3
    exact ⟨rfl, 0, rfl⟩
  · have h5' : ¬ (n : Int) < 5 := by omega
    match l, h with
    | [], _ => simp at hlen; omega
    | k :: l, h =>
      obtain ⟨ad, rfl, hc0⟩ := h.rd 0 _ rfl
      have hc0 : w.cell? ad = some (.int .u8 (k.toNat : Int)) := hc0
      have h1 := h.drop_ (m := 1) (A' := some (ad.add 1)) (by omega) (.inr rfl)
      have H1 := Lib.hid h1
      have hnum := num4_lt l
      have h0n : 0 < n := by omega
      have h1n : 1 ≤ n := by omega
      have hw : wholeP (k :: l) = if k = 0 then (2, 0) else if 2039 < num4 l then (5, 0) else if n < num4 l + 9 then (4, 0) else (0, num4 l) := by
        unfold wholeP
        rw [hlen, if_neg h5]
        simp
      rw [hw]
      have hnI : ((num4 l : Nat) : Int) < 4294967296 := by omega
      have hks : ((k.toNat : Int) == 0) = decide (k = 0) := by
        rw [Bool.eq_iff_iff]; simp only [beq_iff_eq, decide_eq_true_eq]
        constructor
        · intro h; exact UInt8.toNat_inj.1 (by simpa using h)
        · rintro rfl; rfl
      clear h1 h hw
      by_cases hk : k = 0
      · rw [if_pos hk]
        have hkb : ((k.toNat : Int) == 0) = true := by rw [hks]; simpa using hk
        clear hks hk
        go_enter Tryd.func32, Tryd.ntmps32
        go_wp2_with fail
        refine (number_l (l := l) H1.out (by omega)).mono ?_
        rintro e w' ⟨rfl, m, rfl⟩
        go_wp2_with fail
        go_ret3
        exact ⟨rfl, m, rfl⟩
      · rw [if_neg hk]
        have hkb : ((k.toNat : Int) == 0) = false := by rw [hks]; simpa using hk
        clear hks hk
        by_cases hlg : 2039 < num4 l
        · rw [if_pos hlg]
          have hlI : (2039 : Int) < (num4 l : Int) := by omega
          go_enter Tryd.func32, Tryd.ntmps32
          go_wp2_with fail
          refine (number_l (l := l) H1.out (by omega)).mono ?_
          rintro e w' ⟨rfl, m, rfl⟩
          go_wp2_with fail
          go_ret3
          exact ⟨rfl, m, rfl⟩
        · rw [if_neg hlg]
          have hlI : ¬ (2039 : Int) < (num4 l : Int) := by omega
          by_cases hsh : n < num4 l + 9
          · rw [if_pos hsh]
            have hsI : decide ((n : Int) < 5 + (num4 l : Int) + 4) = true := decide_eq_true (by omega)
            have Hlen := Lib.hid hlen
            clear hlen hnum h5 hlg hsh
            have hnum := number_l (l := l) H1.out (by omega)
            generalize num4 l = N at *
            go_enter Tryd.func32, Tryd.ntmps32
            go_wp2_with fail
            refine hnum.mono ?_
            clear hnum
            rintro e w' ⟨rfl, m, rfl⟩
            clear H1
            clear hnI
            go_wp2_with fail
            go_ret3
            exact ⟨rfl, m, rfl⟩
          · rw [if_neg hsh]
            have hsI : decide ((n : Int) < 5 + (num4 l : Int) + 4) = false := decide_eq_false (by omega)
            have hcI : 5 + (num4 l : Int) + 4 ≤ (c : Int) := by omega
            have Hlen := Lib.hid hlen
            clear hlen hnum h5 hlg hsh
            have hnum := number_l (l := l) H1.out (by omega)
            generalize num4 l = N at *
            go_enter Tryd.func32, Tryd.ntmps32
            go_wp2_with fail
            refine hnum.mono ?_
            clear hnum
            rintro e w' ⟨rfl, m, rfl⟩
            clear H1
            clear hnI
            go_wp2_with fail
            go_ret3
            refine ⟨?_, m, rfl⟩
            show _ = Ending.returned (.tuple #[.slice (some ad) (N + 9) c, .int .i64 N, .int .i64 0])
            rw [show N + 9 = 5 + N + 4 by omega]
            rfl
end Go.Proofs.YtmdnlgfngpgfnaaDoor
