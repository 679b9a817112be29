/- The reference's Sum, four, Put. -/
import Derived.Test.YtmdnlgfngpgfnaaDoorFr8
namespace Go.Proofs.YtmdnlgfngpgfnaaDoor
open Go.RowKit

theorem own_of_alloc (w : World) (l : List UInt8) (n : Nat) (hn : l.length = n) (hm : n ≤ maxLen) : (w.alloc (.cells (bs l).toArray 5)).ownsRow w.heap.size 5 1 (.slice (some ⟨w.heap.size, 0, none⟩) n n) n (bs l) := by
  refine ⟨by rw [bs_length]; omega, .inr ⟨w.heap.size, n, (bs l).toArray, rfl, Nat.le_refl _, heap_alloc_new w _, Nat.le_refl _, hm, ?_, ?_⟩⟩
  · simp [bs_length, hn]
  · simp only [Nat.mul_one]
    rw [List.take_of_length_le (by rw [bs_length]; omega)]

theorem odd_wv (y : BitVec 32) : (wv y).tmod 2 = ((y.toNat % 2 : Nat) : Int) := (Int.ofNat_tmod _ _).symm
theorem half_wv (y : BitVec 32) : (wv y).tdiv 2 % (4294967296 : Int) = wv (y >>> 1) := by
  have h : (wv y).tdiv 2 = ((y.toNat / 2 : Nat) : Int) := (Int.ofNat_tdiv _ _).symm
  have hy : y.toNat < 4294967296 := y.isLt
  rw [h]
  simp only [wv, BitVec.toNat_ushiftRight, Nat.shiftRight_eq_div_pow]
  omega
set_option maxHeartbeats 1000000 in
theorem RefSum_any {F : Nat → Prop} {A : Option Addr} {n c : Nat} {l : List UInt8} {w : World} (h : Sl w F A n c l) (hl : n ≤ 9223372036854775806) :
    Calls Tryd.prog 17 #[.slice A n c] w fun e w' => e = .returned (.int .u32 (wv (crc l))) ∧ w = w' := by
  have hlen := h.len
  have H := Lib.hid h; have Hlen := Lib.hid hlen
  clear h hlen
  go_enter Tryd.func17, Tryd.ntmps17
  go_wp2
  go_loopw [3, 4] (fun v i w' => ∃ k : Nat, k ≤ n ∧ i = .int .i64 (k : Nat) ∧ v = .int .u32 (wv (crcW (l.take k))) ∧ w = w') (fun _ i _ => n - (intOf i).toNat)
  case atStart => exact ⟨0, Nat.zero_le _, rfl, rfl, rfl⟩
  case round =>
    obtain ⟨k, hk, rfl, rfl, rfl⟩ := hrel
    by_cases hlt : k < n
    · have hlt' : k < l.length := by have := Hlen.out; omega
      obtain ⟨ad, rfl, hc⟩ := H.out.rd.at_ hlt'
      have hlI : (k : Int) < n := by omega
      have hkI : (0 : Int) ≤ (k : Int) := by omega
      have hst := Lib.hid (crcW_step l k hlt')
      generalize crcW (l.take k) = x at hst ⊢
      have hxb := wv_byte l[k]
      rw [← hxb] at hc
      have hx0 : bits .xor .u32 (wv x) ((l[k].toNat : Int) % 4294967296) = wv (x ^^^ byteW l[k]) := by
        have := l[k].toNat_lt
        rw [show (l[k].toNat : Int) % 4294967296 = wv (byteW l[k]) by rw [hxb]; omega, xor32]
      go_wp2
      have Hst2 : Hid (itb 8 (x ^^^ byteW l[k]) = crcW (l.take (k + 1))) := by show _ = _; rw [hst.out, upd_bits]
      clear hx0
      generalize x ^^^ byteW l[k] = x0 at Hst2 ⊢
      go_loopw [3, 5] (fun v j w' => ∃ q : Nat, q ≤ 8 ∧ j = .int .i64 (q : Nat) ∧ v = .int .u32 (wv (itb q x0)) ∧ w = w') (fun _ j _ => 8 - (intOf j).toNat)
      case atStart => exact ⟨0, Nat.zero_le _, rfl, rfl, rfl⟩
      case round =>
        obtain ⟨q, hq, rfl, rfl, rfl⟩ := hrel
        by_cases hq2 : q < 8
        · have hqI : (q : Int) < 8 := by omega
          have hq1 := Lib.hid (show itb (q + 1) x0 = bit1 (itb q x0) from rfl)
          generalize itb q x0 = y at hq1 ⊢
          have hdv : (wv y).tdiv 2 % (4294967296 : Int) = wv (y >>> 1) := half_wv y
          by_cases hodd : y.toNat % 2 = 1
          · have Hb := Lib.hid (show bit1 y = (y >>> 1) ^^^ poly by unfold bit1; rw [if_pos hodd])
            have hmd : ((wv y).tmod 2 == 1) = true := by rw [odd_wv, hodd]; rfl
            have hpx : bits .xor .u32 (wv (y >>> 1)) 3988292384 = wv ((y >>> 1) ^^^ poly) := xor32 _ poly
            clear hodd
            go_wp2
            go_roundw
            case rel => exact ⟨q + 1, by omega, by go_num, by rw [hq1.out, Hb.out], trivial⟩
            case measure => simp [intOf]; omega
          · have Hb := Lib.hid (show bit1 y = y >>> 1 by unfold bit1; rw [if_neg hodd])
            have hmd : ((wv y).tmod 2 == 1) = false := by rw [odd_wv, show y.toNat % 2 = 0 by omega]; rfl
            clear hodd
            go_wp2
            go_roundw
            case rel => exact ⟨q + 1, by omega, by go_num, by rw [hq1.out, Hb.out, hdv], trivial⟩
            case measure => simp [intOf]; omega
        · obtain rfl : q = 8 := by omega
          rw [Hst2.out]
          go_wp2
          go_roundw
          case rel => exact ⟨k + 1, by omega, by go_num, rfl, trivial⟩
          case measure => simp [intOf]; omega
    · have hkl : k = l.length := by have := Hlen.out; omega
      have e : l.take k = l := List.take_of_length_le (by omega)
      rw [e]
      have hsg : IntKind.u32.signed = false := rfl
      go_wp2
      go_ret
      exact ⟨ret_int ((xor32 (crcW l) 0xFFFFFFFF#32).trans (by rw [BitVec.xor_comm]; rfl)), rfl⟩

set_option maxHeartbeats 1000000 in
theorem RefFour_any (w : World) (v : Int) (n : BitVec 32) (hv : v = wv n) :
    Calls Tryd.prog 31 #[.int .u32 v] w fun e w' => e = .returned (.slice (some ⟨w.heap.size, 0, none⟩) 4 4) ∧ Rd w' (some ⟨w.heap.size, 0, none⟩) (bs (be4 n)) ∧ Below w.heap.size w w' := by
  subst hv
  go_enter Tryd.func31, Tryd.ntmps31
  have hN : ∀ d : Nat, (wv n).tdiv (d : Int) = ((n.toNat / d : Nat) : Int) := fun d => (Int.ofNat_tdiv _ _).symm
  have hM : (wv n).tmod 256 = ((n.toNat % 256 : Nat) : Int) := (Int.ofNat_tmod _ _).symm
  have h1 := hN 16777216; have h2 := hN 65536; have h3 := hN 256
  have hn : n.toNat < 4294967296 := n.isLt
  have hcells : Hid (bs (be4 n) = [.int .u8 ((wv n).tdiv 16777216 % 256), .int .u8 ((wv n).tdiv 65536 % 256), .int .u8 ((wv n).tdiv 256 % 256), .int .u8 ((wv n).tmod 256 % 256)]) := by
    show _ = _
    rw [be4_cells]
    simp only [List.cons.injEq, Value.int.injEq, true_and, and_true]
    refine ⟨?_, ?_, ?_, ?_⟩
    · rw [show ((wv n).tdiv 16777216 : Int) = _ from h1]; simp only [wv]; omega
    · rw [show ((wv n).tdiv 65536 : Int) = _ from h2]; simp only [wv]; omega
    · rw [show ((wv n).tdiv 256 : Int) = _ from h3]; simp only [wv]; omega
    · rw [hM]; simp only [wv]; omega
  clear hN hM h1 h2 h3 hn
  go_wp2
  go_ret
  refine ⟨rfl, ?_, (Below.refl _ _).alloc (Nat.le_refl _) _⟩
  rw [hcells.out]
  exact Rd.of_block (heap_alloc_new w (.cells #[.int .u8 ((wv n).tdiv 16777216 % 256), .int .u8 ((wv n).tdiv 65536 % 256), .int .u8 ((wv n).tdiv 256 % 256), .int .u8 ((wv n).tmod 256 % 256)] 5))

set_option maxHeartbeats 1000000 in
theorem RefPut_any {w : World} (kind : Int) {F : Nat → Prop} {A : Option Addr} {n c : Nat} {body : List UInt8} (h : Sl w F A n c body) (hF : ∀ k, F k → k < w.heap.size) (hl : n ≤ 9223372036854775000) :
    Calls Tryd.prog 14 #[.int .i64 kind, .slice A n c] w fun e w' => ∃ A' n' c', e = .returned (.tuple #[.slice A' n' c', .int .i64 (putE kind n)]) ∧ w'.ownsRow w.heap.size 5 1 (.slice A' n' c') n' (bs (putB kind body)) ∧ Below w.heap.size w w' := by
  have hlen := h.len
  have H := Lib.hid h; have HF := Lib.hid hF
  clear h hF
  by_cases hk : kind < 1 ∨ 255 < kind
  · have he : putE kind n = 2 := by unfold putE; rw [if_pos hk]
    have hB : putB kind body = [] := by unfold putB; rw [hlen, he]; rfl
    have He := Lib.hid he; have HB := Lib.hid hB
    clear he hB
    rcases hk with hk | hk
    all_goals
      go_enter Tryd.func14, Tryd.ntmps14
      go_wp2
      go_ret2
      exact ⟨none, 0, 0, by rw [He.out]; rfl, by rw [HB.out]; exact World.ownsRow_nil _ _ _ _, Below.refl _ _⟩
  · obtain ⟨kn, rfl⟩ : ∃ kn : Nat, kind = (kn : Int) := ⟨kind.toNat, by omega⟩
    have hk1 : 1 ≤ kn ∧ kn ≤ 255 := by omega
    have hkI : ¬ (kn : Int) < 1 := by omega
    have hkI2 : ¬ (255 : Int) < (kn : Int) := by omega
    by_cases hlong : 2039 < n
    · have he : putE kn n = 5 := by unfold putE; rw [if_neg hk, if_pos hlong]
      have hB : putB kn body = [] := by unfold putB; rw [hlen, he]; rfl
      have He := Lib.hid he; have HB := Lib.hid hB
      have hl' : (2039 : Int) < (n : Int) := by omega
      clear he hB hk
      go_enter Tryd.func14, Tryd.ntmps14
      go_wp2
      go_ret2
      exact ⟨none, 0, 0, by rw [He.out]; rfl, by rw [HB.out]; exact World.ownsRow_nil _ _ _ _, Below.refl _ _⟩
    · have he : putE kn n = 0 := by unfold putE; rw [if_neg hk, if_neg hlong]
      have hB : putB kn body = frameB (UInt8.ofNat kn) body := by unfold putB; rw [hlen, he]; rfl
      have He := Lib.hid he; have HB := Lib.hid hB; have Hlen := Lib.hid hlen
      have hl' : ¬ (2039 : Int) < (n : Int) := by omega
      clear he hB hk hlen
      have hlen : body.length = n := Hlen.out
      have hv : ∀ x : Int, x = (n : Int) → x = wv (BitVec.ofNat 32 body.length) := fun x hx => by
        rw [hx, hlen]; simp only [wv, BitVec.toNat_ofNat]; omega
      have Hv := Lib.hid hv
      have hcell : Hid (bs [UInt8.ofNat kn] = [.int .u8 (kn : Int)]) := by
        show _ = _
        simp only [bs, bv, List.map_cons, List.map_nil]
        rw [UInt8.toNat_ofNat', Nat.mod_eq_of_lt (by simp; omega)]
      have hown1 : Hid ((w.alloc (.cells #[.int .u8 (kn : Int)] 5)).ownsRow w.heap.size 5 1 (.slice (some ⟨w.heap.size, 0, none⟩) 1 1) 1 (bs [UInt8.ofNat kn])) := by
        have h := own_of_alloc w [UInt8.ofNat kn] 1 rfl (by decide)
        have e : (bs [UInt8.ofNat kn]).toArray = #[.int .u8 (kn : Int)] := by rw [hcell.out]
        rw [e] at h; exact h
      have hb1 : Hid (Below w.heap.size w (w.alloc (.cells #[.int .u8 (kn : Int)] 5))) := (Below.refl _ _).alloc (Nat.le_refl _) _
      clear hv hlen
      go_enter Tryd.func14, Tryd.ntmps14
      go_wp2_with (first
        | (go_at_call 31
           refine (RefFour_any (w.alloc (.cells #[.int .u8 (kn : Int)] 5)) _ (BitVec.ofNat 32 body.length) (Hv.out _ (by omega))).mono ?_
           rintro e w2 ⟨rfl, hrd2, hb12⟩
           have hsz1 : (w.alloc (.cells #[.int .u8 (kn : Int)] 5)).heap.size = w.heap.size + 1 := by simp
           rw [hsz1] at hrd2
           have hown2 : w2.ownsRow w.heap.size 5 1 (.slice (some ⟨w.heap.size, 0, none⟩) 1 1) 1 (bs [UInt8.ofNat kn]) := own_fr hown1.out (Fr.of_below (M := NoB) hb12) (fun _ _ e => e)
           have hb2 : Below w.heap.size w w2 := hb1.out.trans (hb12.mono hb1.out.size)
           have hz2 := hb2.size)
        | (at_builtin
           refine append_bytes rfl (.tmp 19) (.tmp 23) rfl w.heap.size (some ⟨w.heap.size, 0, none⟩) 1 1 _ rfl hown2 _ 4 4 _ rfl rfl hrd2 (by omega) hz2 ?_
           intro A3 c3 w3 hown3 hg3 hat3
           have hb3 : Below w.heap.size w w3 := hb2.grown hg3 hz2 (fun j hj => (hown2.lt j hj).1)
           have hz3 := hb3.size
           have hbody3 := H.out.fr (Fr.of_below (M := NoB) hb3) (fun k hk => ⟨HF.out k hk, id⟩)
           have hown3' : w3.ownsRow w.heap.size 5 1 (.slice A3 5 c3) 5 (bs ([UInt8.ofNat kn] ++ be4 (BitVec.ofNat 32 body.length))) := hown3)
        | (at_builtin
           refine append_bytes rfl (.tmp 25) (.tmp 26) rfl w.heap.size A3 5 c3 _ rfl hown3' A n c body rfl Hlen.out hbody3.rd (by omega) hz3 ?_
           intro A4 c4 w4 hown4 hg4 hat4
           have hb4 : Below w.heap.size w w4 := hb3.grown hg4 hz3 (fun j hj => (hown3'.lt j hj).1)
           have hz4 := hb4.size
           have hown4' : w4.ownsRow w.heap.size 5 1 (.slice A4 (5 + n) c4) (5 + n) (bs (headB (UInt8.ofNat kn) body)) := hown4)
        | (go_at_call 17
           (with_reducible refine (RefSum_any (Sl.of_own hown4') (by omega)).mono ?_)
           rintro e w' ⟨rfl, rfl⟩)
        | (go_at_call 31
           refine (RefFour_any w4 _ (crc (headB (UInt8.ofNat kn) body)) rfl).mono ?_
           rintro e w5 ⟨rfl, hrd5, hb45⟩
           have hown5 : w5.ownsRow w.heap.size 5 1 (.slice A4 (5 + n) c4) (5 + n) (bs (headB (UInt8.ofNat kn) body)) := own_fr hown4' (Fr.of_below (M := NoB) hb45) (fun _ _ e => e)
           have hb5 : Below w.heap.size w w5 := hb4.trans (hb45.mono hz4)
           have hz5 := hb5.size)
        | (at_builtin
           refine append_bytes rfl (.tmp 28) (.tmp 31) rfl w.heap.size A4 (5 + n) c4 _ rfl hown5 _ 4 4 _ rfl rfl hrd5 (by omega) hz5 ?_
           intro A6 c6 w6 hown6 hg6 hat6
           have hb6 : Below w.heap.size w w6 := hb5.grown hg6 hz5 (fun j hj => (hown5.lt j hj).1)))
      go_ret2
      exact ⟨A6, 5 + n + 4, c6, by rw [He.out]; rfl, by rw [HB.out]; exact hown6, hb6⟩
end Go.Proofs.YtmdnlgfngpgfnaaDoor
