/- RingKnown: the walk. -/
import Derived.Test.YtglbhoamknjdeaaRg4
import Derived.Test.YtglbhoamknjdeaaRg10
import Derived.Test.YtglbhoamknjdeaaKitI
namespace Go.Proofs.Ytglbhoamknjdeaa
open Go.RowKit

abbrev bob : ByteArray := ⟨#[98, 111, 98]⟩
abbrev uU : ByteArray := ⟨#[117]⟩
/-- a ring, and what was there -/
structure RX (w wr : World) (b m : Nat) (L : List (Wk × Hd)) : Prop where
  ring : RingAt wr b m L
  fr : Fr (fun j => j = m) w wr
theorem RX.nx {w wr wx : World} {b m : Nat} {L L' : List (Wk × Hd)} (h : RX w wr b m L) (hr : RingAt wx b m L') (hf : Fr (fun j => j = m) wr wx) : RX w wx b m L' := ⟨hr, h.fr.tr hf⟩
theorem RX.bl {w wr wx : World} {b m : Nat} {L : List (Wk × Hd)} (h : RX w wr b m L) (hb : Below wr.heap.size wr wx) : RX w wx b m L := ⟨h.ring.bel hb, h.fr.tr (Fr.of_below hb)⟩
theorem RX.done {w wr : World} {b m : Nat} {L : List (Wk × Hd)} (h : RX w wr b m L) (hm : w.heap.size ≤ m) : Below w.heap.size w wr := h.fr.to_below (fun i hi e => by omega)
theorem row_len {w : World} {base e n : Nat} {v : Value} {xs : List Value} {k : Nat} (h : w.ownsRow base e 1 v n xs) (hk : xs.length = k) : n = k := by have := h.1; omega
theorem fx_anns : Fits (ann, sS) := by constructor <;> decide +kernel
theorem fx_annt : Fits (ann, tT) := by constructor <;> decide +kernel
theorem fx_annu : Fits (ann, uU) := by constructor <;> decide +kernel
theorem fx_bobs : Fits (bob, sS) := by constructor <;> decide +kernel
theorem fx_bobt : Fits (bob, tT) := by constructor <;> decide +kernel
theorem fx_bobu : Fits (bob, uU) := by constructor <;> decide +kernel
def R0 : List (Wk × Hd) := []
def R1 : List (Wk × Hd) := [((ann, sS), ⟨3, 0, false⟩)]
theorem rk0 : makeR R0 (ann, sS) (3) = (0, R1) := by decide +kernel
theorem rk1 : makeR R1 (ann, sS) (4) = (13, R1) := by decide +kernel
def R2 : List (Wk × Hd) := [((ann, sS), ⟨3, 0, false⟩), ((bob, sS), ⟨3, 0, false⟩)]
theorem rk2 : makeR R1 (bob, sS) (3) = (0, R2) := by decide +kernel
theorem rk3 : makeR R2 (ann, tT) (0) = (1, R2) := by decide +kernel
theorem rk4 : makeR R2 (ann, tT) (65) = (1, R2) := by decide +kernel
theorem rk5 : makeR R2 (ann, sS) (65) = (1, R2) := by decide +kernel
def R3 : List (Wk × Hd) := [((ann, sS), ⟨3, 0, false⟩), ((bob, sS), ⟨3, 0, false⟩), ((ann, tT), ⟨64, 0, false⟩)]
theorem rk6 : makeR R2 (ann, tT) (64) = (0, R3) := by decide +kernel
def R4 : List (Wk × Hd) := [((ann, sS), ⟨3, 200, false⟩), ((bob, sS), ⟨3, 0, false⟩), ((ann, tT), ⟨64, 0, false⟩)]
theorem rk7 : useR R3 (ann, sS) (200) = (0, R4) := by decide +kernel
theorem rk8 : useR R4 (ann, sS) (1) = (16, R4) := by decide +kernel
theorem rk9 : useR R4 (bob, sS) (201) = (16, R4) := by decide +kernel
theorem rk10 : useR R4 (bob, uU) (1) = (12, R4) := by decide +kernel
theorem rk11 : useR R4 (bob, sS) (0) = (1, R4) := by decide +kernel
theorem rk12 : useR R4 (bob, uU) (0) = (1, R4) := by decide +kernel
theorem rk13 : useR R4 (bob, sS) (9223372036854775807) = (16, R4) := by decide +kernel
theorem rk14 : useR R4 (bob, sS) (-9223372036854775808) = (1, R4) := by decide +kernel
def R5 : List (Wk × Hd) := [((ann, sS), ⟨3, 200, true⟩), ((bob, sS), ⟨3, 0, false⟩), ((ann, tT), ⟨64, 0, false⟩)]
theorem rk15 : shredR R4 (ann, sS) = (0, R5) := by decide +kernel
theorem rk16 : shredR R5 (ann, sS) = (17, R5) := by decide +kernel
theorem rk17 : shredR R5 (ann, uU) = (12, R5) := by decide +kernel
theorem rk18 : useR R5 (ann, sS) (1) = (17, R5) := by decide +kernel
theorem rk19 : makeR R5 (ann, sS) (5) = (13, R5) := by decide +kernel
theorem rk_hold : look R5 (ann, sS) = some ⟨3, 200, true⟩ := by decide +kernel
theorem rk_ok0 : SlotsOk R0 := by unfold SlotsOk; decide +kernel
theorem rk_ok : SlotsOk R5 := by unfold SlotsOk; decide +kernel
theorem rk_l0 (sh : Bool) : slotsL R0 sh = [] := by cases sh <;> decide +kernel
theorem rk_live : slotsL R5 false = [3, 64] := by decide +kernel
theorem rk_dead : slotsL R5 true = [3] := by decide +kernel
set_option maxRecDepth 100000 in
set_option maxHeartbeats 16000000 in
theorem RingKnown_any (w : World) : Calls Try.prog 7 #[] w fun e w' => e = .returned (.bool true) ∧ Below w.heap.size w w' := by
  go_enter Try.func7, Try.ntmps7
  go_wp2_with fail
  refine (New_any w).mono ?_
  rintro e w1 ⟨b, m, rfl, hr1, hb1, hbb, hmm⟩
  have X : Hid (RX w w1 b m R0) := ⟨hr1, Fr.of_below hb1⟩
  have HM := Lib.hid hmm
  clear hr1 hb1 hbb hmm
  go_wp2_with fail
  refine (Live_any w1 b m R0 X.out.ring (by decide) rk_ok0).mono ?_
  rintro e w2 ⟨A, n, c, rfl, ho, hb⟩
  rw [rk_l0] at ho
  obtain rfl : n = 0 := row_len ho rfl
  replace X := Lib.hid (X.out.bl hb)
  clear ho hb
  go_wp2_with fail
  refine (Dead_any w2 b m R0 X.out.ring (by decide) rk_ok0).mono ?_
  rintro e w3 ⟨A, n, c, rfl, ho, hb⟩
  rw [rk_l0] at ho
  obtain rfl : n = 0 := row_len ho rfl
  replace X := Lib.hid (X.out.bl hb)
  clear ho hb
  go_wp2_with fail
  refine (Make_at _ b m R0 X.out.ring ann sS fx_anns (3) rfl 0 R1 rk0).mono ?_
  rintro e w' ⟨rfl, hr, hf⟩
  replace X := Lib.hid (X.out.nx hr hf)
  clear hr hf
  go_wp2_with fail
  refine (Make_at _ b m R1 X.out.ring ann sS fx_anns (4) rfl 13 R1 rk1).mono ?_
  rintro e w' ⟨rfl, hr, hf⟩
  replace X := Lib.hid (X.out.nx hr hf)
  clear hr hf
  go_wp2_with fail
  refine (Make_at _ b m R1 X.out.ring bob sS fx_bobs (3) rfl 0 R2 rk2).mono ?_
  rintro e w' ⟨rfl, hr, hf⟩
  replace X := Lib.hid (X.out.nx hr hf)
  clear hr hf
  go_wp2_with fail
  refine (Make_at _ b m R2 X.out.ring ann tT fx_annt (0) rfl 1 R2 rk3).mono ?_
  rintro e w' ⟨rfl, hr, hf⟩
  replace X := Lib.hid (X.out.nx hr hf)
  clear hr hf
  go_wp2_with fail
  refine (Make_at _ b m R2 X.out.ring ann tT fx_annt (65) rfl 1 R2 rk4).mono ?_
  rintro e w' ⟨rfl, hr, hf⟩
  replace X := Lib.hid (X.out.nx hr hf)
  clear hr hf
  go_wp2_with fail
  refine (Make_at _ b m R2 X.out.ring ann sS fx_anns (65) rfl 1 R2 rk5).mono ?_
  rintro e w' ⟨rfl, hr, hf⟩
  replace X := Lib.hid (X.out.nx hr hf)
  clear hr hf
  go_wp2_with fail
  refine (Make_at _ b m R2 X.out.ring ann tT fx_annt (64) rfl 0 R3 rk6).mono ?_
  rintro e w' ⟨rfl, hr, hf⟩
  replace X := Lib.hid (X.out.nx hr hf)
  clear hr hf
  go_wp2_with fail
  refine (Use_at _ b m R3 X.out.ring ann sS fx_anns (200) rfl 0 R4 rk7).mono ?_
  rintro e w' ⟨rfl, hr, hf⟩
  replace X := Lib.hid (X.out.nx hr hf)
  clear hr hf
  go_wp2_with fail
  refine (Use_at _ b m R4 X.out.ring ann sS fx_anns (1) rfl 16 R4 rk8).mono ?_
  rintro e w' ⟨rfl, hr, hf⟩
  replace X := Lib.hid (X.out.nx hr hf)
  clear hr hf
  go_wp2_with fail
  refine (Use_at _ b m R4 X.out.ring bob sS fx_bobs (201) rfl 16 R4 rk9).mono ?_
  rintro e w' ⟨rfl, hr, hf⟩
  replace X := Lib.hid (X.out.nx hr hf)
  clear hr hf
  go_wp2_with fail
  refine (Use_at _ b m R4 X.out.ring bob uU fx_bobu (1) rfl 12 R4 rk10).mono ?_
  rintro e w' ⟨rfl, hr, hf⟩
  replace X := Lib.hid (X.out.nx hr hf)
  clear hr hf
  go_wp2_with fail
  refine (Use_at _ b m R4 X.out.ring bob sS fx_bobs (0) rfl 1 R4 rk11).mono ?_
  rintro e w' ⟨rfl, hr, hf⟩
  replace X := Lib.hid (X.out.nx hr hf)
  clear hr hf
  go_wp2_with fail
  refine (Use_at _ b m R4 X.out.ring bob uU fx_bobu (0) rfl 1 R4 rk12).mono ?_
  rintro e w' ⟨rfl, hr, hf⟩
  replace X := Lib.hid (X.out.nx hr hf)
  clear hr hf
  go_wp2_with fail
  refine (Use_at _ b m R4 X.out.ring bob sS fx_bobs (9223372036854775807) rfl 16 R4 rk13).mono ?_
  rintro e w' ⟨rfl, hr, hf⟩
  replace X := Lib.hid (X.out.nx hr hf)
  clear hr hf
  go_wp2_with fail
  refine (Use_at _ b m R4 X.out.ring bob sS fx_bobs (-9223372036854775808) rfl 1 R4 rk14).mono ?_
  rintro e w' ⟨rfl, hr, hf⟩
  replace X := Lib.hid (X.out.nx hr hf)
  clear hr hf
  go_wp2_with fail
  refine (Shred_at _ b m R4 X.out.ring ann sS fx_anns 0 R5 rk15).mono ?_
  rintro e w' ⟨rfl, hr, hf⟩
  replace X := Lib.hid (X.out.nx hr hf)
  clear hr hf
  go_wp2_with fail
  refine (Shred_at _ b m R5 X.out.ring ann sS fx_anns 17 R5 rk16).mono ?_
  rintro e w' ⟨rfl, hr, hf⟩
  replace X := Lib.hid (X.out.nx hr hf)
  clear hr hf
  go_wp2_with fail
  refine (Shred_at _ b m R5 X.out.ring ann uU fx_annu 12 R5 rk17).mono ?_
  rintro e w' ⟨rfl, hr, hf⟩
  replace X := Lib.hid (X.out.nx hr hf)
  clear hr hf
  go_wp2_with fail
  refine (Use_at _ b m R5 X.out.ring ann sS fx_anns (1) rfl 17 R5 rk18).mono ?_
  rintro e w' ⟨rfl, hr, hf⟩
  replace X := Lib.hid (X.out.nx hr hf)
  clear hr hf
  go_wp2_with fail
  refine (Make_at _ b m R5 X.out.ring ann sS fx_anns (5) rfl 13 R5 rk19).mono ?_
  rintro e w' ⟨rfl, hr, hf⟩
  replace X := Lib.hid (X.out.nx hr hf)
  clear hr hf
  go_wp2_with fail
  refine (Hold_at _ b m R5 X.out.ring ann sS fx_anns (some ⟨3, 200, true⟩) rk_hold ⟨3, 200, true⟩ rfl true rfl).mono ?_
  rintro e w6 ⟨rfl, hb6⟩
  replace X := Lib.hid ((X.out.bl hb6).bl (Below.al w6 (.cells #[.int .i64 3, .int .i64 200, .bool true] 30)))
  clear hb6
  go_wp2_with fail
  generalize w6.alloc (.cells #[.int .i64 3, .int .i64 200, .bool true] 30) = w7 at X ⊢
  refine (Live_any w7 b m R5 X.out.ring (by decide) rk_ok).mono ?_
  rintro e w8 ⟨A, n, c, rfl, ho, hb⟩
  rw [rk_live] at ho
  obtain rfl : n = 2 := row_len ho rfl
  have I8 := Lib.hid (IntSl.of_own ho (by decide))
  replace X := Lib.hid ((X.out.bl hb).bl (Below.al w8 (.cells #[.int .i64 3, .int .i64 64] 3)))
  have J8 : Hid (IntSl (w8.alloc (.cells #[.int .i64 3, .int .i64 64] 3)) (fun k => k = w8.heap.size) (some ⟨w8.heap.size, 0, none⟩) 2 2 [3, 64]) := int_block2 w8 (l := [3, 64]) (by decide)
  clear ho hb
  go_wp2_with fail
  refine (SameInts_at (I8.out.belF (Below.al w8 _) (fun _ h => h.2.1)) J8.out (by decide) (by decide) true (by decide)).mono ?_
  rintro e w9 ⟨rfl, x, rfl⟩
  replace X := Lib.hid (X.out.bl (Below.drN _ x))
  clear I8 J8
  generalize (w8.alloc (.cells #[.int .i64 3, .int .i64 64] 3)).drewN x = w9 at X ⊢
  go_wp2_with fail
  refine (Dead_any w9 b m R5 X.out.ring (by decide) rk_ok).mono ?_
  rintro e w8 ⟨A, n, c, rfl, ho, hb⟩
  rw [rk_dead] at ho
  obtain rfl : n = 1 := row_len ho rfl
  have I8 := Lib.hid (IntSl.of_own ho (by decide))
  replace X := Lib.hid ((X.out.bl hb).bl (Below.al w8 (.cells #[.int .i64 3] 3)))
  have J8 : Hid (IntSl (w8.alloc (.cells #[.int .i64 3] 3)) (fun k => k = w8.heap.size) (some ⟨w8.heap.size, 0, none⟩) 1 1 [3]) := int_block2 w8 (l := [3]) (by decide)
  clear ho hb
  go_wp2_with fail
  refine (SameInts_at (I8.out.belF (Below.al w8 _) (fun _ h => h.2.1)) J8.out (by decide) (by decide) true (by decide)).mono ?_
  rintro e w9 ⟨rfl, x, rfl⟩
  replace X := Lib.hid (X.out.bl (Below.drN _ x))
  clear I8 J8
  go_wp2_with fail
  refine (known_any _).mono ?_
  rintro e w' ⟨rfl, hb⟩
  go_wp2_with fail
  go_ret
  exact ⟨rfl, (X.out.bl hb).done HM.out⟩
end Go.Proofs.Ytglbhoamknjdeaa
