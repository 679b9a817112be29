/- The ring: known. -/
import Derived.Test.YtglbhoamknjdeaaRg3
namespace Go.Proofs.Ytglbhoamknjdeaa
open Go.RowKit

abbrev ann : ByteArray := ⟨#[97, 110, 110]⟩
abbrev sS : ByteArray := ⟨#[115]⟩
abbrev tT : ByteArray := ⟨#[116]⟩
theorem fits_as : Fits (ann, sS) := by constructor <;> decide +kernel
theorem fits_at : Fits (ann, tT) := by constructor <;> decide +kernel
theorem Make_at (w : World) (b m : Nat) (L : List (Wk × Hd)) (h : RingAt w b m L) (t s : ByteArray) (hk : Fits (t, s)) (n : Int) (hn : (Lit.int .i64 n).wf = true) (c : Int) (L' : List (Wk × Hd)) (hr : makeR L (t, s) n = (c, L')) :
    Calls Try.prog 9 #[.pointer (some ⟨b, 0, none⟩), .string t, .string s, .int .i64 n] w fun e w' => e = .returned (.int .i64 c) ∧ RingAt w' b m L' ∧ Fr (fun j => j = m) w w' := by
  have := Make_any w b m L h t s hk n hn
  rw [hr] at this; exact this
theorem Use_at (w : World) (b m : Nat) (L : List (Wk × Hd)) (h : RingAt w b m L) (t s : ByteArray) (hk : Fits (t, s)) (n : Int) (hn : (Lit.int .i64 n).wf = true) (c : Int) (L' : List (Wk × Hd)) (hr : useR L (t, s) n = (c, L')) :
    Calls Try.prog 12 #[.pointer (some ⟨b, 0, none⟩), .string t, .string s, .int .i64 n] w fun e w' => e = .returned (.int .i64 c) ∧ RingAt w' b m L' ∧ Fr (fun j => j = m) w w' := by
  have := Use_any w b m L h t s hk n hn
  rw [hr] at this; exact this
theorem Shred_at (w : World) (b m : Nat) (L : List (Wk × Hd)) (h : RingAt w b m L) (t s : ByteArray) (hk : Fits (t, s)) (c : Int) (L' : List (Wk × Hd)) (hr : shredR L (t, s) = (c, L')) :
    Calls Try.prog 10 #[.pointer (some ⟨b, 0, none⟩), .string t, .string s] w fun e w' => e = .returned (.int .i64 c) ∧ RingAt w' b m L' ∧ Fr (fun j => j = m) w w' := by
  have := Shred_any w b m L h t s hk
  rw [hr] at this; exact this
def K1 : List (Wk × Hd) := [((ann, sS), ⟨3, 0, false⟩)]
def K2 : List (Wk × Hd) := [((ann, sS), ⟨3, 5, false⟩)]
def K3 : List (Wk × Hd) := [((ann, sS), ⟨3, 5, true⟩)]
theorem mk1 : makeR [] (ann, sS) 3 = (0, K1) := by decide +kernel
theorem mk2 : makeR K1 (ann, sS) 4 = (13, K1) := by decide +kernel
theorem us1 : useR K1 (ann, sS) 5 = (0, K2) := by decide +kernel
theorem sh1 : shredR K2 (ann, sS) = (0, K3) := by decide +kernel
theorem lk1 : look K3 (ann, sS) = some ⟨3, 5, true⟩ := by decide +kernel
theorem us2 : useR K3 (ann, sS) 1 = (17, K3) := by decide +kernel
theorem nn258 : nonceN 258 = [0, 0, 0, 0, 0, 0, 0, 0, 0, 0, 1, 2] := by decide +kernel

theorem Try.eqGuardNc : Try.prog.eqGuardType Try.prog.depth 36 = false := by kernel_rfl
theorem build_nonce_12 (w : World) : (Instr.build 36 #[(10, .int .u8 1), (11, .int .u8 2)]).run Try.prog w = .ok (.agg (bs [0, 0, 0, 0, 0, 0, 0, 0, 0, 0, 1, 2]).toArray) w := by kernel_rfl
set_option maxRecDepth 100000 in
set_option maxHeartbeats 4000000 in
theorem known_any (w : World) : Calls Try.prog 13 #[] w fun e w' => e = .returned (.bool true) ∧ Below w.heap.size w w' := by
  have uN := Lib.hid Try.underlying36
  go_enter Try.func13, Try.ntmps13
  go_wp2_with fail
  refine (New_any w).mono ?_
  rintro e w1 ⟨b, m, rfl, hr1, hb1, hbb, hmm⟩
  have R1 := Lib.hid hr1; have B1 : Hid (Fr (fun j => j = m) w w1) := Fr.of_below hb1; have HM := Lib.hid hmm
  clear hr1 hb1 hbb hmm
  go_wp2_with fail
  refine (Make_at w1 b m [] R1.out ann sS fits_as 3 rfl 0 K1 mk1).mono ?_
  rintro e w2 ⟨rfl, hr2, hf2⟩
  have R2 := Lib.hid hr2; have B2 := Lib.hid (B1.out.tr hf2)
  clear hr2 hf2 R1 B1
  go_wp2_with fail
  refine (Make_at w2 b m K1 R2.out ann sS fits_as 4 rfl 13 K1 mk2).mono ?_
  rintro e w3 ⟨rfl, hr3, hf3⟩
  have R3 := Lib.hid hr3; have B3 := Lib.hid (B2.out.tr hf3)
  clear hr3 hf3 R2 B2
  go_wp2_with fail
  refine (Use_at w3 b m K1 R3.out ann sS fits_as 5 rfl 0 K2 us1).mono ?_
  rintro e w4 ⟨rfl, hr4, hf4⟩
  have R4 := Lib.hid hr4; have B4 := Lib.hid (B3.out.tr hf4)
  clear hr4 hf4 R3 B3
  go_wp2_with fail
  refine (Shred_at w4 b m K2 R4.out ann sS fits_as 0 K3 sh1).mono ?_
  rintro e w5 ⟨rfl, hr5, hf5⟩
  have R5 := Lib.hid hr5; have B5 := Lib.hid (B4.out.tr hf5)
  clear hr5 hf5 R4 B4
  go_wp2_with fail
  refine (Hold_at w5 b m K3 R5.out ann sS fits_as (some ⟨3, 5, true⟩) lk1 ⟨3, 5, true⟩ rfl true rfl).mono ?_
  rintro e w6 ⟨rfl, hb6⟩
  have R6 := Lib.hid ((R5.out.bel hb6).bel (Below.al w6 (.cells #[.int .i64 3, .int .i64 5, .bool true] 30)))
  have B6 : Hid (Fr (fun j => j = m) w (w6.alloc (.cells #[.int .i64 3, .int .i64 5, .bool true] 30))) := B5.out.tr (Fr.of_below (hb6.alloc hb6.size _))
  clear hb6 R5 B5
  go_wp2_with fail
  generalize w6.alloc (.cells #[.int .i64 3, .int .i64 5, .bool true] 30) = w7 at R6 B6 ⊢
  refine (Use_at w7 b m K3 R6.out ann sS fits_as 1 rfl 17 K3 us2).mono ?_
  rintro e w8 ⟨rfl, hr8, hf8⟩
  have B8 := Lib.hid (B6.out.tr hf8)
  clear hr8 hf8 R6 B6
  go_wp2_with fail
  refine (Nonce_any w8 258 rfl).mono ?_
  rintro e w9 ⟨rfl, hb9⟩
  rw [nn258]
  have B9 : Hid (Fr (fun j => j = m) w w9) := B8.out.tr (Fr.of_below hb9)
  clear hb9 B8
  go_wp2_with (first
    | ((with_reducible refine lst_eql_arr 36 (.tmp 44) (.tmp 45) _ rfl 12 [0, 0, 0, 0, 0, 0, 0, 0, 0, 0, 1, 2] [0, 0, 0, 0, 0, 0, 0, 0, 0, 0, 1, 2] rfl rfl uN.out Try.eqGuardNc rfl rfl true rfl ?_ ?_)
       (focus rfl))
    | ((with_reducible refine lst_build 36 _ #[(10, .int .u8 1), (11, .int .u8 2)] _ rfl (build_nonce_12 _) ?_ ?_ ?_)
       (focus (simp only [List.map_toArray, List.map_cons, List.map_nil]; rfl))
       (focus rfl)))
  go_ret
  exact ⟨rfl, B9.out.to_below (fun i hi e => by have := HM.out; omega)⟩
end Go.Proofs.Ytglbhoamknjdeaa
