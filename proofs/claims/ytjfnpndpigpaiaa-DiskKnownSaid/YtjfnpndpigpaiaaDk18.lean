/- DiskKnown: the closed facts. -/
import Derived.Test.YtjfnpndpigpaiaaDk16
namespace Go.Proofs.Ytjfnpndpigpaiaa
open Go.RowKit
def oddF : List Int := [-9223372036854775808, -1, 33, 9223372036854775807]
theorem odd_at (k : Nat) (h : k < 4) : ∃ x, oddF[k]? = some x ∧ okF x = false := by
  have : k = 0 ∨ k = 1 ∨ k = 2 ∨ k = 3 := by omega
  rcases this with rfl | rfl | rfl | rfl <;> exact ⟨_, rfl, rfl⟩
theorem odd_cell {w : World} {b : Nat} {F : Nat → Prop} (h : IntSl w F (some ⟨b, 0, none⟩) 4 4 oddF) {k : Nat} (hk : k < 4) {x : Int} (hx : oddF[k]? = some x) : w.cell? ⟨b, k, none⟩ = some (.int .i64 x) := by
  obtain ⟨ad, e, _, hc⟩ := h.at_ k hk
  injection e with e; subst e
  rw [addr_add_zero, Nat.zero_add] at hc
  rw [hc]
  exact congrArg (fun z => some (Value.int .i64 z)) (List.getElem?_eq_some_iff.1 hx).2
theorem inval {D : DD} (h : Calm D) {f : Int} (hf : okF f = false) : writeD D f [] = (1, D) ∧ syncD D f = (1, D) ∧ cutD D f 0 = (1, D) ∧ overD D f 0 [] = (1, D) ∧ readD D f = [] := by
  refine ⟨?_, ?_, ?_, ?_, ?_⟩
  · unfold writeD writeR; rw [hf, if_neg (by decide), opD_calm h, if_pos (by decide)]
  · unfold syncD; rw [hf, opD_calm h, if_pos (by decide)]; rfl
  · unfold cutD cutOk; rw [hf, Bool.false_and, opD_calm h, if_pos (by decide)]; rfl
  · unfold overD overOk; rw [hf, Bool.false_and, opD_calm h, if_pos (by decide)]; rfl
  · unfold readD; rw [hf]; rfl
def dk0 : DD := newD 10
theorem dk_ok0 : DOK dk0 := DOK.new _
theorem dk_n0 : dk0.done ≤ 1000000000 := by decide +kernel
def dk1 : DD := (writeD dk0 1 [97, 98, 99, 100]).2
theorem dk_e1 : (writeD dk0 1 [97, 98, 99, 100]).1 = 0 := by kernel_rfl
theorem dk_ok1 : DOK dk1 := dk_ok0.write _ _
theorem dk_n1 : dk1.done ≤ 1000000000 := by decide +kernel
def dk2 : DD := (syncD dk1 1).2
theorem dk_e2 : (syncD dk1 1).1 = 0 := by kernel_rfl
theorem dk_ok2 : DOK dk2 := dk_ok1.sync _
theorem dk_n2 : dk2.done ≤ 1000000000 := by decide +kernel
def dk3 : DD := (writeD dk2 1 [101, 102, 103]).2
theorem dk_e3 : (writeD dk2 1 [101, 102, 103]).1 = 0 := by kernel_rfl
theorem dk_ok3 : DOK dk3 := dk_ok2.write _ _
theorem dk_n3 : dk3.done ≤ 1000000000 := by decide +kernel
theorem dk_u3 : usedL dk3.fs = 7 := by kernel_rfl
def dk4 : DD := crashD dk3 [2]
theorem dk_ok4 : DOK dk4 := dk_ok3.crash _
theorem dk_n4 : dk4.done ≤ 1000000000 := by decide +kernel
def dk5 : DD := (overD dk4 1 1 [88, 89]).2
theorem dk_e5 : (overD dk4 1 1 [88, 89]).1 = 0 := by kernel_rfl
theorem dk_ok5 : DOK dk5 := dk_ok4.over _ _ _
theorem dk_n5 : dk5.done ≤ 1000000000 := by decide +kernel
def dk6 : DD := (overD dk5 1 5 [88, 89]).2
theorem dk_e6 : (overD dk5 1 5 [88, 89]).1 = 1 := by kernel_rfl
theorem dk_ok6 : DOK dk6 := dk_ok5.over _ _ _
theorem dk_n6 : dk6.done ≤ 1000000000 := by decide +kernel
theorem dk_r6 : readD dk6 1 = [97, 88, 89, 100, 101, 102] := by kernel_rfl
def dk7 : DD := armD dk6 1
theorem dk_ok7 : DOK dk7 := dk_ok6.arm _ (by decide)
theorem dk_n7 : dk7.done ≤ 1000000000 := by decide +kernel
def dk8 : DD := (cutD dk7 1 4).2
theorem dk_e8 : (cutD dk7 1 4).1 = 0 := by kernel_rfl
theorem dk_ok8 : DOK dk8 := dk_ok7.cut _ _
theorem dk_n8 : dk8.done ≤ 1000000000 := by decide +kernel
def dk9 : DD := (writeD dk8 1 [122]).2
theorem dk_e9 : (writeD dk8 1 [122]).1 = 9 := by kernel_rfl
theorem dk_ok9 : DOK dk9 := dk_ok8.write _ _
theorem dk_n9 : dk9.done ≤ 1000000000 := by decide +kernel
def dk10 : DD := (syncD dk9 1).2
theorem dk_e10 : (syncD dk9 1).1 = 9 := by kernel_rfl
theorem dk_ok10 : DOK dk10 := dk_ok9.sync _
theorem dk_n10 : dk10.done ≤ 1000000000 := by decide +kernel
theorem dk_o10 : dk10.off = true := by kernel_rfl
def dk11 : DD := crashD dk10 [1]
theorem dk_ok11 : DOK dk11 := dk_ok10.crash _
theorem dk_n11 : dk11.done ≤ 1000000000 := by decide +kernel
theorem dk_r11 : readD dk11 1 = [97, 88, 89, 100, 122] := by kernel_rfl
theorem dk_c11 : dk11.done = 6 := by kernel_rfl
theorem dk_calm : Calm dk11 := ⟨by kernel_rfl, by kernel_rfl⟩
def dk12 : DD := (writeD dk11 32 []).2
theorem dk_e12 : (writeD dk11 32 []).1 = 0 := by kernel_rfl
theorem dk_ok12 : DOK dk12 := dk_ok11.write _ _
theorem dk_n12 : dk12.done ≤ 1000000000 := by decide +kernel
def dk13 : DD := (cutD dk12 1 6).2
theorem dk_e13 : (cutD dk12 1 6).1 = 1 := by kernel_rfl
theorem dk_ok13 : DOK dk13 := dk_ok12.cut _ _
theorem dk_n13 : dk13.done ≤ 1000000000 := by decide +kernel
def dk14 : DD := (cutD dk13 1 (-1)).2
theorem dk_e14 : (cutD dk13 1 (-1)).1 = 1 := by kernel_rfl
theorem dk_ok14 : DOK dk14 := dk_ok13.cut _ _
theorem dk_n14 : dk14.done ≤ 1000000000 := by decide +kernel
def dk15 : DD := (cutD dk14 1 5).2
theorem dk_e15 : (cutD dk14 1 5).1 = 0 := by kernel_rfl
theorem dk_ok15 : DOK dk15 := dk_ok14.cut _ _
theorem dk_n15 : dk15.done ≤ 1000000000 := by decide +kernel
def dk16 : DD := (overD dk15 1 5 []).2
theorem dk_e16 : (overD dk15 1 5 []).1 = 0 := by kernel_rfl
theorem dk_ok16 : DOK dk16 := dk_ok15.over _ _ _
theorem dk_n16 : dk16.done ≤ 1000000000 := by decide +kernel
def dk17 : DD := (overD dk16 1 6 []).2
theorem dk_e17 : (overD dk16 1 6 []).1 = 1 := by kernel_rfl
theorem dk_ok17 : DOK dk17 := dk_ok16.over _ _ _
theorem dk_n17 : dk17.done ≤ 1000000000 := by decide +kernel
def dk18 : DD := (overD dk17 1 (-9223372036854775808) []).2
theorem dk_e18 : (overD dk17 1 (-9223372036854775808) []).1 = 1 := by kernel_rfl
theorem dk_ok18 : DOK dk18 := dk_ok17.over _ _ _
theorem dk_n18 : dk18.done ≤ 1000000000 := by decide +kernel
def dk19 : DD := (overD dk18 1 9223372036854775807 []).2
theorem dk_e19 : (overD dk18 1 9223372036854775807 []).1 = 1 := by kernel_rfl
theorem dk_ok19 : DOK dk19 := dk_ok18.over _ _ _
theorem dk_n19 : dk19.done ≤ 1000000000 := by decide +kernel
def dk20 : DD := armD dk19 0
theorem dk_ok20 : DOK dk20 := dk_ok19.arm _ (by decide)
theorem dk_n20 : dk20.done ≤ 1000000000 := by decide +kernel
def dk21 : DD := armD dk20 (-9223372036854775808)
theorem dk_ok21 : DOK dk21 := dk_ok20.arm _ (by decide)
theorem dk_n21 : dk21.done ≤ 1000000000 := by decide +kernel
def dk22 : DD := (syncD dk21 1).2
theorem dk_e22 : (syncD dk21 1).1 = 0 := by kernel_rfl
theorem dk_ok22 : DOK dk22 := dk_ok21.sync _
theorem dk_n22 : dk22.done ≤ 1000000000 := by decide +kernel
theorem dk_new_a : (newD (-5)).room = 0 := by decide +kernel
theorem dk_new_b : (newD 1099511627776).room = 262144 := by decide +kernel
end Go.Proofs.Ytjfnpndpigpaiaa
