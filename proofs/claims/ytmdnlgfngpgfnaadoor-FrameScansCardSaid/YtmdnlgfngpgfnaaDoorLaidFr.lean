/- The table of steps, as the program lays it, in memory. -/
import Derived.Test.YtmdnlgfngpgfnaaDoorRows
import Derived.Test.YtmdnlgfngpgfnaaDoorFr1
import Derived.ProofKit
import Derived.LaidMore
import Derived.OpenShut
import Derived.Stop.Joined
namespace Go.Proofs.YtmdnlgfngpgfnaaDoor
open Go.ChangeShapes Go.WideShapes Go.ChangeAt Go.RowKit

def laidF : List (String × DataW Unit) := [("sealery/frame.steps", Rows.laid_sealery_frame_steps)]
theorem ownF : ownKnob Tryd.prog.godebug = none := by kernel_rfl
theorem laidOutF : laidOutB Tryd.prog = true := by kernel_rfl
theorem gSteps : Tryd.prog.globalNamed "sealery/frame.steps" = some 0 := by kernel_rfl
theorem tSteps : (Tryd.prog.globals[0]?).map (·.type) = some 54 := by kernel_rfl
theorem door_metF (os : Os) (args : Array Value) : laidMetH Tryd.prog laidF ((World.doorLaid Tryd.prog 400 os).forCall (fun _ _ => 0) ⟨#[], args, []⟩).memory :=
  laidMetH_of_parts3 (fuel := 8) (laidMet_of_run' 8 (by kernel_rfl) (by kernel_rfl)) (by kernel_rfl) (by kernel_rfl)
theorem laid_list : (Rows.laid_sealery_frame_steps : DataW Unit) = .agg ((List.range 16).map fun i => .lit (.int .u32 (wv (tab i)))) := by kernel_rfl

theorem steps_of_laid {W : World} (h : laidMetH Tryd.prog laidF W) : Steps W := by
  rw [MakeChecks.laidMetH_plain _ _ _ (by kernel_rfl)] at h
  obtain ⟨ps, ⟨g0, t0, cs0, f0, p0, q0, hg0, ht0, hv0, hd0, _⟩, _, _⟩ := h
  obtain rfl := Option.some.inj (gSteps.symm.trans hg0)
  obtain rfl := Option.some.inj (tSteps.symm.trans ht0)
  obtain ⟨xs, m1, rfl, hx1, hlen, hn3, hel⟩ := DataW.trod_array Tryd.underlying54 hd0
  have c1 : Tryd.prog.cellsOf 29 = 1 := by kernel_rfl
  simp only [Prod.mk.injEq] at hx1
  rw [laid_list] at hx1
  have hx := hx1.1
  injection hx with hx
  intro i hi
  have h0 := hel i hi
  rw [c1, Nat.mul_one, List.getElem?_eq_getElem (show i < xs.length by omega)] at h0
  obtain ⟨n, e1, e2, _⟩ := DataW.trod_int Tryd.underlying29 h0
  have h2 : (xs.map (·.1))[i]? = some (.lit (.int .u32 n)) := by
    rw [List.getElem?_map, List.getElem?_eq_getElem (show i < xs.length by omega), e2]; rfl
  rw [← hx, List.getElem?_map, List.getElem?_range hi] at h2
  simp only [Option.map_some, Option.some.injEq, DataW.lit.injEq, Lit.int.injEq, true_and] at h2
  rw [World.var?_cell hg0 hv0 i, h2]
  have h3 : cs0.toList[i]? = some (.int .u32 n) := by
    have h4 : ((cs0.toList.drop i).take 1)[0]? = some (.int .u32 n) := by rw [e1]; rfl
    rw [List.getElem?_take, if_pos (by decide), List.getElem?_drop] at h4
    exact h4
  simpa using h3
end Go.Proofs.YtmdnlgfngpgfnaaDoor
