import Derived.Test.YtkfafikejdhccaaGreatDoorA18
import Derived.Test.YtkfafikejdhccaaGreatDoorA46
/- Here stand lemmas: the variable karatsubaThreshold. -/
set_option linter.unusedVariables false
set_option linter.unusedVariables false
namespace Go.Proofs.YtkfafikejdhccaaGreatDoor
open Go Go.Eng Go.ChangeShapes Go.WideShapes Go.ChangeAt Go.RowKit
theorem gKar : Tryz.prog.globalNamed "math/big.karatsubaThreshold" = some 4 := by kernel_rfl
theorem tKar : (Tryz.prog.globals[4]?).map (·.type) = some 3 := by kernel_rfl
theorem dKar {H : Type} : (Rows.laid_math_big_karatsubaThreshold : DataW H) = .lit (.int .i64 40) := rfl
theorem kar_of_laid {W : World} (h : laidMetH Tryz.prog laid7 W) : TabK W.heap := by
  rw [MakeChecks.laidMetH_plain _ _ _ (by kernel_rfl)] at h
  obtain ⟨ps, ⟨g0, t0, cs0, f0, p0, q0, _, _, _, _, ⟨g1, t1, cs1, f1, p1, q1, _, _, _, _, ⟨g2, t2, cs2, f2, p2, q2, _, _, _, _, ⟨g3, t3, cs3, f3, p3, q3, _, _, _, _, ⟨g4, t4, cs4, f4, p4, q4, hg4, ht4, hv4, hd4, _, _⟩, _⟩, _⟩, _⟩, _⟩, _, _⟩ := h
  obtain rfl := Option.some.inj (gKar.symm.trans hg4)
  obtain rfl := Option.some.inj (tKar.symm.trans ht4)
  obtain ⟨n, e1, e2, _⟩ := DataW.trod_int Tryz.underlying3 hd4
  rw [dKar] at e2
  have hn : (40 : Int) = n := by simp at e2; exact e2.1
  have hc : W.cell? ⟨4, 0, none⟩ = some (.int .i64 40) := by
    rw [World.var?_cell hg4 hv4 0, hn]
    have := congrArg (·[0]?) e1
    simpa using this
  refine ⟨?_, hc⟩
  unfold World.cell? at hc
  cases hb : W.heap[4]? with
  | none => simp [hb] at hc
  | some o => exact (Array.getElem?_eq_some_iff.1 hb).1
end Go.Proofs.YtkfafikejdhccaaGreatDoor
