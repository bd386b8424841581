import Derived.Test.YtobkdplpkgikhaaGreatFmtA18
/- Here stand lemmas and contracts, in the order in which they are used. -/
set_option linter.unusedVariables false
set_option linter.unusedVariables false
namespace Go.Proofs.YtobkdplpkgikhaaGreatFmt
open Go.Eng Go.ChangeShapes Go.WideShapes Go.ChangeAt Go.RowKit
theorem stillAll : (Tryz.prog.funcs.all fun fn => !fn.goes) = true := by kernel_rfl
theorem goes_none {P : Program} (h : (P.funcs.all fun fn => !fn.goes) = true) (f : FuncId) : P.goes f = false := by
  have h1 : ∀ g : FuncId, (P.funcs[g]?).any Func.goes = false := fun g => by
    cases hg : P.funcs[g]? with
    | none => rfl
    | some fn =>
      have := Array.all_eq_true'.1 h fn (Array.mem_of_getElem? hg)
      simpa using this
  have h2 : P.funcs.any Func.goes = false := by
    rw [Array.any_eq_false']
    intro fn hm
    have := Array.all_eq_true'.1 h fn hm
    simpa using this
  unfold Program.goes
  rw [h2, Bool.and_false, Bool.or_false, List.any_eq_false]
  intro g hg
  rw [h1 g]; decide
theorem goes_entering {c : OpenClaim} {P : Program} (hs : c.start = .entering) (h : (P.funcs.all fun fn => !fn.goes) = true) : false = c.goesBy P := by
  unfold OpenClaim.goesBy Program.goesAt Program.goesFrom
  rw [hs]
  cases hf : P.funcNamed c.func with
  | none => rfl
  | some f => simp [goes_none h f]
theorem mapsR : mapsRowed Tryz.prog = true := by kernel_rfl
theorem envW : Tryz.prog.envWorded = true := by kernel_rfl
theorem mainis : Tryz.prog.mainIs = some (true, "a12b49a3c31080d3bb9e001b97853aefaab529e88a8f0fc4f6ef1baeb7f5f65a".toList) := by kernel_rfl
theorem looksY : true = Tryz.prog.looks [] := by kernel_rfl
theorem enterM : Tryz.prog.mayEnter = true := by kernel_rfl
theorem heard : Tryz.prog.stopsHeard = true := by kernel_rfl
end Go.Proofs.YtobkdplpkgikhaaGreatFmt
