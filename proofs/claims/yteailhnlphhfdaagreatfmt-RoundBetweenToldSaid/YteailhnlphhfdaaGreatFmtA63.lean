import Derived.Test.YteailhnlphhfdaaGreatFmtA42
/- Here stand lemmas: closed facts of the row. -/
set_option linter.unusedVariables false
set_option linter.unusedVariables false
namespace Go.Proofs.YteailhnlphhfdaaGreatFmt.roundBetween
open Go.Eng Go.ChangeShapes Go.WideShapes Go.ChangeAt Go.RowKit
theorem k3 : Rows.roundBetweenRow.inPlace = Tryz.prog.inPlace 3 := by kernel_rfl
theorem k4 : Rows.roundBetweenRow.unfollowed = Tryz.prog.unfollowed 3 := by kernel_rfl
theorem k5 : Rows.roundBetweenRow.recurses = Tryz.prog.recurses 3 := by kernel_rfl
theorem k6 : Rows.roundBetweenRow.named = Tryz.prog.varsNamed 3 := by kernel_rfl
end Go.Proofs.YteailhnlphhfdaaGreatFmt.roundBetween
