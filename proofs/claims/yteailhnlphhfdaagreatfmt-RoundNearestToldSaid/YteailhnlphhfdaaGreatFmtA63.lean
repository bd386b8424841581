import Derived.Test.YteailhnlphhfdaaGreatFmtA42
/- Here stand lemmas: closed facts of the row. -/
set_option linter.unusedVariables false
set_option linter.unusedVariables false
namespace Go.Proofs.YteailhnlphhfdaaGreatFmt.roundNearest
open Go.Eng Go.ChangeShapes Go.WideShapes Go.ChangeAt Go.RowKit
theorem k3 : Rows.roundNearestRow.inPlace = Tryz.prog.inPlace 4 := by kernel_rfl
theorem k4 : Rows.roundNearestRow.unfollowed = Tryz.prog.unfollowed 4 := by kernel_rfl
theorem k5 : Rows.roundNearestRow.recurses = Tryz.prog.recurses 4 := by kernel_rfl
theorem k6 : Rows.roundNearestRow.named = Tryz.prog.varsNamed 4 := by kernel_rfl
end Go.Proofs.YteailhnlphhfdaaGreatFmt.roundNearest
