import Derived.Test.YtoclhdcpjlcdiaaGreatFmtA42
/- Here stand lemmas: closed facts of the row. -/
set_option linter.unusedVariables false
set_option linter.unusedVariables false
namespace Go.Proofs.YtoclhdcpjlcdiaaGreatFmt.roundWhole
open Go.Eng Go.ChangeShapes Go.WideShapes Go.ChangeAt Go.RowKit
theorem k3 : Rows.roundWholeRow.inPlace = Tryz.prog.inPlace 3 := by kernel_rfl
theorem k4 : Rows.roundWholeRow.unfollowed = Tryz.prog.unfollowed 3 := by kernel_rfl
theorem k5 : Rows.roundWholeRow.recurses = Tryz.prog.recurses 3 := by kernel_rfl
theorem k6 : Rows.roundWholeRow.named = Tryz.prog.varsNamed 3 := by kernel_rfl
end Go.Proofs.YtoclhdcpjlcdiaaGreatFmt.roundWhole
