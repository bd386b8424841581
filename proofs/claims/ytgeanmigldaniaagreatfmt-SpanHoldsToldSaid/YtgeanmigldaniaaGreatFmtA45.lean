import Derived.Test.YtgeanmigldaniaaGreatFmtA42
/- Here stand lemmas: closed facts of the row. -/
set_option linter.unusedVariables false
set_option linter.unusedVariables false
namespace Go.Proofs.YtgeanmigldaniaaGreatFmt.spanHolds
open Go.Eng Go.ChangeShapes Go.WideShapes Go.ChangeAt Go.RowKit
theorem k3 : Rows.spanHoldsRow.inPlace = Tryz.prog.inPlace 4 := by kernel_rfl
theorem k4 : Rows.spanHoldsRow.unfollowed = Tryz.prog.unfollowed 4 := by kernel_rfl
theorem k5 : Rows.spanHoldsRow.recurses = Tryz.prog.recurses 4 := by kernel_rfl
theorem k6 : Rows.spanHoldsRow.named = Tryz.prog.varsNamed 4 := by kernel_rfl
end Go.Proofs.YtgeanmigldaniaaGreatFmt.spanHolds
