import Derived.Test.YtgeanmigldaniaaGreatFmtA42
/- Here stand lemmas: closed facts of the row. -/
set_option linter.unusedVariables false
set_option linter.unusedVariables false
namespace Go.Proofs.YtgeanmigldaniaaGreatFmt.spanLess
open Go.Eng Go.ChangeShapes Go.WideShapes Go.ChangeAt Go.RowKit
theorem k3 : Rows.spanLessRow.inPlace = Tryz.prog.inPlace 3 := by kernel_rfl
theorem k4 : Rows.spanLessRow.unfollowed = Tryz.prog.unfollowed 3 := by kernel_rfl
theorem k5 : Rows.spanLessRow.recurses = Tryz.prog.recurses 3 := by kernel_rfl
theorem k6 : Rows.spanLessRow.named = Tryz.prog.varsNamed 3 := by kernel_rfl
end Go.Proofs.YtgeanmigldaniaaGreatFmt.spanLess
