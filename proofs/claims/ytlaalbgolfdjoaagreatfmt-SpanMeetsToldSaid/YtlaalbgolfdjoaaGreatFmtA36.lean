import Derived.Test.YtlaalbgolfdjoaaGreatFmtA35
/- Here stand lemmas: closed facts of the row. -/
set_option linter.unusedVariables false
set_option linter.unusedVariables false
namespace Go.Proofs.YtlaalbgolfdjoaaGreatFmt.spanMeets
open Go.Eng Go.ChangeShapes Go.WideShapes Go.ChangeAt Go.RowKit
theorem k3 : Rows.spanMeetsRow.inPlace = Tryz.prog.inPlace 4 := by kernel_rfl
theorem k4 : Rows.spanMeetsRow.unfollowed = Tryz.prog.unfollowed 4 := by kernel_rfl
theorem k5 : Rows.spanMeetsRow.recurses = Tryz.prog.recurses 4 := by kernel_rfl
theorem k6 : Rows.spanMeetsRow.named = Tryz.prog.varsNamed 4 := by kernel_rfl
end Go.Proofs.YtlaalbgolfdjoaaGreatFmt.spanMeets
