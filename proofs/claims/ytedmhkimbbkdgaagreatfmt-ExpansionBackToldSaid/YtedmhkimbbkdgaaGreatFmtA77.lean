import Derived.Test.YtedmhkimbbkdgaaGreatFmtA42
/- Here stand lemmas: closed facts of the row. -/
set_option linter.unusedVariables false
set_option linter.unusedVariables false
namespace Go.Proofs.YtedmhkimbbkdgaaGreatFmt.expansionBack
open Go.Eng Go.ChangeShapes Go.WideShapes Go.ChangeAt Go.RowKit
theorem k3 : Rows.expansionBackRow.inPlace = Tryz.prog.inPlace 3 := by kernel_rfl
theorem k4 : Rows.expansionBackRow.unfollowed = Tryz.prog.unfollowed 3 := by kernel_rfl
theorem k5 : Rows.expansionBackRow.recurses = Tryz.prog.recurses 3 := by kernel_rfl
theorem k6 : Rows.expansionBackRow.named = Tryz.prog.varsNamed 3 := by kernel_rfl
end Go.Proofs.YtedmhkimbbkdgaaGreatFmt.expansionBack
