import Derived.Test.YtcbcgggnmncbjaaGreatFmtA18
/- Here stand lemmas and contracts, in the order in which they are used. -/
set_option linter.unusedVariables false
set_option linter.unusedVariables false
namespace Go.Proofs.YtcbcgggnmncbjaaGreatFmt.sumsOnce
open Go.Eng Go.ChangeShapes Go.WideShapes Go.ChangeAt Go.RowKit
theorem k3 : Rows.sumsOnceRow.inPlace = Tryz.prog.inPlace 4 := by kernel_rfl
theorem k4 : Rows.sumsOnceRow.unfollowed = Tryz.prog.unfollowed 4 := by kernel_rfl
theorem k5 : Rows.sumsOnceRow.recurses = Tryz.prog.recurses 4 := by kernel_rfl
theorem k6 : Rows.sumsOnceRow.named = Tryz.prog.varsNamed 4 := by kernel_rfl
end Go.Proofs.YtcbcgggnmncbjaaGreatFmt.sumsOnce
