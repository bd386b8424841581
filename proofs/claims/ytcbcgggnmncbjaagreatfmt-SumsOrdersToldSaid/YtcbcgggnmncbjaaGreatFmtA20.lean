import Derived.Test.YtcbcgggnmncbjaaGreatFmtA17
/- Here stand lemmas and contracts, in the order in which they are used. -/
set_option linter.unusedVariables false
set_option linter.unusedVariables false
namespace Go.Proofs.YtcbcgggnmncbjaaGreatFmt.sumsOrders
open Go.Eng Go.ChangeShapes Go.WideShapes Go.ChangeAt Go.RowKit
theorem k3 : Rows.sumsOrdersRow.inPlace = Tryz.prog.inPlace 3 := by kernel_rfl
theorem k4 : Rows.sumsOrdersRow.unfollowed = Tryz.prog.unfollowed 3 := by kernel_rfl
theorem k5 : Rows.sumsOrdersRow.recurses = Tryz.prog.recurses 3 := by kernel_rfl
theorem k6 : Rows.sumsOrdersRow.named = Tryz.prog.varsNamed 3 := by kernel_rfl
end Go.Proofs.YtcbcgggnmncbjaaGreatFmt.sumsOrders
