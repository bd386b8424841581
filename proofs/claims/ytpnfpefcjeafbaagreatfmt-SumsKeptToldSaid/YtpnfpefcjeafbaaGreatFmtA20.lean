import Derived.Test.YtpnfpefcjeafbaaGreatFmtA17
/- Here stand lemmas and contracts, in the order in which they are used. -/
set_option linter.unusedVariables false
set_option linter.unusedVariables false
namespace Go.Proofs.YtpnfpefcjeafbaaGreatFmt.sumsKept
open Go.Eng Go.ChangeShapes Go.WideShapes Go.ChangeAt Go.RowKit
theorem k3 : Rows.sumsKeptRow.inPlace = Tryz.prog.inPlace 3 := by kernel_rfl
theorem k4 : Rows.sumsKeptRow.unfollowed = Tryz.prog.unfollowed 3 := by kernel_rfl
theorem k5 : Rows.sumsKeptRow.recurses = Tryz.prog.recurses 3 := by kernel_rfl
theorem k6 : Rows.sumsKeptRow.named = Tryz.prog.varsNamed 3 := by kernel_rfl
end Go.Proofs.YtpnfpefcjeafbaaGreatFmt.sumsKept
