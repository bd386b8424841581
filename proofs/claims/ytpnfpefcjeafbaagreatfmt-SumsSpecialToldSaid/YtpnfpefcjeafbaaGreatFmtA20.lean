import Derived.Test.YtpnfpefcjeafbaaGreatFmtA17
/- Here stand lemmas and contracts, in the order in which they are used. -/
set_option linter.unusedVariables false
set_option linter.unusedVariables false
namespace Go.Proofs.YtpnfpefcjeafbaaGreatFmt.sumsSpecial
open Go.Eng Go.ChangeShapes Go.WideShapes Go.ChangeAt Go.RowKit
theorem k3 : Rows.sumsSpecialRow.inPlace = Tryz.prog.inPlace 4 := by kernel_rfl
theorem k4 : Rows.sumsSpecialRow.unfollowed = Tryz.prog.unfollowed 4 := by kernel_rfl
theorem k5 : Rows.sumsSpecialRow.recurses = Tryz.prog.recurses 4 := by kernel_rfl
theorem k6 : Rows.sumsSpecialRow.named = Tryz.prog.varsNamed 4 := by kernel_rfl
end Go.Proofs.YtpnfpefcjeafbaaGreatFmt.sumsSpecial
