import Derived.Test.YtpnfpefcjeafbaaGreatFmtA18
/- Here stand lemmas and contracts, in the order in which they are used. -/
set_option linter.unusedVariables false
set_option linter.unusedVariables false
namespace Go.Proofs.YtpnfpefcjeafbaaGreatFmt.sumsWide
open Go.Eng Go.ChangeShapes Go.WideShapes Go.ChangeAt Go.RowKit
theorem k3 : Rows.sumsWideRow.inPlace = Tryz.prog.inPlace 5 := by kernel_rfl
theorem k4 : Rows.sumsWideRow.unfollowed = Tryz.prog.unfollowed 5 := by kernel_rfl
theorem k5 : Rows.sumsWideRow.recurses = Tryz.prog.recurses 5 := by kernel_rfl
theorem k6 : Rows.sumsWideRow.named = Tryz.prog.varsNamed 5 := by kernel_rfl
end Go.Proofs.YtpnfpefcjeafbaaGreatFmt.sumsWide
