import Derived.Test.YtpkdpdpobddnpaaGreatFmtA42
/- Here stand lemmas: closed facts of the row. -/
set_option linter.unusedVariables false
set_option linter.unusedVariables false
namespace Go.Proofs.YtpkdpdpobddnpaaGreatFmt.spanTwos
open Go.Eng Go.ChangeShapes Go.WideShapes Go.ChangeAt Go.RowKit
theorem k3 : Rows.spanTwosRow.inPlace = Tryz.prog.inPlace 3 := by kernel_rfl
theorem k4 : Rows.spanTwosRow.unfollowed = Tryz.prog.unfollowed 3 := by kernel_rfl
theorem k5 : Rows.spanTwosRow.recurses = Tryz.prog.recurses 3 := by kernel_rfl
theorem k6 : Rows.spanTwosRow.named = Tryz.prog.varsNamed 3 := by kernel_rfl
end Go.Proofs.YtpkdpdpobddnpaaGreatFmt.spanTwos
