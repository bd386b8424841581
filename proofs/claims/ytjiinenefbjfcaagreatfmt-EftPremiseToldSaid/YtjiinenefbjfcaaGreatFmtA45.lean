import Derived.Test.YtjiinenefbjfcaaGreatFmtA42
/- Here stand lemmas: closed facts of the row. -/
set_option linter.unusedVariables false
set_option linter.unusedVariables false
namespace Go.Proofs.YtjiinenefbjfcaaGreatFmt.eftPremise
open Go.Eng Go.ChangeShapes Go.WideShapes Go.ChangeAt Go.RowKit
theorem k3 : Rows.eftPremiseRow.inPlace = Tryz.prog.inPlace 3 := by kernel_rfl
theorem k4 : Rows.eftPremiseRow.unfollowed = Tryz.prog.unfollowed 3 := by kernel_rfl
theorem k5 : Rows.eftPremiseRow.recurses = Tryz.prog.recurses 3 := by kernel_rfl
theorem k6 : Rows.eftPremiseRow.named = Tryz.prog.varsNamed 3 := by kernel_rfl
end Go.Proofs.YtjiinenefbjfcaaGreatFmt.eftPremise
