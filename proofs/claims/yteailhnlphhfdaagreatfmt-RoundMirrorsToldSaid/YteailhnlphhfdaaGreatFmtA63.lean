import Derived.Test.YteailhnlphhfdaaGreatFmtA42
/- Here stand lemmas: closed facts of the row. -/
set_option linter.unusedVariables false
set_option linter.unusedVariables false
namespace Go.Proofs.YteailhnlphhfdaaGreatFmt.roundMirrors
open Go.Eng Go.ChangeShapes Go.WideShapes Go.ChangeAt Go.RowKit
theorem k3 : Rows.roundMirrorsRow.inPlace = Tryz.prog.inPlace 5 := by kernel_rfl
theorem k4 : Rows.roundMirrorsRow.unfollowed = Tryz.prog.unfollowed 5 := by kernel_rfl
theorem k5 : Rows.roundMirrorsRow.recurses = Tryz.prog.recurses 5 := by kernel_rfl
theorem k6 : Rows.roundMirrorsRow.named = Tryz.prog.varsNamed 5 := by kernel_rfl
end Go.Proofs.YteailhnlphhfdaaGreatFmt.roundMirrors
