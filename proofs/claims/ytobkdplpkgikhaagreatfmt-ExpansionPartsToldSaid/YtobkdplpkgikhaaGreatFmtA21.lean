import Derived.Test.YtobkdplpkgikhaaGreatFmtA18
/- Here stand lemmas and contracts, in the order in which they are used. -/
set_option linter.unusedVariables false
set_option linter.unusedVariables false
namespace Go.Proofs.YtobkdplpkgikhaaGreatFmt.expansionParts
open Go.Eng Go.ChangeShapes Go.WideShapes Go.ChangeAt Go.RowKit
theorem k3 : Rows.expansionPartsRow.inPlace = Tryz.prog.inPlace 3 := by kernel_rfl
theorem k4 : Rows.expansionPartsRow.unfollowed = Tryz.prog.unfollowed 3 := by kernel_rfl
theorem k5 : Rows.expansionPartsRow.recurses = Tryz.prog.recurses 3 := by kernel_rfl
theorem k6 : Rows.expansionPartsRow.named = Tryz.prog.varsNamed 3 := by kernel_rfl
end Go.Proofs.YtobkdplpkgikhaaGreatFmt.expansionParts
