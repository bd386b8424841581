import Derived.Test.YtkfafikejdhccaaGreatDoorA18
import Derived.Test.YtkfafikejdhccaaGreatDoorA23
import Derived.WideKeyArgs
/- Here stand lemmas: slices of pairs that came in. -/
set_option linter.unusedVariables false
namespace Go.Proofs.YtkfafikejdhccaaGreatDoor
open Go.Eng Go.ChangeShapes Go.WideShapes Go.ChangeAt Go.RowKit
theorem c3 : Tryz.prog.cellsOf 3 = 1 := by kernel_rfl
end Go.Proofs.YtkfafikejdhccaaGreatDoor
