import Derived.Test.YtkfafikejdhccaaGreatDoorA07
import Derived.WalkKit
import Derived.Test.YtkfafikejdhccaaGreatDoorA08
/- Here stand lemmas: the deferred function of dyadic behind a panic. -/
set_option linter.unusedVariables false
namespace Go.Proofs
open Go Go.Eng
variable {B : World} {R : Ending → Heap → Prop} {h : Heap}
end Go.Proofs
