import Derived.Test.YtlaalbgolfdjoaaGreatFmtA16
/- Here stand lemmas: plumbref4: contracts. -/
set_option linter.unusedVariables false
namespace Go.Proofs
open Go Go.Eng
variable {B : World} {R : Ending → Heap → Prop} {h : Heap}
end Go.Proofs
