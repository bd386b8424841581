import Derived.Test.YtkfafikejdhccaaGreatDoorA20
/- Here stand lemmas: what pairs, sums and differences come to (written by program). -/
set_option linter.unusedVariables false
namespace Go.Proofs
open Go Go.Eng
end Go.Proofs
