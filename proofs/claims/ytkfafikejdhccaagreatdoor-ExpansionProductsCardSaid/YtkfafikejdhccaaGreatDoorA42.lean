import Derived.Test.YtkfafikejdhccaaGreatDoorA20
/- Here stand lemmas: what bits.Ulp comes to (written by program). -/
set_option linter.unusedVariables false
namespace Go.Proofs
open Go Go.Eng
end Go.Proofs
