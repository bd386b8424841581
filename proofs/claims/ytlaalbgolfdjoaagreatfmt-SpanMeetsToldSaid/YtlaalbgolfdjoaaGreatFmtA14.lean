import Derived.Test.YtlaalbgolfdjoaaGreatFmtA03
/- Here stand lemmas: what the functions of this file come to, third part (written by program). -/
set_option linter.unusedVariables false
namespace Go.Proofs
open Go Go.Eng
end Go.Proofs
