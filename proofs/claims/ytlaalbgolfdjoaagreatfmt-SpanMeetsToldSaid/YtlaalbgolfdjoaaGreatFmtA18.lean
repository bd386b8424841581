import Derived.Test.YtlaalbgolfdjoaaGreatFmtA03
/- Here stand lemmas: plumbref4: what the functions come to (written by program). -/
set_option linter.unusedVariables false
namespace Go.Proofs
open Go Go.Eng
end Go.Proofs
