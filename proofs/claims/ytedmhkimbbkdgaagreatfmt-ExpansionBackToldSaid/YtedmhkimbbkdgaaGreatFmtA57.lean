import Derived.Test.YtedmhkimbbkdgaaGreatFmtA56
import Derived.Test.YtedmhkimbbkdgaaGreatFmtA32
import Derived.Test.YtedmhkimbbkdgaaGreatFmtA33
/- Here stand lemmas: the nearest float of a sum, of a product; the walk of EftPremise. -/
set_option linter.unusedVariables false
set_option linter.unusedVariables false
namespace Go.Eng
open Go
theorem rk_pz (x : Int) : rk (Go.Proofs.pz x) = rk x := by
  unfold Go.Proofs.pz
  split
  · rename_i h; subst h; decide
  · rfl
end Go.Eng
namespace Go.Eng
open Go
end Go.Eng
namespace Go.Proofs
open Go Go.Eng
end Go.Proofs
