import Derived.Test.YtoclhdcpjlcdiaaGreatFmtA25
import Derived.Test.YtoclhdcpjlcdiaaGreatFmtA22
import Derived.WalkKit
import Derived.Test.YtoclhdcpjlcdiaaGreatFmtA07
/- Here stand lemmas: further walks of dyadic. -/
set_option linter.unusedVariables false
namespace Go.Proofs
open Go Go.Eng
variable {B : World} {R : Ending → Heap → Prop} {h : Heap}
theorem cls_no (b : Int) : decide ((2 : Int) < cls b) = !isFin b := by
  rw [← cls_fin]
  by_cases h : cls b < 3
  · rw [decide_eq_true h, decide_eq_false (by omega)]; rfl
  · rw [decide_eq_false h, decide_eq_true (by omega)]; rfl
end Go.Proofs
