import Derived.Test.YtedmhkimbbkdgaaGreatFmtA37
import Derived.Test.YtedmhkimbbkdgaaGreatFmtA36
import Derived.Test.YtedmhkimbbkdgaaGreatFmtA03
/- Here stand lemmas: round.Add, round.Mul, span.Add, span.Mul. -/
set_option linter.unusedVariables false
set_option linter.unusedVariables false
namespace Go.Proofs
open Go Go.Eng
variable {B : World} {R : Ending → Heap → Prop} {h : Heap}
theorem dirV_I64 (w : Nat) (m e : Int) : I64 (dirV w m e) := by
  unfold dirV; split
  · unfold I64; omega
  · have := dirP_le w (decide (m < 0)) m.natAbs e
    have hI : INF = 9218868437227405312 := rfl
    exact pat_I64 (by omega)
end Go.Proofs
set_option linter.unusedVariables false
namespace Go.Eng
open Go
theorem dirV_nan (w : Nat) (m e : Int) : isNaN (dirV w m e) = false := by
  unfold dirV; split
  · decide
  · exact pat_nan (dirP_le _ _ _ _)
end Go.Eng
namespace Go.Proofs
open Go Go.Eng
variable {B : World} {R : Ending → Heap → Prop} {h : Heap}
end Go.Proofs
