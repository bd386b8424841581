import Derived.Test.YteailhnlphhfdaaGreatFmtA41
import Derived.Test.YteailhnlphhfdaaGreatFmtA46
import Derived.Test.YteailhnlphhfdaaGreatFmtA03
/- Here stand lemmas: the walk of SpanHolds. -/
set_option linter.unusedVariables false
set_option linter.unusedVariables false
namespace Go.Proofs
open Go Go.Eng
variable {B : World} {R : Ending → Heap → Prop} {h : Heap}
theorem bl_scale {v : Int} {L d : Nat} (h : bl v.natAbs ≤ L) : bl (v * ((2 ^ d : Nat) : Int)).natAbs ≤ L + d := by
  rw [bl_le_iff] at *
  rw [Int.natAbs_mul, Int.natAbs_natCast, Nat.pow_add]
  exact Nat.mul_lt_mul_of_pos_right h (Nat.pow_pos (by decide))
end Go.Proofs
