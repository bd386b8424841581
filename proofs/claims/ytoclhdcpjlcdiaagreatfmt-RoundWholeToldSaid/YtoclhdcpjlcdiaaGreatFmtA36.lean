import Derived.Test.YtoclhdcpjlcdiaaGreatFmtA27
import Derived.Test.YtoclhdcpjlcdiaaGreatFmtA03
/- Here stand lemmas: products of long numbers. -/
set_option linter.unusedVariables false
set_option linter.unusedVariables false
namespace Go.Proofs
open Go Go.Eng
variable {B : World} {R : Ending → Heap → Prop} {h : Heap}
/-- The variable karatsubaThreshold. -/
def TabK (h : Heap) : Prop := 6 < h.size ∧ cell? h ⟨6, 0, none⟩ = some (.int .i64 40)
theorem TabK.ext {h h' : Heap} (H : TabK h) (f : Ext h h') : TabK h' :=
  ⟨Nat.lt_of_lt_of_le H.1 f.size, by have e := H.2; unfold cell? at e ⊢; rw [f.same _ H.1 id]; exact e⟩
end Go.Proofs
