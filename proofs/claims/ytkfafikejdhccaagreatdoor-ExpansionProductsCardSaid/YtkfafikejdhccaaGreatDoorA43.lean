import Derived.Test.YtkfafikejdhccaaGreatDoorA40
import Derived.Test.YtkfafikejdhccaaGreatDoorA41
import Derived.Test.YtkfafikejdhccaaGreatDoorA42
/- Here stand lemmas: signs and last places. -/
set_option linter.unusedVariables false
set_option linter.unusedVariables false
namespace Go.Proofs
open Go Go.Eng
variable {B : World} {R : Ending → Heap → Prop} {h : Heap}
/-- A number without its sign. -/
theorem NumS.abs {K : Nat} {neg : Bool} {p : Option Addr} {n : Nat} {e v : Int} (N : NumS K h neg p n e v) : NumS K h false p n e (v.natAbs : Int) := by
  obtain ⟨M, I, h1, rfl⟩ := N
  refine ⟨M, ⟨I.d, I.le, fun k => ?_, I.pos⟩, h1, ?_⟩
  · exact ⟨rfl, (I.zero k).2⟩
  · rw [signed_abs, signed_nat]; rfl
end Go.Proofs
