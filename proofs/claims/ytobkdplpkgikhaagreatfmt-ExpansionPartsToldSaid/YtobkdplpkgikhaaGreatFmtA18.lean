import Derived.Test.YtobkdplpkgikhaaGreatFmtA17
import Derived.Test.YtobkdplpkgikhaaGreatFmtRows
import Derived.Test.YtobkdplpkgikhaaGreatFmtCards
import Derived.Test.YtobkdplpkgikhaaGreatFmtTie
import Derived.SevenTiedAt
import Derived.WalkKit
import Derived.ProofKit
import Derived.LaidMore
import Derived.MakeChecks
import Derived.OpenShut
import Derived.Lay
import Derived.Below
import Derived.Stop.Joined
import Derived.Stop.JoinedTold
import Derived.Stop.LaidErr
import Derived.Deep.DeepWitnessRef
import Derived.ChangeSame
import Derived.Lib.LaidTab
/- Here stand lemmas and contracts, in the order in which they are used. -/
set_option linter.unusedVariables false
set_option linter.unusedVariables false
namespace Go.Proofs.YtobkdplpkgikhaaGreatFmt
open Go.Eng Go.ChangeShapes Go.WideShapes Go.ChangeAt Go.RowKit
theorem own : ownKnob Tryz.prog.godebug = none := by kernel_rfl
theorem laidOut : laidOutB Tryz.prog = true := by kernel_rfl
theorem stops : Tryz.prog.stops = ["fmt.Sprintf"] := by kernel_rfl
theorem stopKnobs : Tryz.prog.stopKnobs = [] := by kernel_rfl
theorem quiet (os : Os) : Stop.quiet Tryz.prog os := by
  intro k hk
  rw [stopKnobs] at hk
  cases hk
abbrev laid11 : List (String × DataW Unit) := Rows.expansionPartsRow.laid
theorem g64 : Tryz.prog.globalNamed "math/bits.deBruijn64tab" = some 3 := by kernel_rfl
theorem t64 : (Tryz.prog.globals[3]?).map (·.type) = some 209 := by kernel_rfl
theorem list64 {H : Type} : (Rows.laid_math_bits_deBruijn64tab : DataW H) = .agg (Lib.deBruijn64tab.map fun n => .lit (.int .u8 ((n : Nat) : Int))) := rfl
theorem laid_start (os : Os) (args : Array Value) : laidMetH Tryz.prog laid11 ((World.laidAll Tryz.prog os laid11).forCall (fun _ _ => 0) ⟨#[], args, []⟩).memory := by
  rw [MakeChecks.laidMetH_plain _ _ _ (by kernel_rfl)]
  exact laidMet_laidAll args (by kernel_rfl) (by kernel_rfl)
end Go.Proofs.YtobkdplpkgikhaaGreatFmt
