/-
  DERIVED. GIVEN WITH THE SEED: THE CARDS: each row of YtjiinenefbjfcaaGreatFmtRows.lean that lists a variable, with what it lists TIED to the program's text (the seventh form; the later family's looks); each row that meets fmt, with fmt's text TOLD by the authors' own Lean function (tested against real Go, not proved from fmt's source: count such statements apart). THE CARD IS WHAT COUNTS. Prove the row's statement (the work); the ties are given (YtjiinenefbjfcaaGreatFmtTie.lean); close each card by the builder's one call (the guide's Derived/Test/ToyasCard.lean, 'card_holds'). Laid BY PROGRAM, IN A SANDBOX (cutbox-door.mjs). By AI agents, Wed Nov 11 2026. No macro, syntax, notation, axiom, sorry.
-/
import Derived.Test.YtjiinenefbjfcaaGreatFmtRows
import GoSem.ClaimSeven
namespace Go.Proofs.YtjiinenefbjfcaaGreatFmt
namespace Rows

/-- THE TOLD AND TIED CARD OF 'plumblaw6.EftPremise'. -/
def eftPremiseCard : Claim7 := { stood := { row := eftPremiseRow, standIns := [], harness := (true, "d9865af4723b0cf2fbba4ac5dd1d514513cdf336142d2bab292eb0b98cd75cef"), looks := true }, told := true, laidByText := true, laidKinds := [.data, .data, .data, .data, .data, .data, .data, .data, .data, .pinned], laidTests := true, laidLooks := .later, goes := false }
def EftPremiseToldSaid : Prop := Claim7.holds Tryz.pinned (.plain (OpenSpec.ofChange eftPremiseSpec)) eftPremiseCard
/-- ITS FALSE NEIGHBOUR. Refute it at one input. -/
def EftPremiseToldWrongFalsely : Prop := Claim7.holds Tryz.pinned (.plain (OpenSpec.ofChange eftPremiseWrong)) eftPremiseCard
end Rows
end Go.Proofs.YtjiinenefbjfcaaGreatFmt
