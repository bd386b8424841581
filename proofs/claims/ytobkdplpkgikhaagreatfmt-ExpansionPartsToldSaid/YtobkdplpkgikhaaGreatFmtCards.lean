/-
  DERIVED. GIVEN WITH THE SEED: THE CARDS: each row of YtobkdplpkgikhaaGreatFmtRows.lean that lists a variable, with what it lists TIED to the program's text (the seventh form; the later family's looks); each row that meets fmt, with fmt's text TOLD by the authors' own Lean function (tested against real Go, not proved from fmt's source: count such statements apart). THE CARD IS WHAT COUNTS. Prove the row's statement (the work); the ties are given (YtobkdplpkgikhaaGreatFmtTie.lean); close each card by the builder's one call (the guide's Derived/Test/ToyasCard.lean, 'card_holds'). Laid BY PROGRAM, IN A SANDBOX (cutbox-door.mjs). By AI agents, Wed Nov 11 2026. No macro, syntax, notation, axiom, sorry.
-/
import Derived.Test.YtobkdplpkgikhaaGreatFmtRows
import GoSem.ClaimSeven
namespace Go.Proofs.YtobkdplpkgikhaaGreatFmt
namespace Rows

/-- THE TOLD AND TIED CARD OF 'plumblaw7.ExpansionParts'. -/
def expansionPartsCard : Claim7 := { stood := { row := expansionPartsRow, standIns := [], harness := (true, "a12b49a3c31080d3bb9e001b97853aefaab529e88a8f0fc4f6ef1baeb7f5f65a"), looks := true }, told := true, laidByText := true, laidKinds := [.data, .data, .data, .data, .data, .data, .data, .data, .data, .pinned], laidTests := true, laidLooks := .later, goes := false }
def ExpansionPartsToldSaid : Prop := Claim7.holds Tryz.pinned (.plain (OpenSpec.ofChange expansionPartsSpec)) expansionPartsCard
/-- ITS FALSE NEIGHBOUR. Refute it at one input. -/
def ExpansionPartsToldWrongFalsely : Prop := Claim7.holds Tryz.pinned (.plain (OpenSpec.ofChange expansionPartsWrong)) expansionPartsCard
end Rows
end Go.Proofs.YtobkdplpkgikhaaGreatFmt
