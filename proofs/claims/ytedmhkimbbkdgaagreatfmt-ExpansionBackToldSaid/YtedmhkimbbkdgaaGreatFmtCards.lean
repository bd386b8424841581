/-
  DERIVED. GIVEN WITH THE SEED: THE CARDS: each row of YtedmhkimbbkdgaaGreatFmtRows.lean that lists a variable, with what it lists TIED to the program's text (the seventh form; the later family's looks); each row that meets fmt, with fmt's text TOLD by the authors' own Lean function (tested against real Go, not proved from fmt's source: count such statements apart). THE CARD IS WHAT COUNTS. Prove the row's statement (the work); the ties are given (YtedmhkimbbkdgaaGreatFmtTie.lean); close each card by the builder's one call (the guide's Derived/Test/ToyasCard.lean, 'card_holds'). Laid BY PROGRAM, IN A SANDBOX (cutbox-door.mjs). By AI agents, Wed Nov 11 2026. No macro, syntax, notation, axiom, sorry.
-/
import Derived.Test.YtedmhkimbbkdgaaGreatFmtRows
import GoSem.ClaimSeven
namespace Go.Proofs.YtedmhkimbbkdgaaGreatFmt
namespace Rows

/-- THE TOLD AND TIED CARD OF 'plumblaw7.ExpansionBack'. -/
def expansionBackCard : Claim7 := { stood := { row := expansionBackRow, standIns := [], harness := (true, "35fbd93b93f36441fc61555f01258f5fac27df497beda1ae41ad43f8eb4d60bd"), looks := true }, told := true, laidByText := true, laidKinds := [.data, .data, .data, .data, .data, .data, .data, .data, .data, .pinned], laidTests := true, laidLooks := .later, goes := false }
def ExpansionBackToldSaid : Prop := Claim7.holds Tryz.pinned (.plain (OpenSpec.ofChange expansionBackSpec)) expansionBackCard
/-- ITS FALSE NEIGHBOUR. Refute it at one input. -/
def ExpansionBackToldWrongFalsely : Prop := Claim7.holds Tryz.pinned (.plain (OpenSpec.ofChange expansionBackWrong)) expansionBackCard
end Rows
end Go.Proofs.YtedmhkimbbkdgaaGreatFmt
