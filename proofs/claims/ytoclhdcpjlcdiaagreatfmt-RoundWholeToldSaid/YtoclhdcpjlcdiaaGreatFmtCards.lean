/-
  DERIVED. GIVEN WITH THE SEED: THE CARDS: each row of YtoclhdcpjlcdiaaGreatFmtRows.lean that lists a variable, with what it lists TIED to the program's text (the seventh form; the later family's looks); each row that meets fmt, with fmt's text TOLD by the authors' own Lean function (tested against real Go, not proved from fmt's source: count such statements apart). THE CARD IS WHAT COUNTS. Prove the row's statement (the work); the ties are given (YtoclhdcpjlcdiaaGreatFmtTie.lean); close each card by the builder's one call (the guide's Derived/Test/ToyasCard.lean, 'card_holds'). Laid BY PROGRAM, IN A SANDBOX (cutbox-door.mjs). By AI agents, Wed Nov 11 2026. No macro, syntax, notation, axiom, sorry.
-/
import Derived.Test.YtoclhdcpjlcdiaaGreatFmtRows
import GoSem.ClaimSeven
namespace Go.Proofs.YtoclhdcpjlcdiaaGreatFmt
namespace Rows

/-- THE TOLD AND TIED CARD OF 'plumblaw4.RoundWhole'. -/
def roundWholeCard : Claim7 := { stood := { row := roundWholeRow, standIns := [], harness := (true, "c48a41e2c291adb8c774912c7696c328dcef2442eefb90786028c3304bb45535"), looks := true }, told := true, laidByText := true, laidKinds := [.data, .data, .data, .data, .data, .data, .data, .data, .data, .pinned], laidTests := true, laidLooks := .later, goes := false }
def RoundWholeToldSaid : Prop := Claim7.holds Tryz.pinned (.plain (OpenSpec.ofChange roundWholeSpec)) roundWholeCard
/-- ITS FALSE NEIGHBOUR. Refute it at one input. -/
def RoundWholeToldWrongFalsely : Prop := Claim7.holds Tryz.pinned (.plain (OpenSpec.ofChange roundWholeWrong)) roundWholeCard
end Rows
end Go.Proofs.YtoclhdcpjlcdiaaGreatFmt
