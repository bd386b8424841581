/-
  DERIVED. GIVEN WITH THE SEED: THE CARDS: each row of YteailhnlphhfdaaGreatFmtRows.lean that lists a variable, with what it lists TIED to the program's text (the seventh form; the later family's looks); each row that meets fmt, with fmt's text TOLD by the authors' own Lean function (tested against real Go, not proved from fmt's source: count such statements apart). THE CARD IS WHAT COUNTS. Prove the row's statement (the work); the ties are given (YteailhnlphhfdaaGreatFmtTie.lean); close each card by the builder's one call (the guide's Derived/Test/ToyasCard.lean, 'card_holds'). Laid BY PROGRAM, IN A SANDBOX (cutbox-door.mjs). By AI agents, Wed Nov 11 2026. No macro, syntax, notation, axiom, sorry.
-/
import Derived.Test.YteailhnlphhfdaaGreatFmtRows
import GoSem.ClaimSeven
namespace Go.Proofs.YteailhnlphhfdaaGreatFmt
namespace Rows

/-- THE TOLD AND TIED CARD OF 'plumblaw4.RoundBetween'. -/
def roundBetweenCard : Claim7 := { stood := { row := roundBetweenRow, standIns := [], harness := (true, "ab59f3280ce8df8646a9b333fe8f54cee30a6aa6fb5180fabdd20061e3269b10"), looks := true }, told := true, laidByText := true, laidKinds := [.data, .data, .data, .data, .data, .data, .data, .data, .data, .pinned], laidTests := true, laidLooks := .later, goes := false }
def RoundBetweenToldSaid : Prop := Claim7.holds Tryz.pinned (.plain (OpenSpec.ofChange roundBetweenSpec)) roundBetweenCard
/-- ITS FALSE NEIGHBOUR. Refute it at one input. -/
def RoundBetweenToldWrongFalsely : Prop := Claim7.holds Tryz.pinned (.plain (OpenSpec.ofChange roundBetweenWrong)) roundBetweenCard

/-- THE TOLD AND TIED CARD OF 'plumblaw4.RoundNearest'. -/
def roundNearestCard : Claim7 := { stood := { row := roundNearestRow, standIns := [], harness := (true, "ab59f3280ce8df8646a9b333fe8f54cee30a6aa6fb5180fabdd20061e3269b10"), looks := true }, told := true, laidByText := true, laidKinds := [.data, .data, .data, .data, .data, .data, .data, .data, .data, .pinned], laidTests := true, laidLooks := .later, goes := false }
def RoundNearestToldSaid : Prop := Claim7.holds Tryz.pinned (.plain (OpenSpec.ofChange roundNearestSpec)) roundNearestCard
/-- ITS FALSE NEIGHBOUR. Refute it at one input. -/
def RoundNearestToldWrongFalsely : Prop := Claim7.holds Tryz.pinned (.plain (OpenSpec.ofChange roundNearestWrong)) roundNearestCard

/-- THE TOLD AND TIED CARD OF 'plumblaw4.RoundMirrors'. -/
def roundMirrorsCard : Claim7 := { stood := { row := roundMirrorsRow, standIns := [], harness := (true, "ab59f3280ce8df8646a9b333fe8f54cee30a6aa6fb5180fabdd20061e3269b10"), looks := true }, told := true, laidByText := true, laidKinds := [.data, .data, .data, .data, .data, .data, .data, .data, .data, .pinned], laidTests := true, laidLooks := .later, goes := false }
def RoundMirrorsToldSaid : Prop := Claim7.holds Tryz.pinned (.plain (OpenSpec.ofChange roundMirrorsSpec)) roundMirrorsCard
/-- ITS FALSE NEIGHBOUR. Refute it at one input. -/
def RoundMirrorsToldWrongFalsely : Prop := Claim7.holds Tryz.pinned (.plain (OpenSpec.ofChange roundMirrorsWrong)) roundMirrorsCard
end Rows
end Go.Proofs.YteailhnlphhfdaaGreatFmt
