/-
  DERIVED. GIVEN WITH THE SEED: THE CARDS: each row of YtgeanmigldaniaaGreatFmtRows.lean that lists a variable, with what it lists TIED to the program's text (the seventh form; the later family's looks); each row that meets fmt, with fmt's text TOLD by the authors' own Lean function (tested against real Go, not proved from fmt's source: count such statements apart). THE CARD IS WHAT COUNTS. Prove the row's statement (the work); the ties are given (YtgeanmigldaniaaGreatFmtTie.lean); close each card by the builder's one call (the guide's Derived/Test/ToyasCard.lean, 'card_holds'). Laid BY PROGRAM, IN A SANDBOX (cutbox-door.mjs). By AI agents, Wed Nov 11 2026. No macro, syntax, notation, axiom, sorry.
-/
import Derived.Test.YtgeanmigldaniaaGreatFmtRows
import GoSem.ClaimSeven
namespace Go.Proofs.YtgeanmigldaniaaGreatFmt
namespace Rows

/-- THE TOLD AND TIED CARD OF 'plumblaw8.SpanLess'. -/
def spanLessCard : Claim7 := { stood := { row := spanLessRow, standIns := [], harness := (true, "c84d817a527fe474c9ba2687ef40f3639c9270cdbb199a8f6b65a990a8c4b9b6"), looks := true }, told := true, laidByText := true, laidKinds := [.data, .data, .data, .data, .data, .data, .data, .data, .data, .data, .pinned], laidTests := true, laidLooks := .later, goes := false }
def SpanLessToldSaid : Prop := Claim7.holds Tryz.pinned (.plain (OpenSpec.ofChange spanLessSpec)) spanLessCard
/-- ITS FALSE NEIGHBOUR. Refute it at one input. -/
def SpanLessToldWrongFalsely : Prop := Claim7.holds Tryz.pinned (.plain (OpenSpec.ofChange spanLessWrong)) spanLessCard

/-- THE TOLD AND TIED CARD OF 'plumblaw8.SpanHolds'. -/
def spanHoldsCard : Claim7 := { stood := { row := spanHoldsRow, standIns := [], harness := (true, "c84d817a527fe474c9ba2687ef40f3639c9270cdbb199a8f6b65a990a8c4b9b6"), looks := true }, told := true, laidByText := true, laidKinds := [.data, .data, .data, .data, .data, .data, .data, .data, .data, .data, .pinned], laidTests := true, laidLooks := .later, goes := false }
def SpanHoldsToldSaid : Prop := Claim7.holds Tryz.pinned (.plain (OpenSpec.ofChange spanHoldsSpec)) spanHoldsCard
/-- ITS FALSE NEIGHBOUR. Refute it at one input. -/
def SpanHoldsToldWrongFalsely : Prop := Claim7.holds Tryz.pinned (.plain (OpenSpec.ofChange spanHoldsWrong)) spanHoldsCard

/-- THE TOLD AND TIED CARD OF 'plumblaw8.SpanTight'. -/
def spanTightCard : Claim7 := { stood := { row := spanTightRow, standIns := [], harness := (true, "c84d817a527fe474c9ba2687ef40f3639c9270cdbb199a8f6b65a990a8c4b9b6"), looks := true }, told := true, laidByText := true, laidKinds := [.data, .data, .data, .data, .data, .data, .data, .data, .data, .data, .pinned], laidTests := true, laidLooks := .later, goes := false }
def SpanTightToldSaid : Prop := Claim7.holds Tryz.pinned (.plain (OpenSpec.ofChange spanTightSpec)) spanTightCard
/-- ITS FALSE NEIGHBOUR. Refute it at one input. -/
def SpanTightToldWrongFalsely : Prop := Claim7.holds Tryz.pinned (.plain (OpenSpec.ofChange spanTightWrong)) spanTightCard
end Rows
end Go.Proofs.YtgeanmigldaniaaGreatFmt
