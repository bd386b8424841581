/-
  DERIVED. GIVEN WITH THE SEED: THE CARDS: each row of YtpkdpdpobddnpaaGreatFmtRows.lean that lists a variable, with what it lists TIED to the program's text (the seventh form; the later family's looks); each row that meets fmt, with fmt's text TOLD by the authors' own Lean function (tested against real Go, not proved from fmt's source: count such statements apart). THE CARD IS WHAT COUNTS. Prove the row's statement (the work); the ties are given (YtpkdpdpobddnpaaGreatFmtTie.lean); close each card by the builder's one call (the guide's Derived/Test/ToyasCard.lean, 'card_holds'). Laid BY PROGRAM, IN A SANDBOX (cutbox-door.mjs). By AI agents, Wed Nov 11 2026. No macro, syntax, notation, axiom, sorry.
-/
import Derived.Test.YtpkdpdpobddnpaaGreatFmtRows
import GoSem.ClaimSeven
namespace Go.Proofs.YtpkdpdpobddnpaaGreatFmt
namespace Rows

/-- THE TOLD AND TIED CARD OF 'plumblaw8.SpanTwos'. -/
def spanTwosCard : Claim7 := { stood := { row := spanTwosRow, standIns := [], harness := (true, "69f651e419f13ceb59732a03afbbc8f321cd7a46e0df0d29ffeccae08955ec19"), looks := true }, told := true, laidByText := true, laidKinds := [.data, .data, .data, .data, .data, .data, .data, .data, .data, .data, .pinned], laidTests := true, laidLooks := .later, goes := false }
def SpanTwosToldSaid : Prop := Claim7.holds Tryz.pinned (.plain (OpenSpec.ofChange spanTwosSpec)) spanTwosCard
/-- ITS FALSE NEIGHBOUR. Refute it at one input. -/
def SpanTwosToldWrongFalsely : Prop := Claim7.holds Tryz.pinned (.plain (OpenSpec.ofChange spanTwosWrong)) spanTwosCard

/-- THE TOLD AND TIED CARD OF 'plumblaw8.SpanOnes'. -/
def spanOnesCard : Claim7 := { stood := { row := spanOnesRow, standIns := [], harness := (true, "69f651e419f13ceb59732a03afbbc8f321cd7a46e0df0d29ffeccae08955ec19"), looks := true }, told := true, laidByText := true, laidKinds := [.data, .data, .data, .data, .data, .data, .data, .data, .data, .data, .pinned], laidTests := true, laidLooks := .later, goes := false }
def SpanOnesToldSaid : Prop := Claim7.holds Tryz.pinned (.plain (OpenSpec.ofChange spanOnesSpec)) spanOnesCard
/-- ITS FALSE NEIGHBOUR. Refute it at one input. -/
def SpanOnesToldWrongFalsely : Prop := Claim7.holds Tryz.pinned (.plain (OpenSpec.ofChange spanOnesWrong)) spanOnesCard

/-- THE TOLD AND TIED CARD OF 'plumblaw8.SpanAll'. -/
def spanAllCard : Claim7 := { stood := { row := spanAllRow, standIns := [], harness := (true, "69f651e419f13ceb59732a03afbbc8f321cd7a46e0df0d29ffeccae08955ec19"), looks := true }, told := true, laidByText := true, laidKinds := [.data, .data, .data, .data, .data, .data, .data, .data, .data, .data, .pinned], laidTests := true, laidLooks := .later, goes := false }
def SpanAllToldSaid : Prop := Claim7.holds Tryz.pinned (.plain (OpenSpec.ofChange spanAllSpec)) spanAllCard
/-- ITS FALSE NEIGHBOUR. Refute it at one input. -/
def SpanAllToldWrongFalsely : Prop := Claim7.holds Tryz.pinned (.plain (OpenSpec.ofChange spanAllWrong)) spanAllCard
end Rows
end Go.Proofs.YtpkdpdpobddnpaaGreatFmt
