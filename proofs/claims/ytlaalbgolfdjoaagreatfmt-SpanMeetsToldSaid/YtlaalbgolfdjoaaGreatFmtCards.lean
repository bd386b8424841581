/-
  DERIVED. GIVEN WITH THE SEED: THE CARDS: each row of YtlaalbgolfdjoaaGreatFmtRows.lean that lists a variable, with what it lists TIED to the program's text (the seventh form; the later family's looks); each row that meets fmt, with fmt's text TOLD by the authors' own Lean function (tested against real Go, not proved from fmt's source: count such statements apart). THE CARD IS WHAT COUNTS. Prove the row's statement (the work); the ties are given (YtlaalbgolfdjoaaGreatFmtTie.lean); close each card by the builder's one call (the guide's Derived/Test/ToyasCard.lean, 'card_holds'). Laid BY PROGRAM, IN A SANDBOX (cutbox-door.mjs). By AI agents, Wed Nov 11 2026. No macro, syntax, notation, axiom, sorry.
-/
import Derived.Test.YtlaalbgolfdjoaaGreatFmtRows
import GoSem.ClaimSeven
namespace Go.Proofs.YtlaalbgolfdjoaaGreatFmt
namespace Rows

/-- THE TOLD AND TIED CARD OF 'plumblaw8.SpanTwos'. -/
def spanTwosCard : Claim7 := { stood := { row := spanTwosRow, standIns := [], harness := (true, "5eecfb5720b8d8da5eea3bc88b0d642725e0bc6f7ca8ae48e57277f5b4a3024b"), looks := true }, told := true, laidByText := true, laidKinds := [.data, .data, .data, .data, .data, .data, .data, .data, .data, .data, .pinned], laidTests := true, laidLooks := .later, goes := false }
def SpanTwosToldSaid : Prop := Claim7.holds Tryz.pinned (.plain (OpenSpec.ofChange spanTwosSpec)) spanTwosCard
/-- ITS FALSE NEIGHBOUR. Refute it at one input. -/
def SpanTwosToldWrongFalsely : Prop := Claim7.holds Tryz.pinned (.plain (OpenSpec.ofChange spanTwosWrong)) spanTwosCard

/-- THE TOLD AND TIED CARD OF 'plumblaw8.SpanMeets'. -/
def spanMeetsCard : Claim7 := { stood := { row := spanMeetsRow, standIns := [], harness := (true, "5eecfb5720b8d8da5eea3bc88b0d642725e0bc6f7ca8ae48e57277f5b4a3024b"), looks := true }, told := true, laidByText := true, laidKinds := [.data, .data, .data, .data, .data, .data, .data, .data, .data, .data, .pinned], laidTests := true, laidLooks := .later, goes := false }
def SpanMeetsToldSaid : Prop := Claim7.holds Tryz.pinned (.plain (OpenSpec.ofChange spanMeetsSpec)) spanMeetsCard
/-- ITS FALSE NEIGHBOUR. Refute it at one input. -/
def SpanMeetsToldWrongFalsely : Prop := Claim7.holds Tryz.pinned (.plain (OpenSpec.ofChange spanMeetsWrong)) spanMeetsCard

/-- THE TOLD AND TIED CARD OF 'plumblaw8.SpanLess'. -/
def spanLessCard : Claim7 := { stood := { row := spanLessRow, standIns := [], harness := (true, "5eecfb5720b8d8da5eea3bc88b0d642725e0bc6f7ca8ae48e57277f5b4a3024b"), looks := true }, told := true, laidByText := true, laidKinds := [.data, .data, .data, .data, .data, .data, .data, .data, .data, .data, .pinned], laidTests := true, laidLooks := .later, goes := false }
def SpanLessToldSaid : Prop := Claim7.holds Tryz.pinned (.plain (OpenSpec.ofChange spanLessSpec)) spanLessCard
/-- ITS FALSE NEIGHBOUR. Refute it at one input. -/
def SpanLessToldWrongFalsely : Prop := Claim7.holds Tryz.pinned (.plain (OpenSpec.ofChange spanLessWrong)) spanLessCard
end Rows
end Go.Proofs.YtlaalbgolfdjoaaGreatFmt
