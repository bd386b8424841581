/-
  DERIVED. GIVEN WITH THE SEED: THE CARDS: each row of YtcbcgggnmncbjaaGreatFmtRows.lean that lists a variable, with what it lists TIED to the program's text (the seventh form; the later family's looks); each row that meets fmt, with fmt's text TOLD by the authors' own Lean function (tested against real Go, not proved from fmt's source: count such statements apart). THE CARD IS WHAT COUNTS. Prove the row's statement (the work); the ties are given (YtcbcgggnmncbjaaGreatFmtTie.lean); close each card by the builder's one call (the guide's Derived/Test/ToyasCard.lean, 'card_holds'). Laid BY PROGRAM, IN A SANDBOX (cutbox-door.mjs). By AI agents, Wed Nov 11 2026. No macro, syntax, notation, axiom, sorry.
-/
import Derived.Test.YtcbcgggnmncbjaaGreatFmtRows
import GoSem.ClaimSeven
namespace Go.Proofs.YtcbcgggnmncbjaaGreatFmt
namespace Rows

/-- THE TOLD AND TIED CARD OF 'plumblaw5.SumsOrders'. -/
def sumsOrdersCard : Claim7 := { stood := { row := sumsOrdersRow, standIns := [], harness := (true, "c4603d8a3a14865822b3cb1ae35f17bdccd23188df75e94fd8d7f23f0ed4733f"), looks := true }, told := true, laidByText := true, laidKinds := [.data, .data, .data, .data, .data, .data, .data, .data, .data, .pinned], laidTests := true, laidLooks := .later, goes := false }
def SumsOrdersToldSaid : Prop := Claim7.holds Tryz.pinned (.plain (OpenSpec.ofChange sumsOrdersSpec)) sumsOrdersCard
/-- ITS FALSE NEIGHBOUR. Refute it at one input. -/
def SumsOrdersToldWrongFalsely : Prop := Claim7.holds Tryz.pinned (.plain (OpenSpec.ofChange sumsOrdersWrong)) sumsOrdersCard

/-- THE TOLD AND TIED CARD OF 'plumblaw5.SumsOnce'. -/
def sumsOnceCard : Claim7 := { stood := { row := sumsOnceRow, standIns := [], harness := (true, "c4603d8a3a14865822b3cb1ae35f17bdccd23188df75e94fd8d7f23f0ed4733f"), looks := true }, told := true, laidByText := true, laidKinds := [.data, .data, .data, .data, .data, .data, .data, .data, .data, .pinned], laidTests := true, laidLooks := .later, goes := false }
def SumsOnceToldSaid : Prop := Claim7.holds Tryz.pinned (.plain (OpenSpec.ofChange sumsOnceSpec)) sumsOnceCard
/-- ITS FALSE NEIGHBOUR. Refute it at one input. -/
def SumsOnceToldWrongFalsely : Prop := Claim7.holds Tryz.pinned (.plain (OpenSpec.ofChange sumsOnceWrong)) sumsOnceCard
end Rows
end Go.Proofs.YtcbcgggnmncbjaaGreatFmt
