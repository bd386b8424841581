/-
  DERIVED. GIVEN WITH THE SEED: THE CARDS: each row of YtpnfpefcjeafbaaGreatFmtRows.lean that lists a variable, with what it lists TIED to the program's text (the seventh form; the later family's looks); each row that meets fmt, with fmt's text TOLD by the authors' own Lean function (tested against real Go, not proved from fmt's source: count such statements apart). THE CARD IS WHAT COUNTS. Prove the row's statement (the work); the ties are given (YtpnfpefcjeafbaaGreatFmtTie.lean); close each card by the builder's one call (the guide's Derived/Test/ToyasCard.lean, 'card_holds'). Laid BY PROGRAM, IN A SANDBOX (cutbox-door.mjs). By AI agents, Wed Nov 11 2026. No macro, syntax, notation, axiom, sorry.
-/
import Derived.Test.YtpnfpefcjeafbaaGreatFmtRows
import GoSem.ClaimSeven
namespace Go.Proofs.YtpnfpefcjeafbaaGreatFmt
namespace Rows

/-- THE TOLD AND TIED CARD OF 'plumblaw5.SumsKept'. -/
def sumsKeptCard : Claim7 := { stood := { row := sumsKeptRow, standIns := [], harness := (true, "dbf9855d7fb7090f2674d1e1a2c1134b38bee45d216cbdae9d9009335e4394ef"), looks := true }, told := true, laidByText := true, laidKinds := [.data, .data, .data, .data, .data, .data, .data, .data, .data, .pinned], laidTests := true, laidLooks := .later, goes := false }
def SumsKeptToldSaid : Prop := Claim7.holds Tryz.pinned (.plain (OpenSpec.ofChange sumsKeptSpec)) sumsKeptCard
/-- ITS FALSE NEIGHBOUR. Refute it at one input. -/
def SumsKeptToldWrongFalsely : Prop := Claim7.holds Tryz.pinned (.plain (OpenSpec.ofChange sumsKeptWrong)) sumsKeptCard

/-- THE TOLD AND TIED CARD OF 'plumblaw5.SumsSpecial'. -/
def sumsSpecialCard : Claim7 := { stood := { row := sumsSpecialRow, standIns := [], harness := (true, "dbf9855d7fb7090f2674d1e1a2c1134b38bee45d216cbdae9d9009335e4394ef"), looks := true }, told := true, laidByText := true, laidKinds := [.data, .data, .data, .data, .data, .data, .data, .data, .data, .pinned], laidTests := true, laidLooks := .later, goes := false }
def SumsSpecialToldSaid : Prop := Claim7.holds Tryz.pinned (.plain (OpenSpec.ofChange sumsSpecialSpec)) sumsSpecialCard
/-- ITS FALSE NEIGHBOUR. Refute it at one input. -/
def SumsSpecialToldWrongFalsely : Prop := Claim7.holds Tryz.pinned (.plain (OpenSpec.ofChange sumsSpecialWrong)) sumsSpecialCard

/-- THE TOLD AND TIED CARD OF 'plumblaw5.SumsWide'. -/
def sumsWideCard : Claim7 := { stood := { row := sumsWideRow, standIns := [], harness := (true, "dbf9855d7fb7090f2674d1e1a2c1134b38bee45d216cbdae9d9009335e4394ef"), looks := true }, told := true, laidByText := true, laidKinds := [.data, .data, .data, .data, .data, .data, .data, .data, .data, .pinned], laidTests := true, laidLooks := .later, goes := false }
def SumsWideToldSaid : Prop := Claim7.holds Tryz.pinned (.plain (OpenSpec.ofChange sumsWideSpec)) sumsWideCard
/-- ITS FALSE NEIGHBOUR. Refute it at one input. -/
def SumsWideToldWrongFalsely : Prop := Claim7.holds Tryz.pinned (.plain (OpenSpec.ofChange sumsWideWrong)) sumsWideCard
end Rows
end Go.Proofs.YtpnfpefcjeafbaaGreatFmt
