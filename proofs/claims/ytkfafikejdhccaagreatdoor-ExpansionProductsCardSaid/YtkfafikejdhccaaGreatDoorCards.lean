/-
  DERIVED. GIVEN WITH THE SEED: THE CARDS: each row of YtkfafikejdhccaaGreatDoorRows.lean that lists a variable, with what it lists TIED to the program's text (the seventh form; the later family's looks); each row that meets fmt, with fmt's text TOLD by the authors' own Lean function (tested against real Go, not proved from fmt's source: count such statements apart). THE CARD IS WHAT COUNTS. Prove the row's statement (the work); the ties are given (YtkfafikejdhccaaGreatDoorTie.lean); close each card by the builder's one call (the guide's Derived/Test/ToyasCard.lean, 'card_holds'). Laid BY PROGRAM, IN A SANDBOX (cutbox-door.mjs). By AI agents, Wed Nov 11 2026. No macro, syntax, notation, axiom, sorry.
-/
import Derived.Test.YtkfafikejdhccaaGreatDoorRows
import GoSem.ClaimSeven
namespace Go.Proofs.YtkfafikejdhccaaGreatDoor
namespace Rows

/-- THE TIED CARD OF 'plumblaw6.EftProds'. -/
def eftProdsCard : Claim7 := { stood := { row := eftProdsRow, standIns := [], harness := (true, "a7b3b1fd7c95099c202d0214e5b72fa752f41f5b7fc5b599a42919f92b596eb1"), looks := true }, kinds := [], alts := [], laidByText := true, laidKinds := [.data, .data, .data, .data, .data, .data, .data], laidTests := true, laidLooks := .later }
def EftProdsCardSaid : Prop := Claim7.holds Tryz.pinned (.plain (OpenSpec.ofChange eftProdsSpec)) eftProdsCard

/-- THE TIED CARD OF 'plumblaw6.EftHonest'. -/
def eftHonestCard : Claim7 := { stood := { row := eftHonestRow, standIns := [], harness := (true, "a7b3b1fd7c95099c202d0214e5b72fa752f41f5b7fc5b599a42919f92b596eb1"), looks := true }, kinds := [], alts := [], laidByText := true, laidKinds := [.data, .data, .data, .data, .data, .data, .data], laidTests := true, laidLooks := .later }
def EftHonestCardSaid : Prop := Claim7.holds Tryz.pinned (.plain (OpenSpec.ofChange eftHonestSpec)) eftHonestCard

/-- THE TIED CARD OF 'plumblaw6.EftSums'. -/
def eftSumsCard : Claim7 := { stood := { row := eftSumsRow, standIns := [], harness := (true, "a7b3b1fd7c95099c202d0214e5b72fa752f41f5b7fc5b599a42919f92b596eb1"), looks := true }, kinds := [], alts := [], laidByText := true, laidKinds := [.data, .data, .data, .data, .data, .data, .data], laidTests := true, laidLooks := .later }
def EftSumsCardSaid : Prop := Claim7.holds Tryz.pinned (.plain (OpenSpec.ofChange eftSumsSpec)) eftSumsCard

/-- THE TIED CARD OF 'plumblaw6.EftAll'. -/
def eftAllCard : Claim7 := { stood := { row := eftAllRow, standIns := [], harness := (true, "a7b3b1fd7c95099c202d0214e5b72fa752f41f5b7fc5b599a42919f92b596eb1"), looks := true }, kinds := [], alts := [], laidByText := true, laidKinds := [.data, .data, .data, .data, .data, .data, .data], laidTests := true, laidLooks := .later }
def EftAllCardSaid : Prop := Claim7.holds Tryz.pinned (.plain (OpenSpec.ofChange eftAllSpec)) eftAllCard

/-- THE TIED CARD OF 'plumblaw6.EftHalves'. -/
def eftHalvesCard : Claim7 := { stood := { row := eftHalvesRow, standIns := [], harness := (true, "a7b3b1fd7c95099c202d0214e5b72fa752f41f5b7fc5b599a42919f92b596eb1"), looks := true }, kinds := [], alts := [], laidByText := true, laidKinds := [.data, .data, .data, .data, .data, .data, .data], laidTests := true, laidLooks := .later }
def EftHalvesCardSaid : Prop := Claim7.holds Tryz.pinned (.plain (OpenSpec.ofChange eftHalvesSpec)) eftHalvesCard

/-- THE TIED CARD OF 'plumblaw7.ExpansionFloats'. -/
def expansionFloatsCard : Claim7 := { stood := { row := expansionFloatsRow, standIns := [], harness := (true, "a7b3b1fd7c95099c202d0214e5b72fa752f41f5b7fc5b599a42919f92b596eb1"), looks := true }, kinds := [], alts := [], laidByText := true, laidKinds := [.data, .data, .data, .data, .data, .data, .data], laidTests := true, laidLooks := .later }
def ExpansionFloatsCardSaid : Prop := Claim7.holds Tryz.pinned (.plain (OpenSpec.ofChange expansionFloatsSpec)) expansionFloatsCard

/-- THE TIED CARD OF 'plumblaw7.ExpansionRefuses'. -/
def expansionRefusesCard : Claim7 := { stood := { row := expansionRefusesRow, standIns := [], harness := (true, "a7b3b1fd7c95099c202d0214e5b72fa752f41f5b7fc5b599a42919f92b596eb1"), looks := true }, kinds := [], alts := [], laidByText := true, laidKinds := [.data, .data, .data, .data, .data, .data, .data], laidTests := true, laidLooks := .later }
def ExpansionRefusesCardSaid : Prop := Claim7.holds Tryz.pinned (.plain (OpenSpec.ofChange expansionRefusesSpec)) expansionRefusesCard

/-- THE TIED CARD OF 'plumblaw7.ExpansionProducts'. -/
def expansionProductsCard : Claim7 := { stood := { row := expansionProductsRow, standIns := [], harness := (true, "a7b3b1fd7c95099c202d0214e5b72fa752f41f5b7fc5b599a42919f92b596eb1"), looks := true }, kinds := [], alts := [], laidByText := true, laidKinds := [.data, .data, .data, .data, .data, .data, .data], laidTests := true, laidLooks := .later }
def ExpansionProductsCardSaid : Prop := Claim7.holds Tryz.pinned (.plain (OpenSpec.ofChange expansionProductsSpec)) expansionProductsCard

/-- THE TIED CARD OF 'plumblaw7.ExpansionPairs'. -/
def expansionPairsCard : Claim7 := { stood := { row := expansionPairsRow, standIns := [], harness := (true, "a7b3b1fd7c95099c202d0214e5b72fa752f41f5b7fc5b599a42919f92b596eb1"), looks := true }, kinds := [], alts := [], laidByText := true, laidKinds := [.data, .data, .data, .data, .data, .data, .data], laidTests := true, laidLooks := .later }
def ExpansionPairsCardSaid : Prop := Claim7.holds Tryz.pinned (.plain (OpenSpec.ofChange expansionPairsSpec)) expansionPairsCard

/-- THE TIED CARD OF 'plumblaw7.ExpansionSums'. -/
def expansionSumsCard : Claim7 := { stood := { row := expansionSumsRow, standIns := [], harness := (true, "a7b3b1fd7c95099c202d0214e5b72fa752f41f5b7fc5b599a42919f92b596eb1"), looks := true }, kinds := [], alts := [], laidByText := true, laidKinds := [.data, .data, .data, .data, .data, .data, .data], laidTests := true, laidLooks := .later }
def ExpansionSumsCardSaid : Prop := Claim7.holds Tryz.pinned (.plain (OpenSpec.ofChange expansionSumsSpec)) expansionSumsCard

/-- THE TIED CARD OF 'plumblaw7.ExpansionLooks'. -/
def expansionLooksCard : Claim7 := { stood := { row := expansionLooksRow, standIns := [], harness := (true, "a7b3b1fd7c95099c202d0214e5b72fa752f41f5b7fc5b599a42919f92b596eb1"), looks := true }, kinds := [], alts := [], laidByText := true, laidKinds := [.data, .data, .data, .data, .data, .data, .data], laidTests := true, laidLooks := .later }
def ExpansionLooksCardSaid : Prop := Claim7.holds Tryz.pinned (.plain (OpenSpec.ofChange expansionLooksSpec)) expansionLooksCard

/-- THE TIED CARD OF 'plumblaw7.ExpansionCompresses'. -/
def expansionCompressesCard : Claim7 := { stood := { row := expansionCompressesRow, standIns := [], harness := (true, "a7b3b1fd7c95099c202d0214e5b72fa752f41f5b7fc5b599a42919f92b596eb1"), looks := true }, kinds := [], alts := [], laidByText := true, laidKinds := [.data, .data, .data, .data, .data, .data, .data], laidTests := true, laidLooks := .later }
def ExpansionCompressesCardSaid : Prop := Claim7.holds Tryz.pinned (.plain (OpenSpec.ofChange expansionCompressesSpec)) expansionCompressesCard

/-- THE SECOND FORM's CARD OF 'plumblaw6.EftProds'. -/
def eftProdsUptoCard : Claim7 := { stood := { row := eftProdsUptoRow, standIns := [], harness := (true, "a7b3b1fd7c95099c202d0214e5b72fa752f41f5b7fc5b599a42919f92b596eb1"), looks := true }, kinds := [], alts := [], laidByText := true, laidKinds := [.data, .data, .data, .data, .data, .data, .data], laidTests := true, laidLooks := .later }
def EftProdsUptoCardSaid : Prop := Claim7.holds Tryz.pinned (.plain (OpenSpec.upto eftProdsSpec)) eftProdsUptoCard

/-- THE SECOND FORM's CARD OF 'plumblaw6.EftHonest'. -/
def eftHonestUptoCard : Claim7 := { stood := { row := eftHonestUptoRow, standIns := [], harness := (true, "a7b3b1fd7c95099c202d0214e5b72fa752f41f5b7fc5b599a42919f92b596eb1"), looks := true }, kinds := [], alts := [], laidByText := true, laidKinds := [.data, .data, .data, .data, .data, .data, .data], laidTests := true, laidLooks := .later }
def EftHonestUptoCardSaid : Prop := Claim7.holds Tryz.pinned (.plain (OpenSpec.upto eftHonestSpec)) eftHonestUptoCard

/-- THE SECOND FORM's CARD OF 'plumblaw6.EftSums'. -/
def eftSumsUptoCard : Claim7 := { stood := { row := eftSumsUptoRow, standIns := [], harness := (true, "a7b3b1fd7c95099c202d0214e5b72fa752f41f5b7fc5b599a42919f92b596eb1"), looks := true }, kinds := [], alts := [], laidByText := true, laidKinds := [.data, .data, .data, .data, .data, .data, .data], laidTests := true, laidLooks := .later }
def EftSumsUptoCardSaid : Prop := Claim7.holds Tryz.pinned (.plain (OpenSpec.upto eftSumsSpec)) eftSumsUptoCard

/-- THE SECOND FORM's CARD OF 'plumblaw6.EftAll'. -/
def eftAllUptoCard : Claim7 := { stood := { row := eftAllUptoRow, standIns := [], harness := (true, "a7b3b1fd7c95099c202d0214e5b72fa752f41f5b7fc5b599a42919f92b596eb1"), looks := true }, kinds := [], alts := [], laidByText := true, laidKinds := [.data, .data, .data, .data, .data, .data, .data], laidTests := true, laidLooks := .later }
def EftAllUptoCardSaid : Prop := Claim7.holds Tryz.pinned (.plain (OpenSpec.upto eftAllSpec)) eftAllUptoCard

/-- THE SECOND FORM's CARD OF 'plumblaw6.EftHalves'. -/
def eftHalvesUptoCard : Claim7 := { stood := { row := eftHalvesUptoRow, standIns := [], harness := (true, "a7b3b1fd7c95099c202d0214e5b72fa752f41f5b7fc5b599a42919f92b596eb1"), looks := true }, kinds := [], alts := [], laidByText := true, laidKinds := [.data, .data, .data, .data, .data, .data, .data], laidTests := true, laidLooks := .later }
def EftHalvesUptoCardSaid : Prop := Claim7.holds Tryz.pinned (.plain (OpenSpec.upto eftHalvesSpec)) eftHalvesUptoCard

/-- THE SECOND FORM's CARD OF 'plumblaw7.ExpansionFloats'. -/
def expansionFloatsUptoCard : Claim7 := { stood := { row := expansionFloatsUptoRow, standIns := [], harness := (true, "a7b3b1fd7c95099c202d0214e5b72fa752f41f5b7fc5b599a42919f92b596eb1"), looks := true }, kinds := [], alts := [], laidByText := true, laidKinds := [.data, .data, .data, .data, .data, .data, .data], laidTests := true, laidLooks := .later }
def ExpansionFloatsUptoCardSaid : Prop := Claim7.holds Tryz.pinned (.plain (OpenSpec.upto expansionFloatsSpec)) expansionFloatsUptoCard

/-- THE SECOND FORM's CARD OF 'plumblaw7.ExpansionRefuses'. -/
def expansionRefusesUptoCard : Claim7 := { stood := { row := expansionRefusesUptoRow, standIns := [], harness := (true, "a7b3b1fd7c95099c202d0214e5b72fa752f41f5b7fc5b599a42919f92b596eb1"), looks := true }, kinds := [], alts := [], laidByText := true, laidKinds := [.data, .data, .data, .data, .data, .data, .data], laidTests := true, laidLooks := .later }
def ExpansionRefusesUptoCardSaid : Prop := Claim7.holds Tryz.pinned (.plain (OpenSpec.upto expansionRefusesSpec)) expansionRefusesUptoCard

/-- THE SECOND FORM's CARD OF 'plumblaw7.ExpansionProducts'. -/
def expansionProductsUptoCard : Claim7 := { stood := { row := expansionProductsUptoRow, standIns := [], harness := (true, "a7b3b1fd7c95099c202d0214e5b72fa752f41f5b7fc5b599a42919f92b596eb1"), looks := true }, kinds := [], alts := [], laidByText := true, laidKinds := [.data, .data, .data, .data, .data, .data, .data], laidTests := true, laidLooks := .later }
def ExpansionProductsUptoCardSaid : Prop := Claim7.holds Tryz.pinned (.plain (OpenSpec.upto expansionProductsSpec)) expansionProductsUptoCard

/-- THE SECOND FORM's CARD OF 'plumblaw7.ExpansionPairs'. -/
def expansionPairsUptoCard : Claim7 := { stood := { row := expansionPairsUptoRow, standIns := [], harness := (true, "a7b3b1fd7c95099c202d0214e5b72fa752f41f5b7fc5b599a42919f92b596eb1"), looks := true }, kinds := [], alts := [], laidByText := true, laidKinds := [.data, .data, .data, .data, .data, .data, .data], laidTests := true, laidLooks := .later }
def ExpansionPairsUptoCardSaid : Prop := Claim7.holds Tryz.pinned (.plain (OpenSpec.upto expansionPairsSpec)) expansionPairsUptoCard

/-- THE SECOND FORM's CARD OF 'plumblaw7.ExpansionSums'. -/
def expansionSumsUptoCard : Claim7 := { stood := { row := expansionSumsUptoRow, standIns := [], harness := (true, "a7b3b1fd7c95099c202d0214e5b72fa752f41f5b7fc5b599a42919f92b596eb1"), looks := true }, kinds := [], alts := [], laidByText := true, laidKinds := [.data, .data, .data, .data, .data, .data, .data], laidTests := true, laidLooks := .later }
def ExpansionSumsUptoCardSaid : Prop := Claim7.holds Tryz.pinned (.plain (OpenSpec.upto expansionSumsSpec)) expansionSumsUptoCard

/-- THE SECOND FORM's CARD OF 'plumblaw7.ExpansionLooks'. -/
def expansionLooksUptoCard : Claim7 := { stood := { row := expansionLooksUptoRow, standIns := [], harness := (true, "a7b3b1fd7c95099c202d0214e5b72fa752f41f5b7fc5b599a42919f92b596eb1"), looks := true }, kinds := [], alts := [], laidByText := true, laidKinds := [.data, .data, .data, .data, .data, .data, .data], laidTests := true, laidLooks := .later }
def ExpansionLooksUptoCardSaid : Prop := Claim7.holds Tryz.pinned (.plain (OpenSpec.upto expansionLooksSpec)) expansionLooksUptoCard

/-- THE SECOND FORM's CARD OF 'plumblaw7.ExpansionCompresses'. -/
def expansionCompressesUptoCard : Claim7 := { stood := { row := expansionCompressesUptoRow, standIns := [], harness := (true, "a7b3b1fd7c95099c202d0214e5b72fa752f41f5b7fc5b599a42919f92b596eb1"), looks := true }, kinds := [], alts := [], laidByText := true, laidKinds := [.data, .data, .data, .data, .data, .data, .data], laidTests := true, laidLooks := .later }
def ExpansionCompressesUptoCardSaid : Prop := Claim7.holds Tryz.pinned (.plain (OpenSpec.upto expansionCompressesSpec)) expansionCompressesUptoCard
end Rows
end Go.Proofs.YtkfafikejdhccaaGreatDoor
