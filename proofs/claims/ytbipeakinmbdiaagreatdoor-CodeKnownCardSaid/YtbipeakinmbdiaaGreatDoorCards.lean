/-
  DERIVED. GIVEN WITH THE SEED: THE CARDS: each row of YtbipeakinmbdiaaGreatDoorRows.lean that lists a variable, with what it lists TIED to the program's text (the seventh form; the later family's looks); each row that meets fmt, with fmt's text TOLD by the authors' own Lean function (tested against real Go, not proved from fmt's source: count such statements apart). THE CARD IS WHAT COUNTS. Prove the row's statement (the work); the ties are given (YtbipeakinmbdiaaGreatDoorTie.lean); close each card by the builder's one call (the guide's Derived/Test/ToyasCard.lean, 'card_holds'). Laid BY PROGRAM, IN A SANDBOX (cutbox-door.mjs). By AI agents, Wed Nov 11 2026. No macro, syntax, notation, axiom, sorry.
-/
import Derived.Test.YtbipeakinmbdiaaGreatDoorRows
import GoSem.ClaimSeven
namespace Go.Proofs.YtbipeakinmbdiaaGreatDoor
namespace Rows

/-- THE TIED CARD OF 'hornbeamlaw26.CodeFields'. -/
def codeFieldsCard : Claim7 := { stood := { row := codeFieldsRow, standIns := [], harness := (true, "81fcd9b2fbe99bc18d35b080e52840a7eeea4653c023a4ec4488d94294581743"), looks := true }, kinds := [], alts := [], laidByText := true, laidKinds := [.data, .data, .data, .data, .sentinel, .sentinel, .pinned, .pinned], laidTests := true, laidLooks := .later }
def CodeFieldsCardSaid : Prop := Claim7.holds Tryz.pinned (.plain (OpenSpec.ofChange codeFieldsSpec)) codeFieldsCard

/-- THE TIED CARD OF 'hornbeamlaw26.CodeKnown'. -/
def codeKnownCard : Claim7 := { stood := { row := codeKnownRow, standIns := [], harness := (true, "81fcd9b2fbe99bc18d35b080e52840a7eeea4653c023a4ec4488d94294581743"), looks := true }, kinds := [], alts := [], laidByText := true, laidKinds := [.data, .data, .data, .data, .sentinel, .sentinel, .pinned, .pinned], laidTests := true, laidLooks := .later }
def CodeKnownCardSaid : Prop := Claim7.holds Tryz.pinned (.plain (OpenSpec.ofChange codeKnownSpec)) codeKnownCard

/-- THE TIED CARD OF 'hornbeamlaw26.CodeEqual'. -/
def codeEqualCard : Claim7 := { stood := { row := codeEqualRow, standIns := [], harness := (true, "81fcd9b2fbe99bc18d35b080e52840a7eeea4653c023a4ec4488d94294581743"), looks := true }, kinds := [], alts := [], laidByText := true, laidKinds := [.data, .data, .data, .data, .sentinel, .sentinel, .pinned, .pinned], laidTests := true, laidLooks := .later }
def CodeEqualCardSaid : Prop := Claim7.holds Tryz.pinned (.plain (OpenSpec.ofChange codeEqualSpec)) codeEqualCard

/-- THE TIED CARD OF 'hornbeamlaw26.CodeRegisters'. -/
def codeRegistersCard : Claim7 := { stood := { row := codeRegistersRow, standIns := [], harness := (true, "81fcd9b2fbe99bc18d35b080e52840a7eeea4653c023a4ec4488d94294581743"), looks := true }, kinds := [], alts := [], laidByText := true, laidKinds := [.data, .data, .data, .data, .sentinel, .sentinel, .pinned, .pinned], laidTests := true, laidLooks := .later }
def CodeRegistersCardSaid : Prop := Claim7.holds Tryz.pinned (.plain (OpenSpec.ofChange codeRegistersSpec)) codeRegistersCard

/-- THE TIED CARD OF 'hornbeamlaw26.CodeTexts'. -/
def codeTextsCard : Claim7 := { stood := { row := codeTextsRow, standIns := [], harness := (true, "81fcd9b2fbe99bc18d35b080e52840a7eeea4653c023a4ec4488d94294581743"), looks := true }, kinds := [], alts := [], laidByText := true, laidKinds := [.data, .data, .data, .data, .sentinel, .sentinel, .pinned, .pinned], laidTests := true, laidLooks := .later }
def CodeTextsCardSaid : Prop := Claim7.holds Tryz.pinned (.plain (OpenSpec.ofChange codeTextsSpec)) codeTextsCard

/-- THE TIED CARD OF 'hornbeamlaw26.CodeParses'. -/
def codeParsesCard : Claim7 := { stood := { row := codeParsesRow, standIns := [], harness := (true, "81fcd9b2fbe99bc18d35b080e52840a7eeea4653c023a4ec4488d94294581743"), looks := true }, kinds := [], alts := [], laidByText := true, laidKinds := [.data, .data, .data, .data, .sentinel, .sentinel, .pinned, .pinned], laidTests := true, laidLooks := .later }
def CodeParsesCardSaid : Prop := Claim7.holds Tryz.pinned (.plain (OpenSpec.ofChange codeParsesSpec)) codeParsesCard

/-- THE TIED CARD OF 'hornbeamlaw26.CodeBack'. -/
def codeBackCard : Claim7 := { stood := { row := codeBackRow, standIns := [], harness := (true, "81fcd9b2fbe99bc18d35b080e52840a7eeea4653c023a4ec4488d94294581743"), looks := true }, kinds := [], alts := [], laidByText := true, laidKinds := [.data, .data, .data, .data, .sentinel, .sentinel, .pinned, .pinned], laidTests := true, laidLooks := .later }
def CodeBackCardSaid : Prop := Claim7.holds Tryz.pinned (.plain (OpenSpec.ofChange codeBackSpec)) codeBackCard

/-- THE TIED CARD OF 'hornbeamlaw26.CodePrefix'. -/
def codePrefixCard : Claim7 := { stood := { row := codePrefixRow, standIns := [], harness := (true, "81fcd9b2fbe99bc18d35b080e52840a7eeea4653c023a4ec4488d94294581743"), looks := true }, kinds := [], alts := [], laidByText := true, laidKinds := [.data, .data, .data, .data, .sentinel, .sentinel, .pinned, .pinned], laidTests := true, laidLooks := .later }
def CodePrefixCardSaid : Prop := Claim7.holds Tryz.pinned (.plain (OpenSpec.ofChange codePrefixSpec)) codePrefixCard

/-- THE TIED CARD OF 'hornbeamlaw26.CodeInserts'. -/
def codeInsertsCard : Claim7 := { stood := { row := codeInsertsRow, standIns := [], harness := (true, "81fcd9b2fbe99bc18d35b080e52840a7eeea4653c023a4ec4488d94294581743"), looks := true }, kinds := [], alts := [], laidByText := true, laidKinds := [.data, .data, .data, .data, .sentinel, .sentinel, .pinned, .pinned], laidTests := true, laidLooks := .later }
def CodeInsertsCardSaid : Prop := Claim7.holds Tryz.pinned (.plain (OpenSpec.ofChange codeInsertsSpec)) codeInsertsCard

/-- THE SECOND FORM's CARD OF 'hornbeamlaw26.CodeFields'. -/
def codeFieldsUptoCard : Claim7 := { stood := { row := codeFieldsUptoRow, standIns := [], harness := (true, "81fcd9b2fbe99bc18d35b080e52840a7eeea4653c023a4ec4488d94294581743"), looks := true }, kinds := [], alts := [], laidByText := true, laidKinds := [.data, .data, .data, .data, .sentinel, .sentinel, .pinned, .pinned], laidTests := true, laidLooks := .later }
def CodeFieldsUptoCardSaid : Prop := Claim7.holds Tryz.pinned (.plain (OpenSpec.upto codeFieldsSpec)) codeFieldsUptoCard

/-- THE SECOND FORM's CARD OF 'hornbeamlaw26.CodeKnown'. -/
def codeKnownUptoCard : Claim7 := { stood := { row := codeKnownUptoRow, standIns := [], harness := (true, "81fcd9b2fbe99bc18d35b080e52840a7eeea4653c023a4ec4488d94294581743"), looks := true }, kinds := [], alts := [], laidByText := true, laidKinds := [.data, .data, .data, .data, .sentinel, .sentinel, .pinned, .pinned], laidTests := true, laidLooks := .later }
def CodeKnownUptoCardSaid : Prop := Claim7.holds Tryz.pinned (.plain (OpenSpec.upto codeKnownSpec)) codeKnownUptoCard

/-- THE SECOND FORM's CARD OF 'hornbeamlaw26.CodeEqual'. -/
def codeEqualUptoCard : Claim7 := { stood := { row := codeEqualUptoRow, standIns := [], harness := (true, "81fcd9b2fbe99bc18d35b080e52840a7eeea4653c023a4ec4488d94294581743"), looks := true }, kinds := [], alts := [], laidByText := true, laidKinds := [.data, .data, .data, .data, .sentinel, .sentinel, .pinned, .pinned], laidTests := true, laidLooks := .later }
def CodeEqualUptoCardSaid : Prop := Claim7.holds Tryz.pinned (.plain (OpenSpec.upto codeEqualSpec)) codeEqualUptoCard

/-- THE SECOND FORM's CARD OF 'hornbeamlaw26.CodeRegisters'. -/
def codeRegistersUptoCard : Claim7 := { stood := { row := codeRegistersUptoRow, standIns := [], harness := (true, "81fcd9b2fbe99bc18d35b080e52840a7eeea4653c023a4ec4488d94294581743"), looks := true }, kinds := [], alts := [], laidByText := true, laidKinds := [.data, .data, .data, .data, .sentinel, .sentinel, .pinned, .pinned], laidTests := true, laidLooks := .later }
def CodeRegistersUptoCardSaid : Prop := Claim7.holds Tryz.pinned (.plain (OpenSpec.upto codeRegistersSpec)) codeRegistersUptoCard

/-- THE SECOND FORM's CARD OF 'hornbeamlaw26.CodeTexts'. -/
def codeTextsUptoCard : Claim7 := { stood := { row := codeTextsUptoRow, standIns := [], harness := (true, "81fcd9b2fbe99bc18d35b080e52840a7eeea4653c023a4ec4488d94294581743"), looks := true }, kinds := [], alts := [], laidByText := true, laidKinds := [.data, .data, .data, .data, .sentinel, .sentinel, .pinned, .pinned], laidTests := true, laidLooks := .later }
def CodeTextsUptoCardSaid : Prop := Claim7.holds Tryz.pinned (.plain (OpenSpec.upto codeTextsSpec)) codeTextsUptoCard

/-- THE SECOND FORM's CARD OF 'hornbeamlaw26.CodeParses'. -/
def codeParsesUptoCard : Claim7 := { stood := { row := codeParsesUptoRow, standIns := [], harness := (true, "81fcd9b2fbe99bc18d35b080e52840a7eeea4653c023a4ec4488d94294581743"), looks := true }, kinds := [], alts := [], laidByText := true, laidKinds := [.data, .data, .data, .data, .sentinel, .sentinel, .pinned, .pinned], laidTests := true, laidLooks := .later }
def CodeParsesUptoCardSaid : Prop := Claim7.holds Tryz.pinned (.plain (OpenSpec.upto codeParsesSpec)) codeParsesUptoCard

/-- THE SECOND FORM's CARD OF 'hornbeamlaw26.CodeBack'. -/
def codeBackUptoCard : Claim7 := { stood := { row := codeBackUptoRow, standIns := [], harness := (true, "81fcd9b2fbe99bc18d35b080e52840a7eeea4653c023a4ec4488d94294581743"), looks := true }, kinds := [], alts := [], laidByText := true, laidKinds := [.data, .data, .data, .data, .sentinel, .sentinel, .pinned, .pinned], laidTests := true, laidLooks := .later }
def CodeBackUptoCardSaid : Prop := Claim7.holds Tryz.pinned (.plain (OpenSpec.upto codeBackSpec)) codeBackUptoCard

/-- THE SECOND FORM's CARD OF 'hornbeamlaw26.CodePrefix'. -/
def codePrefixUptoCard : Claim7 := { stood := { row := codePrefixUptoRow, standIns := [], harness := (true, "81fcd9b2fbe99bc18d35b080e52840a7eeea4653c023a4ec4488d94294581743"), looks := true }, kinds := [], alts := [], laidByText := true, laidKinds := [.data, .data, .data, .data, .sentinel, .sentinel, .pinned, .pinned], laidTests := true, laidLooks := .later }
def CodePrefixUptoCardSaid : Prop := Claim7.holds Tryz.pinned (.plain (OpenSpec.upto codePrefixSpec)) codePrefixUptoCard

/-- THE SECOND FORM's CARD OF 'hornbeamlaw26.CodeInserts'. -/
def codeInsertsUptoCard : Claim7 := { stood := { row := codeInsertsUptoRow, standIns := [], harness := (true, "81fcd9b2fbe99bc18d35b080e52840a7eeea4653c023a4ec4488d94294581743"), looks := true }, kinds := [], alts := [], laidByText := true, laidKinds := [.data, .data, .data, .data, .sentinel, .sentinel, .pinned, .pinned], laidTests := true, laidLooks := .later }
def CodeInsertsUptoCardSaid : Prop := Claim7.holds Tryz.pinned (.plain (OpenSpec.upto codeInsertsSpec)) codeInsertsUptoCard
end Rows
end Go.Proofs.YtbipeakinmbdiaaGreatDoor
