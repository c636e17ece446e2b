/-
  DERIVED. GIVEN WITH THE SEED: THE CARDS: each row of YtdhibbphjnoikaaDoorRows.lean that lists a variable, with what it lists TIED to the program's text (the seventh form; the later family's looks); each row that meets fmt, with fmt's text TOLD by the authors' own Lean function (tested against real Go, not proved from fmt's source: count such statements apart). THE CARD IS WHAT COUNTS. Prove the row's statement (the work); the ties are given (YtdhibbphjnoikaaDoorTie.lean); close each card by the builder's one call (the guide's Derived/Test/ToyasCard.lean, 'card_holds'). Laid BY PROGRAM, IN A SANDBOX (cutbox-door.mjs). By AI agents, Wed Nov 11 2026. No macro, syntax, notation, axiom, sorry.
-/
import Derived.Test.YtdhibbphjnoikaaDoorRows
import GoSem.ClaimSeven
namespace Go.Proofs.YtdhibbphjnoikaaDoor
namespace Rows

/-- THE TIED CARD OF 'hornbeamlaw01.CharsTables'. -/
def charsTablesCard : Claim7 := { stood := { row := charsTablesRow, standIns := [], harness := (true, "52e869b9dd1958458a521cc54dc37963316183c24972ea98c4be9518af43798b"), looks := false }, kinds := [], alts := [], laidByText := true, laidKinds := [.data, .data, .data], laidTests := true, laidLooks := .later }
def CharsTablesCardSaid : Prop := Claim7.holds Tryd.pinned (.plain (OpenSpec.ofChange charsTablesSpec)) charsTablesCard

/-- THE TIED CARD OF 'hornbeamlaw01.CharsClasses'. -/
def charsClassesCard : Claim7 := { stood := { row := charsClassesRow, standIns := [], harness := (true, "52e869b9dd1958458a521cc54dc37963316183c24972ea98c4be9518af43798b"), looks := false }, kinds := [], alts := [], laidByText := true, laidKinds := [.data, .data, .data], laidTests := true, laidLooks := .later }
def CharsClassesCardSaid : Prop := Claim7.holds Tryd.pinned (.plain (OpenSpec.ofChange charsClassesSpec)) charsClassesCard

/-- THE TIED CARD OF 'hornbeamlaw01.CharsConverts'. -/
def charsConvertsCard : Claim7 := { stood := { row := charsConvertsRow, standIns := [], harness := (true, "52e869b9dd1958458a521cc54dc37963316183c24972ea98c4be9518af43798b"), looks := false }, kinds := [], alts := [], laidByText := true, laidKinds := [.data, .data, .data], laidTests := true, laidLooks := .later }
def CharsConvertsCardSaid : Prop := Claim7.holds Tryd.pinned (.plain (OpenSpec.ofChange charsConvertsSpec)) charsConvertsCard

/-- THE TIED CARD OF 'hornbeamlaw01.CharsOrder'. -/
def charsOrderCard : Claim7 := { stood := { row := charsOrderRow, standIns := [], harness := (true, "52e869b9dd1958458a521cc54dc37963316183c24972ea98c4be9518af43798b"), looks := false }, kinds := [], alts := [], laidByText := true, laidKinds := [.data, .data, .data], laidTests := true, laidLooks := .later }
def CharsOrderCardSaid : Prop := Claim7.holds Tryd.pinned (.plain (OpenSpec.ofChange charsOrderSpec)) charsOrderCard

/-- THE TIED CARD OF 'hornbeamlaw01.CharsExamples'. -/
def charsExamplesCard : Claim7 := { stood := { row := charsExamplesRow, standIns := [], harness := (true, "52e869b9dd1958458a521cc54dc37963316183c24972ea98c4be9518af43798b"), looks := false }, kinds := [], alts := [], laidByText := true, laidKinds := [.data, .data, .data], laidTests := true, laidLooks := .later }
def CharsExamplesCardSaid : Prop := Claim7.holds Tryd.pinned (.plain (OpenSpec.ofChange charsExamplesSpec)) charsExamplesCard

/-- THE TIED CARD OF 'hornbeamlaw01.CharsCalls'. -/
def charsCallsCard : Claim7 := { stood := { row := charsCallsRow, standIns := [], harness := (true, "52e869b9dd1958458a521cc54dc37963316183c24972ea98c4be9518af43798b"), looks := false }, kinds := [], alts := [], laidByText := true, laidKinds := [.data, .data, .data], laidTests := true, laidLooks := .later }
def CharsCallsCardSaid : Prop := Claim7.holds Tryd.pinned (.plain (OpenSpec.ofChange charsCallsSpec)) charsCallsCard

/-- THE TIED CARD OF 'hornbeamlaw01.CharsEscapes'. -/
def charsEscapesCard : Claim7 := { stood := { row := charsEscapesRow, standIns := [], harness := (true, "52e869b9dd1958458a521cc54dc37963316183c24972ea98c4be9518af43798b"), looks := false }, kinds := [], alts := [], laidByText := true, laidKinds := [.data, .data, .data], laidTests := true, laidLooks := .later }
def CharsEscapesCardSaid : Prop := Claim7.holds Tryd.pinned (.plain (OpenSpec.ofChange charsEscapesSpec)) charsEscapesCard

/-- THE SECOND FORM's CARD OF 'hornbeamlaw01.CharsTables'. -/
def charsTablesUptoCard : Claim7 := { stood := { row := charsTablesUptoRow, standIns := [], harness := (true, "52e869b9dd1958458a521cc54dc37963316183c24972ea98c4be9518af43798b"), looks := false }, kinds := [], alts := [], laidByText := true, laidKinds := [.data, .data, .data], laidTests := true, laidLooks := .later }
def CharsTablesUptoCardSaid : Prop := Claim7.holds Tryd.pinned (.plain (OpenSpec.upto charsTablesSpec)) charsTablesUptoCard

/-- THE SECOND FORM's CARD OF 'hornbeamlaw01.CharsClasses'. -/
def charsClassesUptoCard : Claim7 := { stood := { row := charsClassesUptoRow, standIns := [], harness := (true, "52e869b9dd1958458a521cc54dc37963316183c24972ea98c4be9518af43798b"), looks := false }, kinds := [], alts := [], laidByText := true, laidKinds := [.data, .data, .data], laidTests := true, laidLooks := .later }
def CharsClassesUptoCardSaid : Prop := Claim7.holds Tryd.pinned (.plain (OpenSpec.upto charsClassesSpec)) charsClassesUptoCard

/-- THE SECOND FORM's CARD OF 'hornbeamlaw01.CharsConverts'. -/
def charsConvertsUptoCard : Claim7 := { stood := { row := charsConvertsUptoRow, standIns := [], harness := (true, "52e869b9dd1958458a521cc54dc37963316183c24972ea98c4be9518af43798b"), looks := false }, kinds := [], alts := [], laidByText := true, laidKinds := [.data, .data, .data], laidTests := true, laidLooks := .later }
def CharsConvertsUptoCardSaid : Prop := Claim7.holds Tryd.pinned (.plain (OpenSpec.upto charsConvertsSpec)) charsConvertsUptoCard

/-- THE SECOND FORM's CARD OF 'hornbeamlaw01.CharsOrder'. -/
def charsOrderUptoCard : Claim7 := { stood := { row := charsOrderUptoRow, standIns := [], harness := (true, "52e869b9dd1958458a521cc54dc37963316183c24972ea98c4be9518af43798b"), looks := false }, kinds := [], alts := [], laidByText := true, laidKinds := [.data, .data, .data], laidTests := true, laidLooks := .later }
def CharsOrderUptoCardSaid : Prop := Claim7.holds Tryd.pinned (.plain (OpenSpec.upto charsOrderSpec)) charsOrderUptoCard

/-- THE SECOND FORM's CARD OF 'hornbeamlaw01.CharsExamples'. -/
def charsExamplesUptoCard : Claim7 := { stood := { row := charsExamplesUptoRow, standIns := [], harness := (true, "52e869b9dd1958458a521cc54dc37963316183c24972ea98c4be9518af43798b"), looks := false }, kinds := [], alts := [], laidByText := true, laidKinds := [.data, .data, .data], laidTests := true, laidLooks := .later }
def CharsExamplesUptoCardSaid : Prop := Claim7.holds Tryd.pinned (.plain (OpenSpec.upto charsExamplesSpec)) charsExamplesUptoCard

/-- THE SECOND FORM's CARD OF 'hornbeamlaw01.CharsCalls'. -/
def charsCallsUptoCard : Claim7 := { stood := { row := charsCallsUptoRow, standIns := [], harness := (true, "52e869b9dd1958458a521cc54dc37963316183c24972ea98c4be9518af43798b"), looks := false }, kinds := [], alts := [], laidByText := true, laidKinds := [.data, .data, .data], laidTests := true, laidLooks := .later }
def CharsCallsUptoCardSaid : Prop := Claim7.holds Tryd.pinned (.plain (OpenSpec.upto charsCallsSpec)) charsCallsUptoCard

/-- THE SECOND FORM's CARD OF 'hornbeamlaw01.CharsEscapes'. -/
def charsEscapesUptoCard : Claim7 := { stood := { row := charsEscapesUptoRow, standIns := [], harness := (true, "52e869b9dd1958458a521cc54dc37963316183c24972ea98c4be9518af43798b"), looks := false }, kinds := [], alts := [], laidByText := true, laidKinds := [.data, .data, .data], laidTests := true, laidLooks := .later }
def CharsEscapesUptoCardSaid : Prop := Claim7.holds Tryd.pinned (.plain (OpenSpec.upto charsEscapesSpec)) charsEscapesUptoCard
end Rows
end Go.Proofs.YtdhibbphjnoikaaDoor
