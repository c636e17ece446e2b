/-
  DERIVED. GIVEN WITH THE SEED: THE CARDS: each row of YtcnbaioecoaopaaDoorRows.lean that lists a variable, with what it lists TIED to the program's text (the seventh form; the later family's looks); each row that meets fmt, with fmt's text TOLD by the authors' own Lean function (tested against real Go, not proved from fmt's source: count such statements apart). THE CARD IS WHAT COUNTS. Prove the row's statement (the work); the ties are given (YtcnbaioecoaopaaDoorTie.lean); close each card by the builder's one call (the guide's Derived/Test/ToyasCard.lean, 'card_holds'). Laid BY PROGRAM, IN A SANDBOX (cutbox-door.mjs). By AI agents, Wed Nov 11 2026. No macro, syntax, notation, axiom, sorry.
-/
import Derived.Test.YtcnbaioecoaopaaDoorRows
import GoSem.ClaimSeven
namespace Go.Proofs.YtcnbaioecoaopaaDoor
namespace Rows

/-- THE TIED CARD OF 'hornbeamlaw02.IntsUnary'. -/
def intsUnaryCard : Claim7 := { stood := { row := intsUnaryRow, standIns := [], harness := (true, "de5dd4703a9686b736587d98e17867a9101c280e61163d4d864d112db69cf133"), looks := false }, kinds := [], alts := [], laidByText := true, laidKinds := [.data, .data, .data], laidTests := true, laidLooks := .later }
def IntsUnaryCardSaid : Prop := Claim7.holds Tryd.pinned (.plain (OpenSpec.ofChange intsUnarySpec)) intsUnaryCard

/-- THE TIED CARD OF 'hornbeamlaw02.IntsBinary'. -/
def intsBinaryCard : Claim7 := { stood := { row := intsBinaryRow, standIns := [], harness := (true, "de5dd4703a9686b736587d98e17867a9101c280e61163d4d864d112db69cf133"), looks := false }, kinds := [], alts := [], laidByText := true, laidKinds := [.data, .data, .data], laidTests := true, laidLooks := .later }
def IntsBinaryCardSaid : Prop := Claim7.holds Tryd.pinned (.plain (OpenSpec.ofChange intsBinarySpec)) intsBinaryCard

/-- THE TIED CARD OF 'hornbeamlaw02.IntsParse'. -/
def intsParseCard : Claim7 := { stood := { row := intsParseRow, standIns := [], harness := (true, "de5dd4703a9686b736587d98e17867a9101c280e61163d4d864d112db69cf133"), looks := false }, kinds := [], alts := [], laidByText := true, laidKinds := [.data, .data, .data], laidTests := true, laidLooks := .later }
def IntsParseCardSaid : Prop := Claim7.holds Tryd.pinned (.plain (OpenSpec.ofChange intsParseSpec)) intsParseCard

/-- THE TIED CARD OF 'hornbeamlaw02.IntsText'. -/
def intsTextCard : Claim7 := { stood := { row := intsTextRow, standIns := [], harness := (true, "de5dd4703a9686b736587d98e17867a9101c280e61163d4d864d112db69cf133"), looks := false }, kinds := [], alts := [], laidByText := true, laidKinds := [.data, .data, .data], laidTests := true, laidLooks := .later }
def IntsTextCardSaid : Prop := Claim7.holds Tryd.pinned (.plain (OpenSpec.ofChange intsTextSpec)) intsTextCard

/-- THE TIED CARD OF 'hornbeamlaw02.IntsDivides'. -/
def intsDividesCard : Claim7 := { stood := { row := intsDividesRow, standIns := [], harness := (true, "de5dd4703a9686b736587d98e17867a9101c280e61163d4d864d112db69cf133"), looks := false }, kinds := [], alts := [], laidByText := true, laidKinds := [.data, .data, .data], laidTests := true, laidLooks := .later }
def IntsDividesCardSaid : Prop := Claim7.holds Tryd.pinned (.plain (OpenSpec.ofChange intsDividesSpec)) intsDividesCard

/-- THE TIED CARD OF 'hornbeamlaw02.IntsShifts'. -/
def intsShiftsCard : Claim7 := { stood := { row := intsShiftsRow, standIns := [], harness := (true, "de5dd4703a9686b736587d98e17867a9101c280e61163d4d864d112db69cf133"), looks := false }, kinds := [], alts := [], laidByText := true, laidKinds := [.data, .data, .data], laidTests := true, laidLooks := .later }
def IntsShiftsCardSaid : Prop := Claim7.holds Tryd.pinned (.plain (OpenSpec.ofChange intsShiftsSpec)) intsShiftsCard

/-- THE TIED CARD OF 'hornbeamlaw02.IntsPowers'. -/
def intsPowersCard : Claim7 := { stood := { row := intsPowersRow, standIns := [], harness := (true, "de5dd4703a9686b736587d98e17867a9101c280e61163d4d864d112db69cf133"), looks := false }, kinds := [], alts := [], laidByText := true, laidKinds := [.data, .data, .data], laidTests := true, laidLooks := .later }
def IntsPowersCardSaid : Prop := Claim7.holds Tryd.pinned (.plain (OpenSpec.ofChange intsPowersSpec)) intsPowersCard

/-- THE TIED CARD OF 'hornbeamlaw02.IntsBits'. -/
def intsBitsCard : Claim7 := { stood := { row := intsBitsRow, standIns := [], harness := (true, "de5dd4703a9686b736587d98e17867a9101c280e61163d4d864d112db69cf133"), looks := false }, kinds := [], alts := [], laidByText := true, laidKinds := [.data, .data, .data], laidTests := true, laidLooks := .later }
def IntsBitsCardSaid : Prop := Claim7.holds Tryd.pinned (.plain (OpenSpec.ofChange intsBitsSpec)) intsBitsCard

/-- THE TIED CARD OF 'hornbeamlaw02.IntsDivisors'. -/
def intsDivisorsCard : Claim7 := { stood := { row := intsDivisorsRow, standIns := [], harness := (true, "de5dd4703a9686b736587d98e17867a9101c280e61163d4d864d112db69cf133"), looks := false }, kinds := [], alts := [], laidByText := true, laidKinds := [.data, .data, .data], laidTests := true, laidLooks := .later }
def IntsDivisorsCardSaid : Prop := Claim7.holds Tryd.pinned (.plain (OpenSpec.ofChange intsDivisorsSpec)) intsDivisorsCard

/-- THE TIED CARD OF 'hornbeamlaw02.IntsOrders'. -/
def intsOrdersCard : Claim7 := { stood := { row := intsOrdersRow, standIns := [], harness := (true, "de5dd4703a9686b736587d98e17867a9101c280e61163d4d864d112db69cf133"), looks := false }, kinds := [], alts := [], laidByText := true, laidKinds := [.data, .data, .data], laidTests := true, laidLooks := .later }
def IntsOrdersCardSaid : Prop := Claim7.holds Tryd.pinned (.plain (OpenSpec.ofChange intsOrdersSpec)) intsOrdersCard

/-- THE SECOND FORM's CARD OF 'hornbeamlaw02.IntsUnary'. -/
def intsUnaryUptoCard : Claim7 := { stood := { row := intsUnaryUptoRow, standIns := [], harness := (true, "de5dd4703a9686b736587d98e17867a9101c280e61163d4d864d112db69cf133"), looks := false }, kinds := [], alts := [], laidByText := true, laidKinds := [.data, .data, .data], laidTests := true, laidLooks := .later }
def IntsUnaryUptoCardSaid : Prop := Claim7.holds Tryd.pinned (.plain (OpenSpec.upto intsUnarySpec)) intsUnaryUptoCard

/-- THE SECOND FORM's CARD OF 'hornbeamlaw02.IntsBinary'. -/
def intsBinaryUptoCard : Claim7 := { stood := { row := intsBinaryUptoRow, standIns := [], harness := (true, "de5dd4703a9686b736587d98e17867a9101c280e61163d4d864d112db69cf133"), looks := false }, kinds := [], alts := [], laidByText := true, laidKinds := [.data, .data, .data], laidTests := true, laidLooks := .later }
def IntsBinaryUptoCardSaid : Prop := Claim7.holds Tryd.pinned (.plain (OpenSpec.upto intsBinarySpec)) intsBinaryUptoCard

/-- THE SECOND FORM's CARD OF 'hornbeamlaw02.IntsParse'. -/
def intsParseUptoCard : Claim7 := { stood := { row := intsParseUptoRow, standIns := [], harness := (true, "de5dd4703a9686b736587d98e17867a9101c280e61163d4d864d112db69cf133"), looks := false }, kinds := [], alts := [], laidByText := true, laidKinds := [.data, .data, .data], laidTests := true, laidLooks := .later }
def IntsParseUptoCardSaid : Prop := Claim7.holds Tryd.pinned (.plain (OpenSpec.upto intsParseSpec)) intsParseUptoCard

/-- THE SECOND FORM's CARD OF 'hornbeamlaw02.IntsText'. -/
def intsTextUptoCard : Claim7 := { stood := { row := intsTextUptoRow, standIns := [], harness := (true, "de5dd4703a9686b736587d98e17867a9101c280e61163d4d864d112db69cf133"), looks := false }, kinds := [], alts := [], laidByText := true, laidKinds := [.data, .data, .data], laidTests := true, laidLooks := .later }
def IntsTextUptoCardSaid : Prop := Claim7.holds Tryd.pinned (.plain (OpenSpec.upto intsTextSpec)) intsTextUptoCard

/-- THE SECOND FORM's CARD OF 'hornbeamlaw02.IntsDivides'. -/
def intsDividesUptoCard : Claim7 := { stood := { row := intsDividesUptoRow, standIns := [], harness := (true, "de5dd4703a9686b736587d98e17867a9101c280e61163d4d864d112db69cf133"), looks := false }, kinds := [], alts := [], laidByText := true, laidKinds := [.data, .data, .data], laidTests := true, laidLooks := .later }
def IntsDividesUptoCardSaid : Prop := Claim7.holds Tryd.pinned (.plain (OpenSpec.upto intsDividesSpec)) intsDividesUptoCard

/-- THE SECOND FORM's CARD OF 'hornbeamlaw02.IntsShifts'. -/
def intsShiftsUptoCard : Claim7 := { stood := { row := intsShiftsUptoRow, standIns := [], harness := (true, "de5dd4703a9686b736587d98e17867a9101c280e61163d4d864d112db69cf133"), looks := false }, kinds := [], alts := [], laidByText := true, laidKinds := [.data, .data, .data], laidTests := true, laidLooks := .later }
def IntsShiftsUptoCardSaid : Prop := Claim7.holds Tryd.pinned (.plain (OpenSpec.upto intsShiftsSpec)) intsShiftsUptoCard

/-- THE SECOND FORM's CARD OF 'hornbeamlaw02.IntsPowers'. -/
def intsPowersUptoCard : Claim7 := { stood := { row := intsPowersUptoRow, standIns := [], harness := (true, "de5dd4703a9686b736587d98e17867a9101c280e61163d4d864d112db69cf133"), looks := false }, kinds := [], alts := [], laidByText := true, laidKinds := [.data, .data, .data], laidTests := true, laidLooks := .later }
def IntsPowersUptoCardSaid : Prop := Claim7.holds Tryd.pinned (.plain (OpenSpec.upto intsPowersSpec)) intsPowersUptoCard

/-- THE SECOND FORM's CARD OF 'hornbeamlaw02.IntsBits'. -/
def intsBitsUptoCard : Claim7 := { stood := { row := intsBitsUptoRow, standIns := [], harness := (true, "de5dd4703a9686b736587d98e17867a9101c280e61163d4d864d112db69cf133"), looks := false }, kinds := [], alts := [], laidByText := true, laidKinds := [.data, .data, .data], laidTests := true, laidLooks := .later }
def IntsBitsUptoCardSaid : Prop := Claim7.holds Tryd.pinned (.plain (OpenSpec.upto intsBitsSpec)) intsBitsUptoCard

/-- THE SECOND FORM's CARD OF 'hornbeamlaw02.IntsDivisors'. -/
def intsDivisorsUptoCard : Claim7 := { stood := { row := intsDivisorsUptoRow, standIns := [], harness := (true, "de5dd4703a9686b736587d98e17867a9101c280e61163d4d864d112db69cf133"), looks := false }, kinds := [], alts := [], laidByText := true, laidKinds := [.data, .data, .data], laidTests := true, laidLooks := .later }
def IntsDivisorsUptoCardSaid : Prop := Claim7.holds Tryd.pinned (.plain (OpenSpec.upto intsDivisorsSpec)) intsDivisorsUptoCard

/-- THE SECOND FORM's CARD OF 'hornbeamlaw02.IntsOrders'. -/
def intsOrdersUptoCard : Claim7 := { stood := { row := intsOrdersUptoRow, standIns := [], harness := (true, "de5dd4703a9686b736587d98e17867a9101c280e61163d4d864d112db69cf133"), looks := false }, kinds := [], alts := [], laidByText := true, laidKinds := [.data, .data, .data], laidTests := true, laidLooks := .later }
def IntsOrdersUptoCardSaid : Prop := Claim7.holds Tryd.pinned (.plain (OpenSpec.upto intsOrdersSpec)) intsOrdersUptoCard
end Rows
end Go.Proofs.YtcnbaioecoaopaaDoor
