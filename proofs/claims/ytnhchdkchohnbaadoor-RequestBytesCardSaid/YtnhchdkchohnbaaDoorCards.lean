/-
  DERIVED. GIVEN WITH THE SEED: THE CARDS: each row of YtnhchdkchohnbaaDoorRows.lean that lists a variable, with what it lists TIED to the program's text (the seventh form; the later family's looks); each row that meets fmt, with fmt's text TOLD by the authors' own Lean function (tested against real Go, not proved from fmt's source: count such statements apart). THE CARD IS WHAT COUNTS. Prove the row's statement (the work); the ties are given (YtnhchdkchohnbaaDoorTie.lean); close each card by the builder's one call (the guide's Derived/Test/ToyasCard.lean, 'card_holds'). Laid BY PROGRAM, IN A SANDBOX (cutbox-door.mjs). By AI agents, Wed Nov 11 2026. No macro, syntax, notation, axiom, sorry.
-/
import Derived.Test.YtnhchdkchohnbaaDoorRows
import GoSem.ClaimSeven
namespace Go.Proofs.YtnhchdkchohnbaaDoor
namespace Rows

/-- THE TIED CARD OF 'tolllaw12.TicketMatchesReference'. -/
def ticketMatchesReferenceCard : Claim7 := { stood := { row := ticketMatchesReferenceRow, standIns := [], harness := (true, "a88b7eb61775ed262b17decd7a09a9078a85996c8ebe36f81d18f05fb62b6278"), looks := false }, kinds := [], alts := [], laidByText := true, laidKinds := [.data], laidTests := true, laidLooks := .later }
def TicketMatchesReferenceCardSaid : Prop := Claim7.holds Tryd.pinned (.plain (OpenSpec.ofChange ticketMatchesReferenceSpec)) ticketMatchesReferenceCard

/-- THE TIED CARD OF 'tolllaw12.TicketParses'. -/
def ticketParsesCard : Claim7 := { stood := { row := ticketParsesRow, standIns := [], harness := (true, "a88b7eb61775ed262b17decd7a09a9078a85996c8ebe36f81d18f05fb62b6278"), looks := false }, kinds := [], alts := [], laidByText := true, laidKinds := [.data], laidTests := true, laidLooks := .later }
def TicketParsesCardSaid : Prop := Claim7.holds Tryd.pinned (.plain (OpenSpec.ofChange ticketParsesSpec)) ticketParsesCard

/-- THE TIED CARD OF 'tolllaw12.TicketSeals'. -/
def ticketSealsCard : Claim7 := { stood := { row := ticketSealsRow, standIns := [], harness := (true, "a88b7eb61775ed262b17decd7a09a9078a85996c8ebe36f81d18f05fb62b6278"), looks := false }, kinds := [], alts := [], laidByText := true, laidKinds := [.data], laidTests := true, laidLooks := .later }
def TicketSealsCardSaid : Prop := Claim7.holds Tryd.pinned (.plain (OpenSpec.ofChange ticketSealsSpec)) ticketSealsCard

/-- THE TIED CARD OF 'tolllaw12.TicketOpens'. -/
def ticketOpensCard : Claim7 := { stood := { row := ticketOpensRow, standIns := [], harness := (true, "a88b7eb61775ed262b17decd7a09a9078a85996c8ebe36f81d18f05fb62b6278"), looks := false }, kinds := [], alts := [], laidByText := true, laidKinds := [.data], laidTests := true, laidLooks := .later }
def TicketOpensCardSaid : Prop := Claim7.holds Tryd.pinned (.plain (OpenSpec.ofChange ticketOpensSpec)) ticketOpensCard

/-- THE TIED CARD OF 'tolllaw13.AuthMatchesReference'. -/
def authMatchesReferenceCard : Claim7 := { stood := { row := authMatchesReferenceRow, standIns := [], harness := (true, "a88b7eb61775ed262b17decd7a09a9078a85996c8ebe36f81d18f05fb62b6278"), looks := false }, kinds := [], alts := [], laidByText := true, laidKinds := [.data], laidTests := true, laidLooks := .later }
def AuthMatchesReferenceCardSaid : Prop := Claim7.holds Tryd.pinned (.plain (OpenSpec.ofChange authMatchesReferenceSpec)) authMatchesReferenceCard

/-- THE TIED CARD OF 'tolllaw13.AuthParses'. -/
def authParsesCard : Claim7 := { stood := { row := authParsesRow, standIns := [], harness := (true, "a88b7eb61775ed262b17decd7a09a9078a85996c8ebe36f81d18f05fb62b6278"), looks := false }, kinds := [], alts := [], laidByText := true, laidKinds := [.data], laidTests := true, laidLooks := .later }
def AuthParsesCardSaid : Prop := Claim7.holds Tryd.pinned (.plain (OpenSpec.ofChange authParsesSpec)) authParsesCard

/-- THE TIED CARD OF 'tolllaw13.AuthSeals'. -/
def authSealsCard : Claim7 := { stood := { row := authSealsRow, standIns := [], harness := (true, "a88b7eb61775ed262b17decd7a09a9078a85996c8ebe36f81d18f05fb62b6278"), looks := false }, kinds := [], alts := [], laidByText := true, laidKinds := [.data], laidTests := true, laidLooks := .later }
def AuthSealsCardSaid : Prop := Claim7.holds Tryd.pinned (.plain (OpenSpec.ofChange authSealsSpec)) authSealsCard

/-- THE TIED CARD OF 'tolllaw14.RequestMatchesReference'. -/
def requestMatchesReferenceCard : Claim7 := { stood := { row := requestMatchesReferenceRow, standIns := [], harness := (true, "a88b7eb61775ed262b17decd7a09a9078a85996c8ebe36f81d18f05fb62b6278"), looks := false }, kinds := [], alts := [], laidByText := true, laidKinds := [.data], laidTests := true, laidLooks := .later }
def RequestMatchesReferenceCardSaid : Prop := Claim7.holds Tryd.pinned (.plain (OpenSpec.ofChange requestMatchesReferenceSpec)) requestMatchesReferenceCard

/-- THE TIED CARD OF 'tolllaw14.RequestBytes'. -/
def requestBytesCard : Claim7 := { stood := { row := requestBytesRow, standIns := [], harness := (true, "a88b7eb61775ed262b17decd7a09a9078a85996c8ebe36f81d18f05fb62b6278"), looks := false }, kinds := [], alts := [], laidByText := true, laidKinds := [.data], laidTests := true, laidLooks := .later }
def RequestBytesCardSaid : Prop := Claim7.holds Tryd.pinned (.plain (OpenSpec.ofChange requestBytesSpec)) requestBytesCard

/-- THE SECOND FORM's CARD OF 'tolllaw12.TicketMatchesReference'. -/
def ticketMatchesReferenceUptoCard : Claim7 := { stood := { row := ticketMatchesReferenceUptoRow, standIns := [], harness := (true, "a88b7eb61775ed262b17decd7a09a9078a85996c8ebe36f81d18f05fb62b6278"), looks := false }, kinds := [], alts := [], laidByText := true, laidKinds := [.data], laidTests := true, laidLooks := .later }
def TicketMatchesReferenceUptoCardSaid : Prop := Claim7.holds Tryd.pinned (.plain (OpenSpec.upto ticketMatchesReferenceSpec)) ticketMatchesReferenceUptoCard

/-- THE SECOND FORM's CARD OF 'tolllaw12.TicketParses'. -/
def ticketParsesUptoCard : Claim7 := { stood := { row := ticketParsesUptoRow, standIns := [], harness := (true, "a88b7eb61775ed262b17decd7a09a9078a85996c8ebe36f81d18f05fb62b6278"), looks := false }, kinds := [], alts := [], laidByText := true, laidKinds := [.data], laidTests := true, laidLooks := .later }
def TicketParsesUptoCardSaid : Prop := Claim7.holds Tryd.pinned (.plain (OpenSpec.upto ticketParsesSpec)) ticketParsesUptoCard

/-- THE SECOND FORM's CARD OF 'tolllaw12.TicketSeals'. -/
def ticketSealsUptoCard : Claim7 := { stood := { row := ticketSealsUptoRow, standIns := [], harness := (true, "a88b7eb61775ed262b17decd7a09a9078a85996c8ebe36f81d18f05fb62b6278"), looks := false }, kinds := [], alts := [], laidByText := true, laidKinds := [.data], laidTests := true, laidLooks := .later }
def TicketSealsUptoCardSaid : Prop := Claim7.holds Tryd.pinned (.plain (OpenSpec.upto ticketSealsSpec)) ticketSealsUptoCard

/-- THE SECOND FORM's CARD OF 'tolllaw12.TicketOpens'. -/
def ticketOpensUptoCard : Claim7 := { stood := { row := ticketOpensUptoRow, standIns := [], harness := (true, "a88b7eb61775ed262b17decd7a09a9078a85996c8ebe36f81d18f05fb62b6278"), looks := false }, kinds := [], alts := [], laidByText := true, laidKinds := [.data], laidTests := true, laidLooks := .later }
def TicketOpensUptoCardSaid : Prop := Claim7.holds Tryd.pinned (.plain (OpenSpec.upto ticketOpensSpec)) ticketOpensUptoCard

/-- THE SECOND FORM's CARD OF 'tolllaw13.AuthMatchesReference'. -/
def authMatchesReferenceUptoCard : Claim7 := { stood := { row := authMatchesReferenceUptoRow, standIns := [], harness := (true, "a88b7eb61775ed262b17decd7a09a9078a85996c8ebe36f81d18f05fb62b6278"), looks := false }, kinds := [], alts := [], laidByText := true, laidKinds := [.data], laidTests := true, laidLooks := .later }
def AuthMatchesReferenceUptoCardSaid : Prop := Claim7.holds Tryd.pinned (.plain (OpenSpec.upto authMatchesReferenceSpec)) authMatchesReferenceUptoCard

/-- THE SECOND FORM's CARD OF 'tolllaw13.AuthParses'. -/
def authParsesUptoCard : Claim7 := { stood := { row := authParsesUptoRow, standIns := [], harness := (true, "a88b7eb61775ed262b17decd7a09a9078a85996c8ebe36f81d18f05fb62b6278"), looks := false }, kinds := [], alts := [], laidByText := true, laidKinds := [.data], laidTests := true, laidLooks := .later }
def AuthParsesUptoCardSaid : Prop := Claim7.holds Tryd.pinned (.plain (OpenSpec.upto authParsesSpec)) authParsesUptoCard

/-- THE SECOND FORM's CARD OF 'tolllaw13.AuthSeals'. -/
def authSealsUptoCard : Claim7 := { stood := { row := authSealsUptoRow, standIns := [], harness := (true, "a88b7eb61775ed262b17decd7a09a9078a85996c8ebe36f81d18f05fb62b6278"), looks := false }, kinds := [], alts := [], laidByText := true, laidKinds := [.data], laidTests := true, laidLooks := .later }
def AuthSealsUptoCardSaid : Prop := Claim7.holds Tryd.pinned (.plain (OpenSpec.upto authSealsSpec)) authSealsUptoCard

/-- THE SECOND FORM's CARD OF 'tolllaw14.RequestMatchesReference'. -/
def requestMatchesReferenceUptoCard : Claim7 := { stood := { row := requestMatchesReferenceUptoRow, standIns := [], harness := (true, "a88b7eb61775ed262b17decd7a09a9078a85996c8ebe36f81d18f05fb62b6278"), looks := false }, kinds := [], alts := [], laidByText := true, laidKinds := [.data], laidTests := true, laidLooks := .later }
def RequestMatchesReferenceUptoCardSaid : Prop := Claim7.holds Tryd.pinned (.plain (OpenSpec.upto requestMatchesReferenceSpec)) requestMatchesReferenceUptoCard

/-- THE SECOND FORM's CARD OF 'tolllaw14.RequestBytes'. -/
def requestBytesUptoCard : Claim7 := { stood := { row := requestBytesUptoRow, standIns := [], harness := (true, "a88b7eb61775ed262b17decd7a09a9078a85996c8ebe36f81d18f05fb62b6278"), looks := false }, kinds := [], alts := [], laidByText := true, laidKinds := [.data], laidTests := true, laidLooks := .later }
def RequestBytesUptoCardSaid : Prop := Claim7.holds Tryd.pinned (.plain (OpenSpec.upto requestBytesSpec)) requestBytesUptoCard
end Rows
end Go.Proofs.YtnhchdkchohnbaaDoor
