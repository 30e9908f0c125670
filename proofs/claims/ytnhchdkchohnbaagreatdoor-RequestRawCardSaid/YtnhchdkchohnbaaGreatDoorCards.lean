/-
  DERIVED. GIVEN WITH THE SEED: THE CARDS: each row of YtnhchdkchohnbaaGreatDoorRows.lean that lists a variable, with what it lists TIED to the program's text (the seventh form; the later family's looks); each row that meets fmt, with fmt's text TOLD by the authors' own Lean function (tested against real Go, not proved from fmt's source: count such statements apart). THE CARD IS WHAT COUNTS. Prove the row's statement (the work); the ties are given (YtnhchdkchohnbaaGreatDoorTie.lean); close each card by the builder's one call (the guide's Derived/Test/ToyasCard.lean, 'card_holds'). Laid BY PROGRAM, IN A SANDBOX (cutbox-door.mjs). By AI agents, Wed Nov 11 2026. No macro, syntax, notation, axiom, sorry.
-/
import Derived.Test.YtnhchdkchohnbaaGreatDoorRows
import GoSem.ClaimSeven
namespace Go.Proofs.YtnhchdkchohnbaaGreatDoor
namespace Rows

/-- THE TIED CARD OF 'tolllaw13.AuthOpens'. -/
def authOpensCard : Claim7 := { stood := { row := authOpensRow, standIns := [], harness := (true, "37469969bf6c5cf1cbb4a72e24d9c47509ae1da614c0c12823b510ef210fc81f"), looks := false }, kinds := [], alts := [], laidByText := true, laidKinds := [.data], laidTests := true, laidLooks := .later }
def AuthOpensCardSaid : Prop := Claim7.holds Tryz.pinned (.plain (OpenSpec.ofChange authOpensSpec)) authOpensCard

/-- THE TIED CARD OF 'tolllaw14.RequestMakes'. -/
def requestMakesCard : Claim7 := { stood := { row := requestMakesRow, standIns := [], harness := (true, "37469969bf6c5cf1cbb4a72e24d9c47509ae1da614c0c12823b510ef210fc81f"), looks := false }, kinds := [], alts := [], laidByText := true, laidKinds := [.data], laidTests := true, laidLooks := .later }
def RequestMakesCardSaid : Prop := Claim7.holds Tryz.pinned (.plain (OpenSpec.ofChange requestMakesSpec)) requestMakesCard

/-- THE TIED CARD OF 'tolllaw14.RequestOpens'. -/
def requestOpensCard : Claim7 := { stood := { row := requestOpensRow, standIns := [], harness := (true, "37469969bf6c5cf1cbb4a72e24d9c47509ae1da614c0c12823b510ef210fc81f"), looks := false }, kinds := [], alts := [], laidByText := true, laidKinds := [.data], laidTests := true, laidLooks := .later }
def RequestOpensCardSaid : Prop := Claim7.holds Tryz.pinned (.plain (OpenSpec.ofChange requestOpensSpec)) requestOpensCard

/-- THE TIED CARD OF 'tolllaw14.RequestRaw'. -/
def requestRawCard : Claim7 := { stood := { row := requestRawRow, standIns := [], harness := (true, "37469969bf6c5cf1cbb4a72e24d9c47509ae1da614c0c12823b510ef210fc81f"), looks := false }, kinds := [], alts := [], laidByText := true, laidKinds := [.data], laidTests := true, laidLooks := .later }
def RequestRawCardSaid : Prop := Claim7.holds Tryz.pinned (.plain (OpenSpec.ofChange requestRawSpec)) requestRawCard

/-- THE SECOND FORM's CARD OF 'tolllaw13.AuthOpens'. -/
def authOpensUptoCard : Claim7 := { stood := { row := authOpensUptoRow, standIns := [], harness := (true, "37469969bf6c5cf1cbb4a72e24d9c47509ae1da614c0c12823b510ef210fc81f"), looks := false }, kinds := [], alts := [], laidByText := true, laidKinds := [.data], laidTests := true, laidLooks := .later }
def AuthOpensUptoCardSaid : Prop := Claim7.holds Tryz.pinned (.plain (OpenSpec.upto authOpensSpec)) authOpensUptoCard

/-- THE SECOND FORM's CARD OF 'tolllaw14.RequestMakes'. -/
def requestMakesUptoCard : Claim7 := { stood := { row := requestMakesUptoRow, standIns := [], harness := (true, "37469969bf6c5cf1cbb4a72e24d9c47509ae1da614c0c12823b510ef210fc81f"), looks := false }, kinds := [], alts := [], laidByText := true, laidKinds := [.data], laidTests := true, laidLooks := .later }
def RequestMakesUptoCardSaid : Prop := Claim7.holds Tryz.pinned (.plain (OpenSpec.upto requestMakesSpec)) requestMakesUptoCard

/-- THE SECOND FORM's CARD OF 'tolllaw14.RequestOpens'. -/
def requestOpensUptoCard : Claim7 := { stood := { row := requestOpensUptoRow, standIns := [], harness := (true, "37469969bf6c5cf1cbb4a72e24d9c47509ae1da614c0c12823b510ef210fc81f"), looks := false }, kinds := [], alts := [], laidByText := true, laidKinds := [.data], laidTests := true, laidLooks := .later }
def RequestOpensUptoCardSaid : Prop := Claim7.holds Tryz.pinned (.plain (OpenSpec.upto requestOpensSpec)) requestOpensUptoCard

/-- THE SECOND FORM's CARD OF 'tolllaw14.RequestRaw'. -/
def requestRawUptoCard : Claim7 := { stood := { row := requestRawUptoRow, standIns := [], harness := (true, "37469969bf6c5cf1cbb4a72e24d9c47509ae1da614c0c12823b510ef210fc81f"), looks := false }, kinds := [], alts := [], laidByText := true, laidKinds := [.data], laidTests := true, laidLooks := .later }
def RequestRawUptoCardSaid : Prop := Claim7.holds Tryz.pinned (.plain (OpenSpec.upto requestRawSpec)) requestRawUptoCard
end Rows
end Go.Proofs.YtnhchdkchohnbaaGreatDoor
