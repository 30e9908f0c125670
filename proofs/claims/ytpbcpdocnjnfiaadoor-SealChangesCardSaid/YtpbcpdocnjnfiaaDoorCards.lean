/-
  DERIVED. GIVEN WITH THE SEED: THE CARDS: each row of YtpbcpdocnjnfiaaDoorRows.lean that lists a variable, with what it lists TIED to the program's text (the seventh form; the later family's looks); each row that meets fmt, with fmt's text TOLD by the authors' own Lean function (tested against real Go, not proved from fmt's source: count such statements apart). THE CARD IS WHAT COUNTS. Prove the row's statement (the work); the ties are given (YtpbcpdocnjnfiaaDoorTie.lean); close each card by the builder's one call (the guide's Derived/Test/ToyasCard.lean, 'card_holds'). Laid BY PROGRAM, IN A SANDBOX (cutbox-door.mjs). By AI agents, Wed Nov 11 2026. No macro, syntax, notation, axiom, sorry.
-/
import Derived.Test.YtpbcpdocnjnfiaaDoorRows
import GoSem.ClaimSeven
namespace Go.Proofs.YtpbcpdocnjnfiaaDoor
namespace Rows

/-- THE TIED CARD OF 'tolllaw09.SealMatchesReference'. -/
def sealMatchesReferenceCard : Claim7 := { stood := { row := sealMatchesReferenceRow, standIns := [], harness := (true, "6e0fe51508eeb2fc81211be13dae0ef35264acd8df317c13367d69c7ab68c0b2"), looks := false }, kinds := [], alts := [], laidByText := true, laidKinds := [.data], laidTests := true, laidLooks := .later }
def SealMatchesReferenceCardSaid : Prop := Claim7.holds Tryd.pinned (.plain (OpenSpec.ofChange sealMatchesReferenceSpec)) sealMatchesReferenceCard

/-- THE TIED CARD OF 'tolllaw09.SealOpens'. -/
def sealOpensCard : Claim7 := { stood := { row := sealOpensRow, standIns := [], harness := (true, "6e0fe51508eeb2fc81211be13dae0ef35264acd8df317c13367d69c7ab68c0b2"), looks := false }, kinds := [], alts := [], laidByText := true, laidKinds := [.data], laidTests := true, laidLooks := .later }
def SealOpensCardSaid : Prop := Claim7.holds Tryd.pinned (.plain (OpenSpec.ofChange sealOpensSpec)) sealOpensCard

/-- THE TIED CARD OF 'tolllaw09.SealChanges'. -/
def sealChangesCard : Claim7 := { stood := { row := sealChangesRow, standIns := [], harness := (true, "6e0fe51508eeb2fc81211be13dae0ef35264acd8df317c13367d69c7ab68c0b2"), looks := false }, kinds := [], alts := [], laidByText := true, laidKinds := [.data], laidTests := true, laidLooks := .later }
def SealChangesCardSaid : Prop := Claim7.holds Tryd.pinned (.plain (OpenSpec.ofChange sealChangesSpec)) sealChangesCard

/-- THE TIED CARD OF 'tolllaw09.SealKeys'. -/
def sealKeysCard : Claim7 := { stood := { row := sealKeysRow, standIns := [], harness := (true, "6e0fe51508eeb2fc81211be13dae0ef35264acd8df317c13367d69c7ab68c0b2"), looks := false }, kinds := [], alts := [], laidByText := true, laidKinds := [.data], laidTests := true, laidLooks := .later }
def SealKeysCardSaid : Prop := Claim7.holds Tryd.pinned (.plain (OpenSpec.ofChange sealKeysSpec)) sealKeysCard

/-- THE TIED CARD OF 'tolllaw09.SealNonces'. -/
def sealNoncesCard : Claim7 := { stood := { row := sealNoncesRow, standIns := [], harness := (true, "6e0fe51508eeb2fc81211be13dae0ef35264acd8df317c13367d69c7ab68c0b2"), looks := false }, kinds := [], alts := [], laidByText := true, laidKinds := [.data], laidTests := true, laidLooks := .later }
def SealNoncesCardSaid : Prop := Claim7.holds Tryd.pinned (.plain (OpenSpec.ofChange sealNoncesSpec)) sealNoncesCard

/-- THE SECOND FORM's CARD OF 'tolllaw09.SealMatchesReference'. -/
def sealMatchesReferenceUptoCard : Claim7 := { stood := { row := sealMatchesReferenceUptoRow, standIns := [], harness := (true, "6e0fe51508eeb2fc81211be13dae0ef35264acd8df317c13367d69c7ab68c0b2"), looks := false }, kinds := [], alts := [], laidByText := true, laidKinds := [.data], laidTests := true, laidLooks := .later }
def SealMatchesReferenceUptoCardSaid : Prop := Claim7.holds Tryd.pinned (.plain (OpenSpec.upto sealMatchesReferenceSpec)) sealMatchesReferenceUptoCard

/-- THE SECOND FORM's CARD OF 'tolllaw09.SealOpens'. -/
def sealOpensUptoCard : Claim7 := { stood := { row := sealOpensUptoRow, standIns := [], harness := (true, "6e0fe51508eeb2fc81211be13dae0ef35264acd8df317c13367d69c7ab68c0b2"), looks := false }, kinds := [], alts := [], laidByText := true, laidKinds := [.data], laidTests := true, laidLooks := .later }
def SealOpensUptoCardSaid : Prop := Claim7.holds Tryd.pinned (.plain (OpenSpec.upto sealOpensSpec)) sealOpensUptoCard

/-- THE SECOND FORM's CARD OF 'tolllaw09.SealChanges'. -/
def sealChangesUptoCard : Claim7 := { stood := { row := sealChangesUptoRow, standIns := [], harness := (true, "6e0fe51508eeb2fc81211be13dae0ef35264acd8df317c13367d69c7ab68c0b2"), looks := false }, kinds := [], alts := [], laidByText := true, laidKinds := [.data], laidTests := true, laidLooks := .later }
def SealChangesUptoCardSaid : Prop := Claim7.holds Tryd.pinned (.plain (OpenSpec.upto sealChangesSpec)) sealChangesUptoCard

/-- THE SECOND FORM's CARD OF 'tolllaw09.SealKeys'. -/
def sealKeysUptoCard : Claim7 := { stood := { row := sealKeysUptoRow, standIns := [], harness := (true, "6e0fe51508eeb2fc81211be13dae0ef35264acd8df317c13367d69c7ab68c0b2"), looks := false }, kinds := [], alts := [], laidByText := true, laidKinds := [.data], laidTests := true, laidLooks := .later }
def SealKeysUptoCardSaid : Prop := Claim7.holds Tryd.pinned (.plain (OpenSpec.upto sealKeysSpec)) sealKeysUptoCard

/-- THE SECOND FORM's CARD OF 'tolllaw09.SealNonces'. -/
def sealNoncesUptoCard : Claim7 := { stood := { row := sealNoncesUptoRow, standIns := [], harness := (true, "6e0fe51508eeb2fc81211be13dae0ef35264acd8df317c13367d69c7ab68c0b2"), looks := false }, kinds := [], alts := [], laidByText := true, laidKinds := [.data], laidTests := true, laidLooks := .later }
def SealNoncesUptoCardSaid : Prop := Claim7.holds Tryd.pinned (.plain (OpenSpec.upto sealNoncesSpec)) sealNoncesUptoCard
end Rows
end Go.Proofs.YtpbcpdocnjnfiaaDoor
