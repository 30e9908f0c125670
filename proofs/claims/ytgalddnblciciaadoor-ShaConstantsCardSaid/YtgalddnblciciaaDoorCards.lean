/-
  DERIVED. GIVEN WITH THE SEED: THE CARDS: each row of YtgalddnblciciaaDoorRows.lean that lists a variable, with what it lists TIED to the program's text (the seventh form; the later family's looks); each row that meets fmt, with fmt's text TOLD by the authors' own Lean function (tested against real Go, not proved from fmt's source: count such statements apart). THE CARD IS WHAT COUNTS. Prove the row's statement (the work); the ties are given (YtgalddnblciciaaDoorTie.lean); close each card by the builder's one call (the guide's Derived/Test/ToyasCard.lean, 'card_holds'). Laid BY PROGRAM, IN A SANDBOX (cutbox-door.mjs). By AI agents, Wed Nov 11 2026. No macro, syntax, notation, axiom, sorry.
-/
import Derived.Test.YtgalddnblciciaaDoorRows
import GoSem.ClaimSeven
namespace Go.Proofs.YtgalddnblciciaaDoor
namespace Rows

/-- THE TIED CARD OF 'tolllaw04.ShaMatchesReference'. -/
def shaMatchesReferenceCard : Claim7 := { stood := { row := shaMatchesReferenceRow, standIns := [], harness := (true, "496305925ff8282cc91de605f3569df87214ff65f23c2d81b66c5965e3d64699"), looks := false }, kinds := [], alts := [], laidByText := true, laidKinds := [.data], laidTests := true, laidLooks := .later }
def ShaMatchesReferenceCardSaid : Prop := Claim7.holds Tryd.pinned (.plain (OpenSpec.ofChange shaMatchesReferenceSpec)) shaMatchesReferenceCard

/-- THE TIED CARD OF 'tolllaw04.ShaBlocks'. -/
def shaBlocksCard : Claim7 := { stood := { row := shaBlocksRow, standIns := [], harness := (true, "496305925ff8282cc91de605f3569df87214ff65f23c2d81b66c5965e3d64699"), looks := false }, kinds := [], alts := [], laidByText := true, laidKinds := [.data], laidTests := true, laidLooks := .later }
def ShaBlocksCardSaid : Prop := Claim7.holds Tryd.pinned (.plain (OpenSpec.ofChange shaBlocksSpec)) shaBlocksCard

/-- THE TIED CARD OF 'tolllaw04.ShaConstants'. -/
def shaConstantsCard : Claim7 := { stood := { row := shaConstantsRow, standIns := [], harness := (true, "496305925ff8282cc91de605f3569df87214ff65f23c2d81b66c5965e3d64699"), looks := false }, kinds := [], alts := [], laidByText := true, laidKinds := [.data], laidTests := true, laidLooks := .later }
def ShaConstantsCardSaid : Prop := Claim7.holds Tryd.pinned (.plain (OpenSpec.ofChange shaConstantsSpec)) shaConstantsCard

/-- THE TIED CARD OF 'tolllaw04.ShaPaddings'. -/
def shaPaddingsCard : Claim7 := { stood := { row := shaPaddingsRow, standIns := [], harness := (true, "496305925ff8282cc91de605f3569df87214ff65f23c2d81b66c5965e3d64699"), looks := false }, kinds := [], alts := [], laidByText := true, laidKinds := [.data], laidTests := true, laidLooks := .later }
def ShaPaddingsCardSaid : Prop := Claim7.holds Tryd.pinned (.plain (OpenSpec.ofChange shaPaddingsSpec)) shaPaddingsCard

/-- THE TIED CARD OF 'tolllaw04.ShaLimits'. -/
def shaLimitsCard : Claim7 := { stood := { row := shaLimitsRow, standIns := [], harness := (true, "496305925ff8282cc91de605f3569df87214ff65f23c2d81b66c5965e3d64699"), looks := false }, kinds := [], alts := [], laidByText := true, laidKinds := [.data], laidTests := true, laidLooks := .later }
def ShaLimitsCardSaid : Prop := Claim7.holds Tryd.pinned (.plain (OpenSpec.ofChange shaLimitsSpec)) shaLimitsCard

/-- THE TIED CARD OF 'tolllaw05.MacMatchesReference'. -/
def macMatchesReferenceCard : Claim7 := { stood := { row := macMatchesReferenceRow, standIns := [], harness := (true, "496305925ff8282cc91de605f3569df87214ff65f23c2d81b66c5965e3d64699"), looks := false }, kinds := [], alts := [], laidByText := true, laidKinds := [.data], laidTests := true, laidLooks := .later }
def MacMatchesReferenceCardSaid : Prop := Claim7.holds Tryd.pinned (.plain (OpenSpec.ofChange macMatchesReferenceSpec)) macMatchesReferenceCard

/-- THE TIED CARD OF 'tolllaw05.MacChecks'. -/
def macChecksCard : Claim7 := { stood := { row := macChecksRow, standIns := [], harness := (true, "496305925ff8282cc91de605f3569df87214ff65f23c2d81b66c5965e3d64699"), looks := false }, kinds := [], alts := [], laidByText := true, laidKinds := [.data], laidTests := true, laidLooks := .later }
def MacChecksCardSaid : Prop := Claim7.holds Tryd.pinned (.plain (OpenSpec.ofChange macChecksSpec)) macChecksCard

/-- THE TIED CARD OF 'tolllaw05.MacEqual'. -/
def macEqualCard : Claim7 := { stood := { row := macEqualRow, standIns := [], harness := (true, "496305925ff8282cc91de605f3569df87214ff65f23c2d81b66c5965e3d64699"), looks := false }, kinds := [], alts := [], laidByText := true, laidKinds := [.data], laidTests := true, laidLooks := .later }
def MacEqualCardSaid : Prop := Claim7.holds Tryd.pinned (.plain (OpenSpec.ofChange macEqualSpec)) macEqualCard

/-- THE TIED CARD OF 'tolllaw05.MacKeys'. -/
def macKeysCard : Claim7 := { stood := { row := macKeysRow, standIns := [], harness := (true, "496305925ff8282cc91de605f3569df87214ff65f23c2d81b66c5965e3d64699"), looks := false }, kinds := [], alts := [], laidByText := true, laidKinds := [.data], laidTests := true, laidLooks := .later }
def MacKeysCardSaid : Prop := Claim7.holds Tryd.pinned (.plain (OpenSpec.ofChange macKeysSpec)) macKeysCard

/-- THE TIED CARD OF 'tolllaw05.MacDerives'. -/
def macDerivesCard : Claim7 := { stood := { row := macDerivesRow, standIns := [], harness := (true, "496305925ff8282cc91de605f3569df87214ff65f23c2d81b66c5965e3d64699"), looks := false }, kinds := [], alts := [], laidByText := true, laidKinds := [.data], laidTests := true, laidLooks := .later }
def MacDerivesCardSaid : Prop := Claim7.holds Tryd.pinned (.plain (OpenSpec.ofChange macDerivesSpec)) macDerivesCard

/-- THE SECOND FORM's CARD OF 'tolllaw04.ShaMatchesReference'. -/
def shaMatchesReferenceUptoCard : Claim7 := { stood := { row := shaMatchesReferenceUptoRow, standIns := [], harness := (true, "496305925ff8282cc91de605f3569df87214ff65f23c2d81b66c5965e3d64699"), looks := false }, kinds := [], alts := [], laidByText := true, laidKinds := [.data], laidTests := true, laidLooks := .later }
def ShaMatchesReferenceUptoCardSaid : Prop := Claim7.holds Tryd.pinned (.plain (OpenSpec.upto shaMatchesReferenceSpec)) shaMatchesReferenceUptoCard

/-- THE SECOND FORM's CARD OF 'tolllaw04.ShaBlocks'. -/
def shaBlocksUptoCard : Claim7 := { stood := { row := shaBlocksUptoRow, standIns := [], harness := (true, "496305925ff8282cc91de605f3569df87214ff65f23c2d81b66c5965e3d64699"), looks := false }, kinds := [], alts := [], laidByText := true, laidKinds := [.data], laidTests := true, laidLooks := .later }
def ShaBlocksUptoCardSaid : Prop := Claim7.holds Tryd.pinned (.plain (OpenSpec.upto shaBlocksSpec)) shaBlocksUptoCard

/-- THE SECOND FORM's CARD OF 'tolllaw04.ShaConstants'. -/
def shaConstantsUptoCard : Claim7 := { stood := { row := shaConstantsUptoRow, standIns := [], harness := (true, "496305925ff8282cc91de605f3569df87214ff65f23c2d81b66c5965e3d64699"), looks := false }, kinds := [], alts := [], laidByText := true, laidKinds := [.data], laidTests := true, laidLooks := .later }
def ShaConstantsUptoCardSaid : Prop := Claim7.holds Tryd.pinned (.plain (OpenSpec.upto shaConstantsSpec)) shaConstantsUptoCard

/-- THE SECOND FORM's CARD OF 'tolllaw04.ShaPaddings'. -/
def shaPaddingsUptoCard : Claim7 := { stood := { row := shaPaddingsUptoRow, standIns := [], harness := (true, "496305925ff8282cc91de605f3569df87214ff65f23c2d81b66c5965e3d64699"), looks := false }, kinds := [], alts := [], laidByText := true, laidKinds := [.data], laidTests := true, laidLooks := .later }
def ShaPaddingsUptoCardSaid : Prop := Claim7.holds Tryd.pinned (.plain (OpenSpec.upto shaPaddingsSpec)) shaPaddingsUptoCard

/-- THE SECOND FORM's CARD OF 'tolllaw04.ShaLimits'. -/
def shaLimitsUptoCard : Claim7 := { stood := { row := shaLimitsUptoRow, standIns := [], harness := (true, "496305925ff8282cc91de605f3569df87214ff65f23c2d81b66c5965e3d64699"), looks := false }, kinds := [], alts := [], laidByText := true, laidKinds := [.data], laidTests := true, laidLooks := .later }
def ShaLimitsUptoCardSaid : Prop := Claim7.holds Tryd.pinned (.plain (OpenSpec.upto shaLimitsSpec)) shaLimitsUptoCard

/-- THE SECOND FORM's CARD OF 'tolllaw05.MacMatchesReference'. -/
def macMatchesReferenceUptoCard : Claim7 := { stood := { row := macMatchesReferenceUptoRow, standIns := [], harness := (true, "496305925ff8282cc91de605f3569df87214ff65f23c2d81b66c5965e3d64699"), looks := false }, kinds := [], alts := [], laidByText := true, laidKinds := [.data], laidTests := true, laidLooks := .later }
def MacMatchesReferenceUptoCardSaid : Prop := Claim7.holds Tryd.pinned (.plain (OpenSpec.upto macMatchesReferenceSpec)) macMatchesReferenceUptoCard

/-- THE SECOND FORM's CARD OF 'tolllaw05.MacChecks'. -/
def macChecksUptoCard : Claim7 := { stood := { row := macChecksUptoRow, standIns := [], harness := (true, "496305925ff8282cc91de605f3569df87214ff65f23c2d81b66c5965e3d64699"), looks := false }, kinds := [], alts := [], laidByText := true, laidKinds := [.data], laidTests := true, laidLooks := .later }
def MacChecksUptoCardSaid : Prop := Claim7.holds Tryd.pinned (.plain (OpenSpec.upto macChecksSpec)) macChecksUptoCard

/-- THE SECOND FORM's CARD OF 'tolllaw05.MacEqual'. -/
def macEqualUptoCard : Claim7 := { stood := { row := macEqualUptoRow, standIns := [], harness := (true, "496305925ff8282cc91de605f3569df87214ff65f23c2d81b66c5965e3d64699"), looks := false }, kinds := [], alts := [], laidByText := true, laidKinds := [.data], laidTests := true, laidLooks := .later }
def MacEqualUptoCardSaid : Prop := Claim7.holds Tryd.pinned (.plain (OpenSpec.upto macEqualSpec)) macEqualUptoCard

/-- THE SECOND FORM's CARD OF 'tolllaw05.MacKeys'. -/
def macKeysUptoCard : Claim7 := { stood := { row := macKeysUptoRow, standIns := [], harness := (true, "496305925ff8282cc91de605f3569df87214ff65f23c2d81b66c5965e3d64699"), looks := false }, kinds := [], alts := [], laidByText := true, laidKinds := [.data], laidTests := true, laidLooks := .later }
def MacKeysUptoCardSaid : Prop := Claim7.holds Tryd.pinned (.plain (OpenSpec.upto macKeysSpec)) macKeysUptoCard

/-- THE SECOND FORM's CARD OF 'tolllaw05.MacDerives'. -/
def macDerivesUptoCard : Claim7 := { stood := { row := macDerivesUptoRow, standIns := [], harness := (true, "496305925ff8282cc91de605f3569df87214ff65f23c2d81b66c5965e3d64699"), looks := false }, kinds := [], alts := [], laidByText := true, laidKinds := [.data], laidTests := true, laidLooks := .later }
def MacDerivesUptoCardSaid : Prop := Claim7.holds Tryd.pinned (.plain (OpenSpec.upto macDerivesSpec)) macDerivesUptoCard
end Rows
end Go.Proofs.YtgalddnblciciaaDoor
