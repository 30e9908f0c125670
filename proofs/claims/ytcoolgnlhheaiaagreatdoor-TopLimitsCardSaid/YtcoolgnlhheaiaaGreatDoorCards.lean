/-
  DERIVED. GIVEN WITH THE SEED: THE CARDS: each row of YtcoolgnlhheaiaaGreatDoorRows.lean that lists a variable, with what it lists TIED to the program's text (the seventh form; the later family's looks); each row that meets fmt, with fmt's text TOLD by the authors' own Lean function (tested against real Go, not proved from fmt's source: count such statements apart). THE CARD IS WHAT COUNTS. Prove the row's statement (the work); the ties are given (YtcoolgnlhheaiaaGreatDoorTie.lean); close each card by the builder's one call (the guide's Derived/Test/ToyasCard.lean, 'card_holds'). Laid BY PROGRAM, IN A SANDBOX (cutbox-door.mjs). By AI agents, Wed Nov 11 2026. No macro, syntax, notation, axiom, sorry.
-/
import Derived.Test.YtcoolgnlhheaiaaGreatDoorRows
import GoSem.ClaimSeven
namespace Go.Proofs.YtcoolgnlhheaiaaGreatDoor
namespace Rows

/-- THE TIED CARD OF 'tolltop.TopOnce'. -/
def topOnceCard : Claim7 := { stood := { row := topOnceRow, standIns := [], harness := (true, "a3a85400dbe5c2d0eac753731b681ed2f0740a28baf41206a947059447415218"), looks := true }, kinds := [], alts := [], laidByText := true, laidKinds := [.data], laidTests := true, laidLooks := .later }
def TopOnceCardSaid : Prop := Claim7.holds Tryz.pinned (.plain (OpenSpec.ofChange topOnceSpec)) topOnceCard

/-- THE TIED CARD OF 'tolltop.TopInflight'. -/
def topInflightCard : Claim7 := { stood := { row := topInflightRow, standIns := [], harness := (true, "a3a85400dbe5c2d0eac753731b681ed2f0740a28baf41206a947059447415218"), looks := true }, kinds := [], alts := [], laidByText := true, laidKinds := [.data], laidTests := true, laidLooks := .later }
def TopInflightCardSaid : Prop := Claim7.holds Tryz.pinned (.plain (OpenSpec.ofChange topInflightSpec)) topInflightCard

/-- THE TIED CARD OF 'tolltop.TopAccepts'. -/
def topAcceptsCard : Claim7 := { stood := { row := topAcceptsRow, standIns := [], harness := (true, "a3a85400dbe5c2d0eac753731b681ed2f0740a28baf41206a947059447415218"), looks := true }, kinds := [], alts := [], laidByText := true, laidKinds := [.data], laidTests := true, laidLooks := .later }
def TopAcceptsCardSaid : Prop := Claim7.holds Tryz.pinned (.plain (OpenSpec.ofChange topAcceptsSpec)) topAcceptsCard

/-- THE TIED CARD OF 'tolltop.TopRows'. -/
def topRowsCard : Claim7 := { stood := { row := topRowsRow, standIns := [], harness := (true, "a3a85400dbe5c2d0eac753731b681ed2f0740a28baf41206a947059447415218"), looks := true }, kinds := [], alts := [], laidByText := true, laidKinds := [.data], laidTests := true, laidLooks := .later }
def TopRowsCardSaid : Prop := Claim7.holds Tryz.pinned (.plain (OpenSpec.ofChange topRowsSpec)) topRowsCard

/-- THE TIED CARD OF 'tolltop.TopLimits'. -/
def topLimitsCard : Claim7 := { stood := { row := topLimitsRow, standIns := [], harness := (true, "a3a85400dbe5c2d0eac753731b681ed2f0740a28baf41206a947059447415218"), looks := true }, kinds := [], alts := [], laidByText := true, laidKinds := [.data], laidTests := true, laidLooks := .later }
def TopLimitsCardSaid : Prop := Claim7.holds Tryz.pinned (.plain (OpenSpec.ofChange topLimitsSpec)) topLimitsCard

/-- THE SECOND FORM's CARD OF 'tolltop.TopOnce'. -/
def topOnceUptoCard : Claim7 := { stood := { row := topOnceUptoRow, standIns := [], harness := (true, "a3a85400dbe5c2d0eac753731b681ed2f0740a28baf41206a947059447415218"), looks := true }, kinds := [], alts := [], laidByText := true, laidKinds := [.data], laidTests := true, laidLooks := .later }
def TopOnceUptoCardSaid : Prop := Claim7.holds Tryz.pinned (.plain (OpenSpec.upto topOnceSpec)) topOnceUptoCard

/-- THE SECOND FORM's CARD OF 'tolltop.TopInflight'. -/
def topInflightUptoCard : Claim7 := { stood := { row := topInflightUptoRow, standIns := [], harness := (true, "a3a85400dbe5c2d0eac753731b681ed2f0740a28baf41206a947059447415218"), looks := true }, kinds := [], alts := [], laidByText := true, laidKinds := [.data], laidTests := true, laidLooks := .later }
def TopInflightUptoCardSaid : Prop := Claim7.holds Tryz.pinned (.plain (OpenSpec.upto topInflightSpec)) topInflightUptoCard

/-- THE SECOND FORM's CARD OF 'tolltop.TopAccepts'. -/
def topAcceptsUptoCard : Claim7 := { stood := { row := topAcceptsUptoRow, standIns := [], harness := (true, "a3a85400dbe5c2d0eac753731b681ed2f0740a28baf41206a947059447415218"), looks := true }, kinds := [], alts := [], laidByText := true, laidKinds := [.data], laidTests := true, laidLooks := .later }
def TopAcceptsUptoCardSaid : Prop := Claim7.holds Tryz.pinned (.plain (OpenSpec.upto topAcceptsSpec)) topAcceptsUptoCard

/-- THE SECOND FORM's CARD OF 'tolltop.TopRows'. -/
def topRowsUptoCard : Claim7 := { stood := { row := topRowsUptoRow, standIns := [], harness := (true, "a3a85400dbe5c2d0eac753731b681ed2f0740a28baf41206a947059447415218"), looks := true }, kinds := [], alts := [], laidByText := true, laidKinds := [.data], laidTests := true, laidLooks := .later }
def TopRowsUptoCardSaid : Prop := Claim7.holds Tryz.pinned (.plain (OpenSpec.upto topRowsSpec)) topRowsUptoCard

/-- THE SECOND FORM's CARD OF 'tolltop.TopLimits'. -/
def topLimitsUptoCard : Claim7 := { stood := { row := topLimitsUptoRow, standIns := [], harness := (true, "a3a85400dbe5c2d0eac753731b681ed2f0740a28baf41206a947059447415218"), looks := true }, kinds := [], alts := [], laidByText := true, laidKinds := [.data], laidTests := true, laidLooks := .later }
def TopLimitsUptoCardSaid : Prop := Claim7.holds Tryz.pinned (.plain (OpenSpec.upto topLimitsSpec)) topLimitsUptoCard
end Rows
end Go.Proofs.YtcoolgnlhheaiaaGreatDoor
