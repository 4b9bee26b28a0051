/-
  DERIVED. GIVEN WITH THE SEED: THE CARDS: each row of YtejegcmnddedmaaGreatDoorRows.lean that lists a variable, with what it lists TIED to the program's text (the seventh form; the later family's looks); each row that meets fmt, with fmt's text TOLD by the authors' own Lean function (tested against real Go, not proved from fmt's source: count such statements apart). THE CARD IS WHAT COUNTS. Prove the row's statement (the work); the ties are given (YtejegcmnddedmaaGreatDoorTie.lean); close each card by the builder's one call (the guide's Derived/Test/ToyasCard.lean, 'card_holds'). Laid BY PROGRAM, IN A SANDBOX (cutbox-door.mjs). By AI agents, Wed Nov 11 2026. No macro, syntax, notation, axiom, sorry.
-/
import Derived.Test.YtejegcmnddedmaaGreatDoorRows
import GoSem.ClaimSeven
namespace Go.Proofs.YtejegcmnddedmaaGreatDoor
namespace Rows

/-- THE TIED CARD OF 'lyceumlaw02.FormCompares'. -/
def formComparesCard : Claim7 := { stood := { row := formComparesRow, standIns := [], harness := (true, "9dd9d1b14c03f26929c627de83a0f21d6f56830cde16cff7cd7f87444910c75f"), looks := false }, kinds := [], alts := [], laidByText := true, laidKinds := [.data], laidTests := true, laidLooks := .later }
def FormComparesCardSaid : Prop := Claim7.holds Tryz.pinned (.plain (OpenSpec.ofChange formComparesSpec)) formComparesCard

/-- THE TIED CARD OF 'lyceumlaw02.FormPlaces'. -/
def formPlacesCard : Claim7 := { stood := { row := formPlacesRow, standIns := [], harness := (true, "9dd9d1b14c03f26929c627de83a0f21d6f56830cde16cff7cd7f87444910c75f"), looks := false }, kinds := [], alts := [], laidByText := true, laidKinds := [.data], laidTests := true, laidLooks := .later }
def FormPlacesCardSaid : Prop := Claim7.holds Tryz.pinned (.plain (OpenSpec.ofChange formPlacesSpec)) formPlacesCard

/-- THE TIED CARD OF 'lyceumlaw02.FormWrong'. -/
def formWrongCard : Claim7 := { stood := { row := formWrongRow, standIns := [], harness := (true, "9dd9d1b14c03f26929c627de83a0f21d6f56830cde16cff7cd7f87444910c75f"), looks := false }, kinds := [], alts := [], laidByText := true, laidKinds := [.data], laidTests := true, laidLooks := .later }
def FormWrongCardSaid : Prop := Claim7.holds Tryz.pinned (.plain (OpenSpec.ofChange formWrongSpec)) formWrongCard

/-- THE SECOND FORM's CARD OF 'lyceumlaw02.FormCompares'. -/
def formComparesUptoCard : Claim7 := { stood := { row := formComparesUptoRow, standIns := [], harness := (true, "9dd9d1b14c03f26929c627de83a0f21d6f56830cde16cff7cd7f87444910c75f"), looks := false }, kinds := [], alts := [], laidByText := true, laidKinds := [.data], laidTests := true, laidLooks := .later }
def FormComparesUptoCardSaid : Prop := Claim7.holds Tryz.pinned (.plain (OpenSpec.upto formComparesSpec)) formComparesUptoCard

/-- THE SECOND FORM's CARD OF 'lyceumlaw02.FormPlaces'. -/
def formPlacesUptoCard : Claim7 := { stood := { row := formPlacesUptoRow, standIns := [], harness := (true, "9dd9d1b14c03f26929c627de83a0f21d6f56830cde16cff7cd7f87444910c75f"), looks := false }, kinds := [], alts := [], laidByText := true, laidKinds := [.data], laidTests := true, laidLooks := .later }
def FormPlacesUptoCardSaid : Prop := Claim7.holds Tryz.pinned (.plain (OpenSpec.upto formPlacesSpec)) formPlacesUptoCard

/-- THE SECOND FORM's CARD OF 'lyceumlaw02.FormWrong'. -/
def formWrongUptoCard : Claim7 := { stood := { row := formWrongUptoRow, standIns := [], harness := (true, "9dd9d1b14c03f26929c627de83a0f21d6f56830cde16cff7cd7f87444910c75f"), looks := false }, kinds := [], alts := [], laidByText := true, laidKinds := [.data], laidTests := true, laidLooks := .later }
def FormWrongUptoCardSaid : Prop := Claim7.holds Tryz.pinned (.plain (OpenSpec.upto formWrongSpec)) formWrongUptoCard
end Rows
end Go.Proofs.YtejegcmnddedmaaGreatDoor
