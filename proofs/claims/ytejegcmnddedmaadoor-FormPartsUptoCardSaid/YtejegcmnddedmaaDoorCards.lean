/-
  DERIVED. GIVEN WITH THE SEED: THE CARDS: each row of YtejegcmnddedmaaDoorRows.lean that lists a variable, with what it lists TIED to the program's text (the seventh form; the later family's looks); each row that meets fmt, with fmt's text TOLD by the authors' own Lean function (tested against real Go, not proved from fmt's source: count such statements apart). THE CARD IS WHAT COUNTS. Prove the row's statement (the work); the ties are given (YtejegcmnddedmaaDoorTie.lean); close each card by the builder's one call (the guide's Derived/Test/ToyasCard.lean, 'card_holds'). Laid BY PROGRAM, IN A SANDBOX (cutbox-door.mjs). By AI agents, Wed Nov 11 2026. No macro, syntax, notation, axiom, sorry.
-/
import Derived.Test.YtejegcmnddedmaaDoorRows
import GoSem.ClaimSeven
namespace Go.Proofs.YtejegcmnddedmaaDoor
namespace Rows

/-- THE TIED CARD OF 'lyceumlaw02.FormOrder'. -/
def formOrderCard : Claim7 := { stood := { row := formOrderRow, standIns := [], harness := (true, "a21d596a057142331e9222cda5903ab5932bdefd0dc4cf2b12a1771f52b713b4"), looks := false }, kinds := [], alts := [], laidByText := true, laidKinds := [.data], laidTests := true, laidLooks := .later }
def FormOrderCardSaid : Prop := Claim7.holds Tryd.pinned (.plain (OpenSpec.ofChange formOrderSpec)) formOrderCard

/-- THE TIED CARD OF 'lyceumlaw02.FormReplaces'. -/
def formReplacesCard : Claim7 := { stood := { row := formReplacesRow, standIns := [], harness := (true, "a21d596a057142331e9222cda5903ab5932bdefd0dc4cf2b12a1771f52b713b4"), looks := false }, kinds := [], alts := [], laidByText := true, laidKinds := [.data], laidTests := true, laidLooks := .later }
def FormReplacesCardSaid : Prop := Claim7.holds Tryd.pinned (.plain (OpenSpec.ofChange formReplacesSpec)) formReplacesCard

/-- THE TIED CARD OF 'lyceumlaw02.FormParts'. -/
def formPartsCard : Claim7 := { stood := { row := formPartsRow, standIns := [], harness := (true, "a21d596a057142331e9222cda5903ab5932bdefd0dc4cf2b12a1771f52b713b4"), looks := false }, kinds := [], alts := [], laidByText := true, laidKinds := [.data], laidTests := true, laidLooks := .later }
def FormPartsCardSaid : Prop := Claim7.holds Tryd.pinned (.plain (OpenSpec.ofChange formPartsSpec)) formPartsCard

/-- THE SECOND FORM's CARD OF 'lyceumlaw02.FormOrder'. -/
def formOrderUptoCard : Claim7 := { stood := { row := formOrderUptoRow, standIns := [], harness := (true, "a21d596a057142331e9222cda5903ab5932bdefd0dc4cf2b12a1771f52b713b4"), looks := false }, kinds := [], alts := [], laidByText := true, laidKinds := [.data], laidTests := true, laidLooks := .later }
def FormOrderUptoCardSaid : Prop := Claim7.holds Tryd.pinned (.plain (OpenSpec.upto formOrderSpec)) formOrderUptoCard

/-- THE SECOND FORM's CARD OF 'lyceumlaw02.FormReplaces'. -/
def formReplacesUptoCard : Claim7 := { stood := { row := formReplacesUptoRow, standIns := [], harness := (true, "a21d596a057142331e9222cda5903ab5932bdefd0dc4cf2b12a1771f52b713b4"), looks := false }, kinds := [], alts := [], laidByText := true, laidKinds := [.data], laidTests := true, laidLooks := .later }
def FormReplacesUptoCardSaid : Prop := Claim7.holds Tryd.pinned (.plain (OpenSpec.upto formReplacesSpec)) formReplacesUptoCard

/-- THE SECOND FORM's CARD OF 'lyceumlaw02.FormParts'. -/
def formPartsUptoCard : Claim7 := { stood := { row := formPartsUptoRow, standIns := [], harness := (true, "a21d596a057142331e9222cda5903ab5932bdefd0dc4cf2b12a1771f52b713b4"), looks := false }, kinds := [], alts := [], laidByText := true, laidKinds := [.data], laidTests := true, laidLooks := .later }
def FormPartsUptoCardSaid : Prop := Claim7.holds Tryd.pinned (.plain (OpenSpec.upto formPartsSpec)) formPartsUptoCard
end Rows
end Go.Proofs.YtejegcmnddedmaaDoor
