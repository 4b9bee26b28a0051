/-
  DERIVED. GIVEN WITH THE SEED: THE CARDS: each row of YtjflngchbeegcaaGreatDoorRows.lean that lists a variable, with what it lists TIED to the program's text (the seventh form; the later family's looks); each row that meets fmt, with fmt's text TOLD by the authors' own Lean function (tested against real Go, not proved from fmt's source: count such statements apart). THE CARD IS WHAT COUNTS. Prove the row's statement (the work); the ties are given (YtjflngchbeegcaaGreatDoorTie.lean); close each card by the builder's one call (the guide's Derived/Test/ToyasCard.lean, 'card_holds'). Laid BY PROGRAM, IN A SANDBOX (cutbox-door.mjs). By AI agents, Wed Nov 11 2026. No macro, syntax, notation, axiom, sorry.
-/
import Derived.Test.YtjflngchbeegcaaGreatDoorRows
import GoSem.ClaimSeven
namespace Go.Proofs.YtjflngchbeegcaaGreatDoor
namespace Rows

/-- THE TIED CARD OF 'lyceumlaw13.TraceCompares'. -/
def traceComparesCard : Claim7 := { stood := { row := traceComparesRow, standIns := [], harness := (true, "d47cf70d7d7df1faded069dc3ec7ff427ae391a75cc225bbfc46227e2e82996f"), looks := false }, kinds := [], alts := [], laidByText := true, laidKinds := [.data], laidTests := true, laidLooks := .later }
def TraceComparesCardSaid : Prop := Claim7.holds Tryz.pinned (.plain (OpenSpec.ofChange traceComparesSpec)) traceComparesCard

/-- THE TIED CARD OF 'lyceumlaw13.TraceSmall'. -/
def traceSmallCard : Claim7 := { stood := { row := traceSmallRow, standIns := [], harness := (true, "d47cf70d7d7df1faded069dc3ec7ff427ae391a75cc225bbfc46227e2e82996f"), looks := false }, kinds := [], alts := [], laidByText := true, laidKinds := [.data], laidTests := true, laidLooks := .later }
def TraceSmallCardSaid : Prop := Claim7.holds Tryz.pinned (.plain (OpenSpec.ofChange traceSmallSpec)) traceSmallCard

/-- THE TIED CARD OF 'lyceumlaw13.TraceProps'. -/
def tracePropsCard : Claim7 := { stood := { row := tracePropsRow, standIns := [], harness := (true, "d47cf70d7d7df1faded069dc3ec7ff427ae391a75cc225bbfc46227e2e82996f"), looks := false }, kinds := [], alts := [], laidByText := true, laidKinds := [.data, .data], laidTests := true, laidLooks := .later }
def TracePropsCardSaid : Prop := Claim7.holds Tryz.pinned (.plain (OpenSpec.ofChange tracePropsSpec)) tracePropsCard

/-- THE SECOND FORM's CARD OF 'lyceumlaw13.TraceCompares'. -/
def traceComparesUptoCard : Claim7 := { stood := { row := traceComparesUptoRow, standIns := [], harness := (true, "d47cf70d7d7df1faded069dc3ec7ff427ae391a75cc225bbfc46227e2e82996f"), looks := false }, kinds := [], alts := [], laidByText := true, laidKinds := [.data], laidTests := true, laidLooks := .later }
def TraceComparesUptoCardSaid : Prop := Claim7.holds Tryz.pinned (.plain (OpenSpec.upto traceComparesSpec)) traceComparesUptoCard

/-- THE SECOND FORM's CARD OF 'lyceumlaw13.TraceSmall'. -/
def traceSmallUptoCard : Claim7 := { stood := { row := traceSmallUptoRow, standIns := [], harness := (true, "d47cf70d7d7df1faded069dc3ec7ff427ae391a75cc225bbfc46227e2e82996f"), looks := false }, kinds := [], alts := [], laidByText := true, laidKinds := [.data], laidTests := true, laidLooks := .later }
def TraceSmallUptoCardSaid : Prop := Claim7.holds Tryz.pinned (.plain (OpenSpec.upto traceSmallSpec)) traceSmallUptoCard

/-- THE SECOND FORM's CARD OF 'lyceumlaw13.TraceProps'. -/
def tracePropsUptoCard : Claim7 := { stood := { row := tracePropsUptoRow, standIns := [], harness := (true, "d47cf70d7d7df1faded069dc3ec7ff427ae391a75cc225bbfc46227e2e82996f"), looks := false }, kinds := [], alts := [], laidByText := true, laidKinds := [.data, .data], laidTests := true, laidLooks := .later }
def TracePropsUptoCardSaid : Prop := Claim7.holds Tryz.pinned (.plain (OpenSpec.upto tracePropsSpec)) tracePropsUptoCard
end Rows
end Go.Proofs.YtjflngchbeegcaaGreatDoor
