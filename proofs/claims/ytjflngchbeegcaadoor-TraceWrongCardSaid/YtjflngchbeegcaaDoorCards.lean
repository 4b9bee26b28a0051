/-
  DERIVED. GIVEN WITH THE SEED: THE CARDS: each row of YtjflngchbeegcaaDoorRows.lean that lists a variable, with what it lists TIED to the program's text (the seventh form; the later family's looks); each row that meets fmt, with fmt's text TOLD by the authors' own Lean function (tested against real Go, not proved from fmt's source: count such statements apart). THE CARD IS WHAT COUNTS. Prove the row's statement (the work); the ties are given (YtjflngchbeegcaaDoorTie.lean); close each card by the builder's one call (the guide's Derived/Test/ToyasCard.lean, 'card_holds'). Laid BY PROGRAM, IN A SANDBOX (cutbox-door.mjs). By AI agents, Wed Nov 11 2026. No macro, syntax, notation, axiom, sorry.
-/
import Derived.Test.YtjflngchbeegcaaDoorRows
import GoSem.ClaimSeven
namespace Go.Proofs.YtjflngchbeegcaaDoor
namespace Rows

/-- THE TIED CARD OF 'lyceumlaw13.TraceShort'. -/
def traceShortCard : Claim7 := { stood := { row := traceShortRow, standIns := [], harness := (true, "8c893e796ee2002d6eaa8a7f1ed6fe1f57a67936e9bf89397b742a618015e4b4"), looks := false }, kinds := [], alts := [], laidByText := true, laidKinds := [.data], laidTests := true, laidLooks := .later }
def TraceShortCardSaid : Prop := Claim7.holds Tryd.pinned (.plain (OpenSpec.ofChange traceShortSpec)) traceShortCard

/-- THE TIED CARD OF 'lyceumlaw13.TraceLeast'. -/
def traceLeastCard : Claim7 := { stood := { row := traceLeastRow, standIns := [], harness := (true, "8c893e796ee2002d6eaa8a7f1ed6fe1f57a67936e9bf89397b742a618015e4b4"), looks := false }, kinds := [], alts := [], laidByText := true, laidKinds := [.data], laidTests := true, laidLooks := .later }
def TraceLeastCardSaid : Prop := Claim7.holds Tryd.pinned (.plain (OpenSpec.ofChange traceLeastSpec)) traceLeastCard

/-- THE TIED CARD OF 'lyceumlaw13.TraceLaws'. -/
def traceLawsCard : Claim7 := { stood := { row := traceLawsRow, standIns := [], harness := (true, "8c893e796ee2002d6eaa8a7f1ed6fe1f57a67936e9bf89397b742a618015e4b4"), looks := false }, kinds := [], alts := [], laidByText := true, laidKinds := [.data], laidTests := true, laidLooks := .later }
def TraceLawsCardSaid : Prop := Claim7.holds Tryd.pinned (.plain (OpenSpec.ofChange traceLawsSpec)) traceLawsCard

/-- THE TIED CARD OF 'lyceumlaw13.TraceSuffix'. -/
def traceSuffixCard : Claim7 := { stood := { row := traceSuffixRow, standIns := [], harness := (true, "8c893e796ee2002d6eaa8a7f1ed6fe1f57a67936e9bf89397b742a618015e4b4"), looks := false }, kinds := [], alts := [], laidByText := true, laidKinds := [.data], laidTests := true, laidLooks := .later }
def TraceSuffixCardSaid : Prop := Claim7.holds Tryd.pinned (.plain (OpenSpec.ofChange traceSuffixSpec)) traceSuffixCard

/-- THE TIED CARD OF 'lyceumlaw13.TraceOrder'. -/
def traceOrderCard : Claim7 := { stood := { row := traceOrderRow, standIns := [], harness := (true, "8c893e796ee2002d6eaa8a7f1ed6fe1f57a67936e9bf89397b742a618015e4b4"), looks := false }, kinds := [], alts := [], laidByText := true, laidKinds := [.data], laidTests := true, laidLooks := .later }
def TraceOrderCardSaid : Prop := Claim7.holds Tryd.pinned (.plain (OpenSpec.ofChange traceOrderSpec)) traceOrderCard

/-- THE TIED CARD OF 'lyceumlaw13.TraceWrong'. -/
def traceWrongCard : Claim7 := { stood := { row := traceWrongRow, standIns := [], harness := (true, "8c893e796ee2002d6eaa8a7f1ed6fe1f57a67936e9bf89397b742a618015e4b4"), looks := false }, kinds := [], alts := [], laidByText := true, laidKinds := [.data], laidTests := true, laidLooks := .later }
def TraceWrongCardSaid : Prop := Claim7.holds Tryd.pinned (.plain (OpenSpec.ofChange traceWrongSpec)) traceWrongCard

/-- THE SECOND FORM's CARD OF 'lyceumlaw13.TraceShort'. -/
def traceShortUptoCard : Claim7 := { stood := { row := traceShortUptoRow, standIns := [], harness := (true, "8c893e796ee2002d6eaa8a7f1ed6fe1f57a67936e9bf89397b742a618015e4b4"), looks := false }, kinds := [], alts := [], laidByText := true, laidKinds := [.data], laidTests := true, laidLooks := .later }
def TraceShortUptoCardSaid : Prop := Claim7.holds Tryd.pinned (.plain (OpenSpec.upto traceShortSpec)) traceShortUptoCard

/-- THE SECOND FORM's CARD OF 'lyceumlaw13.TraceLeast'. -/
def traceLeastUptoCard : Claim7 := { stood := { row := traceLeastUptoRow, standIns := [], harness := (true, "8c893e796ee2002d6eaa8a7f1ed6fe1f57a67936e9bf89397b742a618015e4b4"), looks := false }, kinds := [], alts := [], laidByText := true, laidKinds := [.data], laidTests := true, laidLooks := .later }
def TraceLeastUptoCardSaid : Prop := Claim7.holds Tryd.pinned (.plain (OpenSpec.upto traceLeastSpec)) traceLeastUptoCard

/-- THE SECOND FORM's CARD OF 'lyceumlaw13.TraceLaws'. -/
def traceLawsUptoCard : Claim7 := { stood := { row := traceLawsUptoRow, standIns := [], harness := (true, "8c893e796ee2002d6eaa8a7f1ed6fe1f57a67936e9bf89397b742a618015e4b4"), looks := false }, kinds := [], alts := [], laidByText := true, laidKinds := [.data], laidTests := true, laidLooks := .later }
def TraceLawsUptoCardSaid : Prop := Claim7.holds Tryd.pinned (.plain (OpenSpec.upto traceLawsSpec)) traceLawsUptoCard

/-- THE SECOND FORM's CARD OF 'lyceumlaw13.TraceSuffix'. -/
def traceSuffixUptoCard : Claim7 := { stood := { row := traceSuffixUptoRow, standIns := [], harness := (true, "8c893e796ee2002d6eaa8a7f1ed6fe1f57a67936e9bf89397b742a618015e4b4"), looks := false }, kinds := [], alts := [], laidByText := true, laidKinds := [.data], laidTests := true, laidLooks := .later }
def TraceSuffixUptoCardSaid : Prop := Claim7.holds Tryd.pinned (.plain (OpenSpec.upto traceSuffixSpec)) traceSuffixUptoCard

/-- THE SECOND FORM's CARD OF 'lyceumlaw13.TraceOrder'. -/
def traceOrderUptoCard : Claim7 := { stood := { row := traceOrderUptoRow, standIns := [], harness := (true, "8c893e796ee2002d6eaa8a7f1ed6fe1f57a67936e9bf89397b742a618015e4b4"), looks := false }, kinds := [], alts := [], laidByText := true, laidKinds := [.data], laidTests := true, laidLooks := .later }
def TraceOrderUptoCardSaid : Prop := Claim7.holds Tryd.pinned (.plain (OpenSpec.upto traceOrderSpec)) traceOrderUptoCard

/-- THE SECOND FORM's CARD OF 'lyceumlaw13.TraceWrong'. -/
def traceWrongUptoCard : Claim7 := { stood := { row := traceWrongUptoRow, standIns := [], harness := (true, "8c893e796ee2002d6eaa8a7f1ed6fe1f57a67936e9bf89397b742a618015e4b4"), looks := false }, kinds := [], alts := [], laidByText := true, laidKinds := [.data], laidTests := true, laidLooks := .later }
def TraceWrongUptoCardSaid : Prop := Claim7.holds Tryd.pinned (.plain (OpenSpec.upto traceWrongSpec)) traceWrongUptoCard
end Rows
end Go.Proofs.YtjflngchbeegcaaDoor
