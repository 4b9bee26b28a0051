/-
  DERIVED. GIVEN WITH THE SEED: THE CARDS: each row of YtekhodpmpjehaaaDoorRows.lean that lists a variable, with what it lists TIED to the program's text (the seventh form; the later family's looks); each row that meets fmt, with fmt's text TOLD by the authors' own Lean function (tested against real Go, not proved from fmt's source: count such statements apart). THE CARD IS WHAT COUNTS. Prove the row's statement (the work); the ties are given (YtekhodpmpjehaaaDoorTie.lean); close each card by the builder's one call (the guide's Derived/Test/ToyasCard.lean, 'card_holds'). Laid BY PROGRAM, IN A SANDBOX (cutbox-door.mjs). By AI agents, Wed Nov 11 2026. No macro, syntax, notation, axiom, sorry.
-/
import Derived.Test.YtekhodpmpjehaaaDoorRows
import GoSem.ClaimSeven
namespace Go.Proofs.YtekhodpmpjehaaaDoor
namespace Rows

/-- THE TIED CARD OF 'lyceumlaw10.TruthPuts'. -/
def truthPutsCard : Claim7 := { stood := { row := truthPutsRow, standIns := [], harness := (true, "ff46cd26c0cc6d5874d34f212227182fa9e88d4cd968913a4fa62d26d4d5745d"), looks := false }, kinds := [], alts := [], laidByText := true, laidKinds := [.data, .data, .data], laidTests := true, laidLooks := .later }
def TruthPutsCardSaid : Prop := Claim7.holds Tryd.pinned (.plain (OpenSpec.ofChange truthPutsSpec)) truthPutsCard

/-- THE TIED CARD OF 'lyceumlaw10.TruthDeduces'. -/
def truthDeducesCard : Claim7 := { stood := { row := truthDeducesRow, standIns := [], harness := (true, "ff46cd26c0cc6d5874d34f212227182fa9e88d4cd968913a4fa62d26d4d5745d"), looks := false }, kinds := [], alts := [], laidByText := true, laidKinds := [.data, .data, .data], laidTests := true, laidLooks := .later }
def TruthDeducesCardSaid : Prop := Claim7.holds Tryd.pinned (.plain (OpenSpec.ofChange truthDeducesSpec)) truthDeducesCard

/-- THE TIED CARD OF 'lyceumlaw10.TruthCounts'. -/
def truthCountsCard : Claim7 := { stood := { row := truthCountsRow, standIns := [], harness := (true, "ff46cd26c0cc6d5874d34f212227182fa9e88d4cd968913a4fa62d26d4d5745d"), looks := false }, kinds := [], alts := [], laidByText := true, laidKinds := [.data, .data, .data], laidTests := true, laidLooks := .later }
def TruthCountsCardSaid : Prop := Claim7.holds Tryd.pinned (.plain (OpenSpec.ofChange truthCountsSpec)) truthCountsCard

/-- THE TIED CARD OF 'lyceumlaw10.TruthLeast'. -/
def truthLeastCard : Claim7 := { stood := { row := truthLeastRow, standIns := [], harness := (true, "ff46cd26c0cc6d5874d34f212227182fa9e88d4cd968913a4fa62d26d4d5745d"), looks := false }, kinds := [], alts := [], laidByText := true, laidKinds := [.data, .data, .data], laidTests := true, laidLooks := .later }
def TruthLeastCardSaid : Prop := Claim7.holds Tryd.pinned (.plain (OpenSpec.ofChange truthLeastSpec)) truthLeastCard

/-- THE TIED CARD OF 'lyceumlaw10.TruthNames'. -/
def truthNamesCard : Claim7 := { stood := { row := truthNamesRow, standIns := [], harness := (true, "ff46cd26c0cc6d5874d34f212227182fa9e88d4cd968913a4fa62d26d4d5745d"), looks := false }, kinds := [], alts := [], laidByText := true, laidKinds := [.data, .data, .data], laidTests := true, laidLooks := .later }
def TruthNamesCardSaid : Prop := Claim7.holds Tryd.pinned (.plain (OpenSpec.ofChange truthNamesSpec)) truthNamesCard

/-- THE TIED CARD OF 'lyceumlaw10.TruthEqual'. -/
def truthEqualCard : Claim7 := { stood := { row := truthEqualRow, standIns := [], harness := (true, "ff46cd26c0cc6d5874d34f212227182fa9e88d4cd968913a4fa62d26d4d5745d"), looks := false }, kinds := [], alts := [], laidByText := true, laidKinds := [.data, .data, .data], laidTests := true, laidLooks := .later }
def TruthEqualCardSaid : Prop := Claim7.holds Tryd.pinned (.plain (OpenSpec.ofChange truthEqualSpec)) truthEqualCard

/-- THE TIED CARD OF 'lyceumlaw10.TruthWrong'. -/
def truthWrongCard : Claim7 := { stood := { row := truthWrongRow, standIns := [], harness := (true, "ff46cd26c0cc6d5874d34f212227182fa9e88d4cd968913a4fa62d26d4d5745d"), looks := false }, kinds := [], alts := [], laidByText := true, laidKinds := [.data, .data, .data], laidTests := true, laidLooks := .later }
def TruthWrongCardSaid : Prop := Claim7.holds Tryd.pinned (.plain (OpenSpec.ofChange truthWrongSpec)) truthWrongCard

/-- THE SECOND FORM's CARD OF 'lyceumlaw10.TruthPuts'. -/
def truthPutsUptoCard : Claim7 := { stood := { row := truthPutsUptoRow, standIns := [], harness := (true, "ff46cd26c0cc6d5874d34f212227182fa9e88d4cd968913a4fa62d26d4d5745d"), looks := false }, kinds := [], alts := [], laidByText := true, laidKinds := [.data, .data, .data], laidTests := true, laidLooks := .later }
def TruthPutsUptoCardSaid : Prop := Claim7.holds Tryd.pinned (.plain (OpenSpec.upto truthPutsSpec)) truthPutsUptoCard

/-- THE SECOND FORM's CARD OF 'lyceumlaw10.TruthDeduces'. -/
def truthDeducesUptoCard : Claim7 := { stood := { row := truthDeducesUptoRow, standIns := [], harness := (true, "ff46cd26c0cc6d5874d34f212227182fa9e88d4cd968913a4fa62d26d4d5745d"), looks := false }, kinds := [], alts := [], laidByText := true, laidKinds := [.data, .data, .data], laidTests := true, laidLooks := .later }
def TruthDeducesUptoCardSaid : Prop := Claim7.holds Tryd.pinned (.plain (OpenSpec.upto truthDeducesSpec)) truthDeducesUptoCard

/-- THE SECOND FORM's CARD OF 'lyceumlaw10.TruthCounts'. -/
def truthCountsUptoCard : Claim7 := { stood := { row := truthCountsUptoRow, standIns := [], harness := (true, "ff46cd26c0cc6d5874d34f212227182fa9e88d4cd968913a4fa62d26d4d5745d"), looks := false }, kinds := [], alts := [], laidByText := true, laidKinds := [.data, .data, .data], laidTests := true, laidLooks := .later }
def TruthCountsUptoCardSaid : Prop := Claim7.holds Tryd.pinned (.plain (OpenSpec.upto truthCountsSpec)) truthCountsUptoCard

/-- THE SECOND FORM's CARD OF 'lyceumlaw10.TruthLeast'. -/
def truthLeastUptoCard : Claim7 := { stood := { row := truthLeastUptoRow, standIns := [], harness := (true, "ff46cd26c0cc6d5874d34f212227182fa9e88d4cd968913a4fa62d26d4d5745d"), looks := false }, kinds := [], alts := [], laidByText := true, laidKinds := [.data, .data, .data], laidTests := true, laidLooks := .later }
def TruthLeastUptoCardSaid : Prop := Claim7.holds Tryd.pinned (.plain (OpenSpec.upto truthLeastSpec)) truthLeastUptoCard

/-- THE SECOND FORM's CARD OF 'lyceumlaw10.TruthNames'. -/
def truthNamesUptoCard : Claim7 := { stood := { row := truthNamesUptoRow, standIns := [], harness := (true, "ff46cd26c0cc6d5874d34f212227182fa9e88d4cd968913a4fa62d26d4d5745d"), looks := false }, kinds := [], alts := [], laidByText := true, laidKinds := [.data, .data, .data], laidTests := true, laidLooks := .later }
def TruthNamesUptoCardSaid : Prop := Claim7.holds Tryd.pinned (.plain (OpenSpec.upto truthNamesSpec)) truthNamesUptoCard

/-- THE SECOND FORM's CARD OF 'lyceumlaw10.TruthEqual'. -/
def truthEqualUptoCard : Claim7 := { stood := { row := truthEqualUptoRow, standIns := [], harness := (true, "ff46cd26c0cc6d5874d34f212227182fa9e88d4cd968913a4fa62d26d4d5745d"), looks := false }, kinds := [], alts := [], laidByText := true, laidKinds := [.data, .data, .data], laidTests := true, laidLooks := .later }
def TruthEqualUptoCardSaid : Prop := Claim7.holds Tryd.pinned (.plain (OpenSpec.upto truthEqualSpec)) truthEqualUptoCard

/-- THE SECOND FORM's CARD OF 'lyceumlaw10.TruthWrong'. -/
def truthWrongUptoCard : Claim7 := { stood := { row := truthWrongUptoRow, standIns := [], harness := (true, "ff46cd26c0cc6d5874d34f212227182fa9e88d4cd968913a4fa62d26d4d5745d"), looks := false }, kinds := [], alts := [], laidByText := true, laidKinds := [.data, .data, .data], laidTests := true, laidLooks := .later }
def TruthWrongUptoCardSaid : Prop := Claim7.holds Tryd.pinned (.plain (OpenSpec.upto truthWrongSpec)) truthWrongUptoCard
end Rows
end Go.Proofs.YtekhodpmpjehaaaDoor
