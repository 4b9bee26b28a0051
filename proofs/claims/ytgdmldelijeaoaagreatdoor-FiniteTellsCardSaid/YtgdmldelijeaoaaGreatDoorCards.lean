/-
  DERIVED. GIVEN WITH THE SEED: THE CARDS: each row of YtgdmldelijeaoaaGreatDoorRows.lean that lists a variable, with what it lists TIED to the program's text (the seventh form; the later family's looks); each row that meets fmt, with fmt's text TOLD by the authors' own Lean function (tested against real Go, not proved from fmt's source: count such statements apart). THE CARD IS WHAT COUNTS. Prove the row's statement (the work); the ties are given (YtgdmldelijeaoaaGreatDoorTie.lean); close each card by the builder's one call (the guide's Derived/Test/ToyasCard.lean, 'card_holds'). Laid BY PROGRAM, IN A SANDBOX (cutbox-door.mjs). By AI agents, Wed Nov 11 2026. No macro, syntax, notation, axiom, sorry.
-/
import Derived.Test.YtgdmldelijeaoaaGreatDoorRows
import GoSem.ClaimSeven
namespace Go.Proofs.YtgdmldelijeaoaaGreatDoor
namespace Rows

/-- THE TIED CARD OF 'lyceumlaw11.FiniteProps'. -/
def finitePropsCard : Claim7 := { stood := { row := finitePropsRow, standIns := [], harness := (true, "32d8bcf38d8dbb4816f659fbc0a624916388770a4af72ab98c9ec5c1af1897c4"), looks := false }, kinds := [], alts := [], laidByText := true, laidKinds := [.data, .data], laidTests := true, laidLooks := .later }
def FinitePropsCardSaid : Prop := Claim7.holds Tryz.pinned (.plain (OpenSpec.ofChange finitePropsSpec)) finitePropsCard

/-- THE TIED CARD OF 'lyceumlaw11.FiniteRenames'. -/
def finiteRenamesCard : Claim7 := { stood := { row := finiteRenamesRow, standIns := [], harness := (true, "32d8bcf38d8dbb4816f659fbc0a624916388770a4af72ab98c9ec5c1af1897c4"), looks := false }, kinds := [], alts := [], laidByText := true, laidKinds := [.data], laidTests := true, laidLooks := .later }
def FiniteRenamesCardSaid : Prop := Claim7.holds Tryz.pinned (.plain (OpenSpec.ofChange finiteRenamesSpec)) finiteRenamesCard

/-- THE TIED CARD OF 'lyceumlaw11.FiniteLists'. -/
def finiteListsCard : Claim7 := { stood := { row := finiteListsRow, standIns := [], harness := (true, "32d8bcf38d8dbb4816f659fbc0a624916388770a4af72ab98c9ec5c1af1897c4"), looks := false }, kinds := [], alts := [], laidByText := true, laidKinds := [.data], laidTests := true, laidLooks := .later }
def FiniteListsCardSaid : Prop := Claim7.holds Tryz.pinned (.plain (OpenSpec.ofChange finiteListsSpec)) finiteListsCard

/-- THE TIED CARD OF 'lyceumlaw11.FiniteInstances'. -/
def finiteInstancesCard : Claim7 := { stood := { row := finiteInstancesRow, standIns := [], harness := (true, "32d8bcf38d8dbb4816f659fbc0a624916388770a4af72ab98c9ec5c1af1897c4"), looks := false }, kinds := [], alts := [], laidByText := true, laidKinds := [.data], laidTests := true, laidLooks := .later }
def FiniteInstancesCardSaid : Prop := Claim7.holds Tryz.pinned (.plain (OpenSpec.ofChange finiteInstancesSpec)) finiteInstancesCard

/-- THE TIED CARD OF 'lyceumlaw11.FiniteOrder'. -/
def finiteOrderCard : Claim7 := { stood := { row := finiteOrderRow, standIns := [], harness := (true, "32d8bcf38d8dbb4816f659fbc0a624916388770a4af72ab98c9ec5c1af1897c4"), looks := false }, kinds := [], alts := [], laidByText := true, laidKinds := [.data], laidTests := true, laidLooks := .later }
def FiniteOrderCardSaid : Prop := Claim7.holds Tryz.pinned (.plain (OpenSpec.ofChange finiteOrderSpec)) finiteOrderCard

/-- THE TIED CARD OF 'lyceumlaw11.FiniteSymbols'. -/
def finiteSymbolsCard : Claim7 := { stood := { row := finiteSymbolsRow, standIns := [], harness := (true, "32d8bcf38d8dbb4816f659fbc0a624916388770a4af72ab98c9ec5c1af1897c4"), looks := false }, kinds := [], alts := [], laidByText := true, laidKinds := [.data], laidTests := true, laidLooks := .later }
def FiniteSymbolsCardSaid : Prop := Claim7.holds Tryz.pinned (.plain (OpenSpec.ofChange finiteSymbolsSpec)) finiteSymbolsCard

/-- THE TIED CARD OF 'lyceumlaw11.FiniteTells'. -/
def finiteTellsCard : Claim7 := { stood := { row := finiteTellsRow, standIns := [], harness := (true, "32d8bcf38d8dbb4816f659fbc0a624916388770a4af72ab98c9ec5c1af1897c4"), looks := false }, kinds := [], alts := [], laidByText := true, laidKinds := [.data], laidTests := true, laidLooks := .later }
def FiniteTellsCardSaid : Prop := Claim7.holds Tryz.pinned (.plain (OpenSpec.ofChange finiteTellsSpec)) finiteTellsCard

/-- THE TIED CARD OF 'lyceumlaw11.FiniteMoves'. -/
def finiteMovesCard : Claim7 := { stood := { row := finiteMovesRow, standIns := [], harness := (true, "32d8bcf38d8dbb4816f659fbc0a624916388770a4af72ab98c9ec5c1af1897c4"), looks := false }, kinds := [], alts := [], laidByText := true, laidKinds := [.data], laidTests := true, laidLooks := .later }
def FiniteMovesCardSaid : Prop := Claim7.holds Tryz.pinned (.plain (OpenSpec.ofChange finiteMovesSpec)) finiteMovesCard

/-- THE TIED CARD OF 'lyceumlaw11.FiniteWrong'. -/
def finiteWrongCard : Claim7 := { stood := { row := finiteWrongRow, standIns := [], harness := (true, "32d8bcf38d8dbb4816f659fbc0a624916388770a4af72ab98c9ec5c1af1897c4"), looks := false }, kinds := [], alts := [], laidByText := true, laidKinds := [.data], laidTests := true, laidLooks := .later }
def FiniteWrongCardSaid : Prop := Claim7.holds Tryz.pinned (.plain (OpenSpec.ofChange finiteWrongSpec)) finiteWrongCard

/-- THE SECOND FORM's CARD OF 'lyceumlaw11.FiniteProps'. -/
def finitePropsUptoCard : Claim7 := { stood := { row := finitePropsUptoRow, standIns := [], harness := (true, "32d8bcf38d8dbb4816f659fbc0a624916388770a4af72ab98c9ec5c1af1897c4"), looks := false }, kinds := [], alts := [], laidByText := true, laidKinds := [.data, .data], laidTests := true, laidLooks := .later }
def FinitePropsUptoCardSaid : Prop := Claim7.holds Tryz.pinned (.plain (OpenSpec.upto finitePropsSpec)) finitePropsUptoCard

/-- THE SECOND FORM's CARD OF 'lyceumlaw11.FiniteRenames'. -/
def finiteRenamesUptoCard : Claim7 := { stood := { row := finiteRenamesUptoRow, standIns := [], harness := (true, "32d8bcf38d8dbb4816f659fbc0a624916388770a4af72ab98c9ec5c1af1897c4"), looks := false }, kinds := [], alts := [], laidByText := true, laidKinds := [.data], laidTests := true, laidLooks := .later }
def FiniteRenamesUptoCardSaid : Prop := Claim7.holds Tryz.pinned (.plain (OpenSpec.upto finiteRenamesSpec)) finiteRenamesUptoCard

/-- THE SECOND FORM's CARD OF 'lyceumlaw11.FiniteLists'. -/
def finiteListsUptoCard : Claim7 := { stood := { row := finiteListsUptoRow, standIns := [], harness := (true, "32d8bcf38d8dbb4816f659fbc0a624916388770a4af72ab98c9ec5c1af1897c4"), looks := false }, kinds := [], alts := [], laidByText := true, laidKinds := [.data], laidTests := true, laidLooks := .later }
def FiniteListsUptoCardSaid : Prop := Claim7.holds Tryz.pinned (.plain (OpenSpec.upto finiteListsSpec)) finiteListsUptoCard

/-- THE SECOND FORM's CARD OF 'lyceumlaw11.FiniteInstances'. -/
def finiteInstancesUptoCard : Claim7 := { stood := { row := finiteInstancesUptoRow, standIns := [], harness := (true, "32d8bcf38d8dbb4816f659fbc0a624916388770a4af72ab98c9ec5c1af1897c4"), looks := false }, kinds := [], alts := [], laidByText := true, laidKinds := [.data], laidTests := true, laidLooks := .later }
def FiniteInstancesUptoCardSaid : Prop := Claim7.holds Tryz.pinned (.plain (OpenSpec.upto finiteInstancesSpec)) finiteInstancesUptoCard

/-- THE SECOND FORM's CARD OF 'lyceumlaw11.FiniteOrder'. -/
def finiteOrderUptoCard : Claim7 := { stood := { row := finiteOrderUptoRow, standIns := [], harness := (true, "32d8bcf38d8dbb4816f659fbc0a624916388770a4af72ab98c9ec5c1af1897c4"), looks := false }, kinds := [], alts := [], laidByText := true, laidKinds := [.data], laidTests := true, laidLooks := .later }
def FiniteOrderUptoCardSaid : Prop := Claim7.holds Tryz.pinned (.plain (OpenSpec.upto finiteOrderSpec)) finiteOrderUptoCard

/-- THE SECOND FORM's CARD OF 'lyceumlaw11.FiniteSymbols'. -/
def finiteSymbolsUptoCard : Claim7 := { stood := { row := finiteSymbolsUptoRow, standIns := [], harness := (true, "32d8bcf38d8dbb4816f659fbc0a624916388770a4af72ab98c9ec5c1af1897c4"), looks := false }, kinds := [], alts := [], laidByText := true, laidKinds := [.data], laidTests := true, laidLooks := .later }
def FiniteSymbolsUptoCardSaid : Prop := Claim7.holds Tryz.pinned (.plain (OpenSpec.upto finiteSymbolsSpec)) finiteSymbolsUptoCard

/-- THE SECOND FORM's CARD OF 'lyceumlaw11.FiniteTells'. -/
def finiteTellsUptoCard : Claim7 := { stood := { row := finiteTellsUptoRow, standIns := [], harness := (true, "32d8bcf38d8dbb4816f659fbc0a624916388770a4af72ab98c9ec5c1af1897c4"), looks := false }, kinds := [], alts := [], laidByText := true, laidKinds := [.data], laidTests := true, laidLooks := .later }
def FiniteTellsUptoCardSaid : Prop := Claim7.holds Tryz.pinned (.plain (OpenSpec.upto finiteTellsSpec)) finiteTellsUptoCard

/-- THE SECOND FORM's CARD OF 'lyceumlaw11.FiniteMoves'. -/
def finiteMovesUptoCard : Claim7 := { stood := { row := finiteMovesUptoRow, standIns := [], harness := (true, "32d8bcf38d8dbb4816f659fbc0a624916388770a4af72ab98c9ec5c1af1897c4"), looks := false }, kinds := [], alts := [], laidByText := true, laidKinds := [.data], laidTests := true, laidLooks := .later }
def FiniteMovesUptoCardSaid : Prop := Claim7.holds Tryz.pinned (.plain (OpenSpec.upto finiteMovesSpec)) finiteMovesUptoCard

/-- THE SECOND FORM's CARD OF 'lyceumlaw11.FiniteWrong'. -/
def finiteWrongUptoCard : Claim7 := { stood := { row := finiteWrongUptoRow, standIns := [], harness := (true, "32d8bcf38d8dbb4816f659fbc0a624916388770a4af72ab98c9ec5c1af1897c4"), looks := false }, kinds := [], alts := [], laidByText := true, laidKinds := [.data], laidTests := true, laidLooks := .later }
def FiniteWrongUptoCardSaid : Prop := Claim7.holds Tryz.pinned (.plain (OpenSpec.upto finiteWrongSpec)) finiteWrongUptoCard
end Rows
end Go.Proofs.YtgdmldelijeaoaaGreatDoor
