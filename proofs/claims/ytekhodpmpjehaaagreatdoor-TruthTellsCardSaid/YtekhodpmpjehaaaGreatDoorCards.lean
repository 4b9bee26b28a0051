/-
  DERIVED. GIVEN WITH THE SEED: THE CARDS: each row of YtekhodpmpjehaaaGreatDoorRows.lean that lists a variable, with what it lists TIED to the program's text (the seventh form; the later family's looks); each row that meets fmt, with fmt's text TOLD by the authors' own Lean function (tested against real Go, not proved from fmt's source: count such statements apart). THE CARD IS WHAT COUNTS. Prove the row's statement (the work); the ties are given (YtekhodpmpjehaaaGreatDoorTie.lean); close each card by the builder's one call (the guide's Derived/Test/ToyasCard.lean, 'card_holds'). Laid BY PROGRAM, IN A SANDBOX (cutbox-door.mjs). By AI agents, Wed Nov 11 2026. No macro, syntax, notation, axiom, sorry.
-/
import Derived.Test.YtekhodpmpjehaaaGreatDoorRows
import GoSem.ClaimSeven
namespace Go.Proofs.YtekhodpmpjehaaaGreatDoor
namespace Rows

/-- THE TIED CARD OF 'lyceumlaw10.TruthFalsifies'. -/
def truthFalsifiesCard : Claim7 := { stood := { row := truthFalsifiesRow, standIns := [], harness := (true, "a6637be5577dffdf1a35b195ce76ab875f1a511a9962f1996221516297b43516"), looks := false }, kinds := [], alts := [], laidByText := true, laidKinds := [.data, .data, .data], laidTests := true, laidLooks := .later }
def TruthFalsifiesCardSaid : Prop := Claim7.holds Tryz.pinned (.plain (OpenSpec.ofChange truthFalsifiesSpec)) truthFalsifiesCard

/-- THE TIED CARD OF 'lyceumlaw10.TruthTells'. -/
def truthTellsCard : Claim7 := { stood := { row := truthTellsRow, standIns := [], harness := (true, "a6637be5577dffdf1a35b195ce76ab875f1a511a9962f1996221516297b43516"), looks := false }, kinds := [], alts := [], laidByText := true, laidKinds := [.data, .data, .data], laidTests := true, laidLooks := .later }
def TruthTellsCardSaid : Prop := Claim7.holds Tryz.pinned (.plain (OpenSpec.ofChange truthTellsSpec)) truthTellsCard

/-- THE SECOND FORM's CARD OF 'lyceumlaw10.TruthFalsifies'. -/
def truthFalsifiesUptoCard : Claim7 := { stood := { row := truthFalsifiesUptoRow, standIns := [], harness := (true, "a6637be5577dffdf1a35b195ce76ab875f1a511a9962f1996221516297b43516"), looks := false }, kinds := [], alts := [], laidByText := true, laidKinds := [.data, .data, .data], laidTests := true, laidLooks := .later }
def TruthFalsifiesUptoCardSaid : Prop := Claim7.holds Tryz.pinned (.plain (OpenSpec.upto truthFalsifiesSpec)) truthFalsifiesUptoCard

/-- THE SECOND FORM's CARD OF 'lyceumlaw10.TruthTells'. -/
def truthTellsUptoCard : Claim7 := { stood := { row := truthTellsUptoRow, standIns := [], harness := (true, "a6637be5577dffdf1a35b195ce76ab875f1a511a9962f1996221516297b43516"), looks := false }, kinds := [], alts := [], laidByText := true, laidKinds := [.data, .data, .data], laidTests := true, laidLooks := .later }
def TruthTellsUptoCardSaid : Prop := Claim7.holds Tryz.pinned (.plain (OpenSpec.upto truthTellsSpec)) truthTellsUptoCard
end Rows
end Go.Proofs.YtekhodpmpjehaaaGreatDoor
