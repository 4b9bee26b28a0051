/-
  NARROWER THAN 'FOR EVERY INPUT', by the rows' own cells (each row's printed sentence says how): FormCompares: loops, laid · FormPlaces: loops, laid · FormWrong: loops, laid.
  DERIVED. THE GIVEN ROWS OF THIS SEAT. 3 by the template 'for every input the law returns true; each argument reads behind the call as it read before'; 0 by the template 'total and deterministic' (their statements: YtejegcmnddedmaaGreatDoorTotals.lean).
  GIVEN WITH THE SEED: the statements are not yours to turn. If you find one false, say at which input.
  Laid BY PROGRAM, IN A SANDBOX (cutbox-rows.mjs): the forced cells as the released guide's own fill.sh prints them over the translation 06304e488e908e5f… (all of the seat's roots in one cut). By AI agents, Wed Nov 11 2026. No macro, syntax, notation, axiom, sorry.
-/
import Derived.Test.YtejegcmnddedmaaGreatDoorChecked
import GoSem.Claim
import GoSem.ClaimJoined
import GoSem.ClaimMapViews
import Derived.JoinedTies
import Derived.KernelRfl
namespace Go.Proofs.YtejegcmnddedmaaGreatDoor
/- THE CELL 'sum', in the pinned program and in every row, IS THE sha256 OF THE DUMP (.gsa) THAT YtejegcmnddedmaaGreatDoorProg.lean LOADS. Nothing in Lean hashes anything: it is a label: what it is worth is what the hold of that sum in a sandbox is worth. -/
noncomputable def Tryz.pinned : Pinned := { name := "ytejegcmnddedmaagreatdoor", sum := "06304e488e908e5f89d69443abea4f1210f827949830a0747de83e1d300da54e", checked := Tryz.checked }
namespace Rows
def none {H : Type} : Left H := { results := [], args := [] }

/- WHAT THE LISTED PACKAGE-LEVEL VARIABLES READ AS WHEN THE CALL BEGINS. Each datum BY PROGRAM (the guide's laid-datum.mjs) off the statement by which the dump's own 'gosem.cut.vars' lays the variable. In a bare row this is a premise. The card (YtejegcmnddedmaaGreatDoorCards.lean) ties it to the program's text. -/
def laid_lyceum_syntax_rows {H : Type} : DataW H := .agg [.agg [.lit (.bool false), .lit (.bool false), .lit (.int .u8 0), .lit (.int .i64 0), .lit (.int .i64 0)], .agg [.lit (.bool true), .lit (.bool true), .lit (.int .u8 1), .lit (.int .i64 4), .lit (.int .i64 0)], .agg [.lit (.bool true), .lit (.bool true), .lit (.int .u8 0), .lit (.int .i64 0), .lit (.int .i64 0)], .agg [.lit (.bool true), .lit (.bool true), .lit (.int .u8 0), .lit (.int .i64 0), .lit (.int .i64 1)], .agg [.lit (.bool true), .lit (.bool true), .lit (.int .u8 0), .lit (.int .i64 0), .lit (.int .i64 2)], .agg [.lit (.bool true), .lit (.bool true), .lit (.int .u8 0), .lit (.int .i64 0), .lit (.int .i64 2)], .agg [.lit (.bool true), .lit (.bool true), .lit (.int .u8 0), .lit (.int .i64 0), .lit (.int .i64 2)], .agg [.lit (.bool true), .lit (.bool true), .lit (.int .u8 0), .lit (.int .i64 0), .lit (.int .i64 2)], .agg [.lit (.bool true), .lit (.bool true), .lit (.int .u8 2), .lit (.int .i64 0), .lit (.int .i64 1)], .agg [.lit (.bool true), .lit (.bool true), .lit (.int .u8 2), .lit (.int .i64 0), .lit (.int .i64 1)], .agg [.lit (.bool true), .lit (.bool true), .lit (.int .u8 0), .lit (.int .i64 0), .lit (.int .i64 1)], .agg [.lit (.bool true), .lit (.bool true), .lit (.int .u8 0), .lit (.int .i64 0), .lit (.int .i64 1)], .agg [.lit (.bool true), .lit (.bool true), .lit (.int .u8 0), .lit (.int .i64 0), .lit (.int .i64 1)], .agg [.lit (.bool true), .lit (.bool true), .lit (.int .u8 0), .lit (.int .i64 0), .lit (.int .i64 1)], .agg [.lit (.bool true), .lit (.bool true), .lit (.int .u8 0), .lit (.int .i64 0), .lit (.int .i64 2)], .agg [.lit (.bool false), .lit (.bool true), .lit (.int .u8 3), .lit (.int .i64 0), .lit (.int .i64 0)], .agg [.lit (.bool false), .lit (.bool true), .lit (.int .u8 3), .lit (.int .i64 2), .lit (.int .i64 0)]]

/-- 'lyceumlaw02.FormCompares': WHATEVER THE INPUT: true; the input reads as it did. -/
def formComparesSpec : ChangeSpec := { name := "formCompares", fn := fun _ => fun
  | [d1, d2] => { results := [.lit (.bool true)], args := [d1, d2] }
  | _ => none }
def formComparesRow : OpenClaim := { program := "ytejegcmnddedmaagreatdoor", sum := "06304e488e908e5f89d69443abea4f1210f827949830a0747de83e1d300da54e", func := "lyceum/lyceumlaw02.FormCompares", spec := "formCompares", inPlace := ["internal/bytealg.abigen_runtime_cmpstring"], unfollowed := true, recurses := true, named := ["lyceum/syntax.rows"], loops := true, plainKeys := false, apart := false, laid := [("lyceum/syntax.rows", laid_lyceum_syntax_rows)] }
def FormComparesSaid : Prop := formComparesRow.holds Tryz.pinned (OpenSpec.ofChange formComparesSpec)

/-- ITS FALSE NEIGHBOUR: 'it returns false'. Refute it at one input. -/
def formComparesWrong : ChangeSpec := { name := "formCompares", fn := fun _ => fun
  | [d1, d2] => { results := [.lit (.bool false)], args := [d1, d2] }
  | _ => none }
def FormComparesWrongFalsely : Prop := formComparesRow.holds Tryz.pinned (OpenSpec.ofChange formComparesWrong)

/-- 'lyceumlaw02.FormPlaces': WHATEVER THE INPUT: true; the input reads as it did. -/
def formPlacesSpec : ChangeSpec := { name := "formPlaces", fn := fun _ => fun
  | [d1, d2, d3] => { results := [.lit (.bool true)], args := [d1, d2, d3] }
  | _ => none }
def formPlacesRow : OpenClaim := { program := "ytejegcmnddedmaagreatdoor", sum := "06304e488e908e5f89d69443abea4f1210f827949830a0747de83e1d300da54e", func := "lyceum/lyceumlaw02.FormPlaces", spec := "formPlaces", inPlace := ["internal/bytealg.abigen_runtime_cmpstring"], unfollowed := true, recurses := true, named := ["lyceum/syntax.rows"], loops := true, plainKeys := false, apart := false, laid := [("lyceum/syntax.rows", laid_lyceum_syntax_rows)] }
def FormPlacesSaid : Prop := formPlacesRow.holds Tryz.pinned (OpenSpec.ofChange formPlacesSpec)

/-- ITS FALSE NEIGHBOUR: 'it returns false'. Refute it at one input. -/
def formPlacesWrong : ChangeSpec := { name := "formPlaces", fn := fun _ => fun
  | [d1, d2, d3] => { results := [.lit (.bool false)], args := [d1, d2, d3] }
  | _ => none }
def FormPlacesWrongFalsely : Prop := formPlacesRow.holds Tryz.pinned (OpenSpec.ofChange formPlacesWrong)

/-- 'lyceumlaw02.FormWrong': WHATEVER THE INPUT: true; the input reads as it did. -/
def formWrongSpec : ChangeSpec := { name := "formWrong", fn := fun _ => fun
  | [d1, d2, d3] => { results := [.lit (.bool true)], args := [d1, d2, d3] }
  | _ => none }
def formWrongRow : OpenClaim := { program := "ytejegcmnddedmaagreatdoor", sum := "06304e488e908e5f89d69443abea4f1210f827949830a0747de83e1d300da54e", func := "lyceum/lyceumlaw02.FormWrong", spec := "formWrong", inPlace := ["internal/bytealg.abigen_runtime_cmpstring"], unfollowed := true, recurses := true, named := ["lyceum/syntax.rows"], loops := true, plainKeys := false, apart := false, laid := [("lyceum/syntax.rows", laid_lyceum_syntax_rows)] }
def FormWrongSaid : Prop := formWrongRow.holds Tryz.pinned (OpenSpec.ofChange formWrongSpec)

/-- ITS FALSE NEIGHBOUR: 'it returns false'. Refute it at one input. -/
def formWrongWrong : ChangeSpec := { name := "formWrong", fn := fun _ => fun
  | [d1, d2, d3] => { results := [.lit (.bool false)], args := [d1, d2, d3] }
  | _ => none }
def FormWrongWrongFalsely : Prop := formWrongRow.holds Tryz.pinned (OpenSpec.ofChange formWrongWrong)

/- THE SECOND FORM. 'bulk': how many values and letters a reading holds, each counted each time it is reached (what is shared counts as often as it is met; a slice's spare places count too). A statement '..UptoSaid' is the law's where the arguments, and the package variables that the reading takes, are together of bulk at most 1048576: NARROWER than '..Said'. Prove '..Said' where nothing that the law and all that it calls make is longer than what came in: it says more and counts as full. Else prove '..UptoSaid'. A law counts once. -/
mutual
def uptoBulk {H : Type} : DataW H → Nat
  | .lit (.string bytes) => bytes.length + 1
  | .lit _ => 1
  | .nil => 1
  | .ptr d => uptoBulk d + 1
  | .slice elems spare => uptoBulkAll elems + uptoBulkAll spare + 1
  | .agg parts => uptoBulkAll parts + 1
  | .iface _ d => uptoBulk d + 1
  | .map entries => uptoBulkEntries entries + 1
  | .held _ => 1
def uptoBulkAll {H : Type} : List (DataW H) → Nat
  | [] => 0
  | d :: r => uptoBulk d + uptoBulkAll r
def uptoBulkEntries {H : Type} : List (Lit × DataW H) → Nat
  | [] => 0
  | x :: r => uptoBulkEntry x + uptoBulkEntries r
def uptoBulkEntry {H : Type} : Lit × DataW H → Nat
  | (.string bytes, d) => bytes.length + uptoBulk d + 1
  | (_, d) => uptoBulk d + 1
 end
def uptoSmall : (H : Type) → List (DataW H) → Bool := fun _ ds => decide (uptoBulkAll ds ≤ 1048576)
def OpenSpec.upto (s : _root_.Go.ChangeSpec) : _root_.Go.OpenSpec := { _root_.Go.OpenSpec.ofChange s with cond := some uptoSmall }

/-- 'lyceumlaw02.FormCompares', WHERE WHAT IT READS IS OF BULK AT MOST 1048576: true; the input reads as it did. -/
def formComparesUptoRow : OpenClaim := { program := "ytejegcmnddedmaagreatdoor", sum := "06304e488e908e5f89d69443abea4f1210f827949830a0747de83e1d300da54e", func := "lyceum/lyceumlaw02.FormCompares", spec := "formCompares", inPlace := ["internal/bytealg.abigen_runtime_cmpstring"], unfollowed := true, recurses := true, named := ["lyceum/syntax.rows"], loops := true, plainKeys := false, apart := false, laid := [("lyceum/syntax.rows", laid_lyceum_syntax_rows)], narrowed := true }
def FormComparesUptoSaid : Prop := formComparesUptoRow.holds Tryz.pinned (OpenSpec.upto formComparesSpec)

/-- 'lyceumlaw02.FormPlaces', WHERE WHAT IT READS IS OF BULK AT MOST 1048576: true; the input reads as it did. -/
def formPlacesUptoRow : OpenClaim := { program := "ytejegcmnddedmaagreatdoor", sum := "06304e488e908e5f89d69443abea4f1210f827949830a0747de83e1d300da54e", func := "lyceum/lyceumlaw02.FormPlaces", spec := "formPlaces", inPlace := ["internal/bytealg.abigen_runtime_cmpstring"], unfollowed := true, recurses := true, named := ["lyceum/syntax.rows"], loops := true, plainKeys := false, apart := false, laid := [("lyceum/syntax.rows", laid_lyceum_syntax_rows)], narrowed := true }
def FormPlacesUptoSaid : Prop := formPlacesUptoRow.holds Tryz.pinned (OpenSpec.upto formPlacesSpec)

/-- 'lyceumlaw02.FormWrong', WHERE WHAT IT READS IS OF BULK AT MOST 1048576: true; the input reads as it did. -/
def formWrongUptoRow : OpenClaim := { program := "ytejegcmnddedmaagreatdoor", sum := "06304e488e908e5f89d69443abea4f1210f827949830a0747de83e1d300da54e", func := "lyceum/lyceumlaw02.FormWrong", spec := "formWrong", inPlace := ["internal/bytealg.abigen_runtime_cmpstring"], unfollowed := true, recurses := true, named := ["lyceum/syntax.rows"], loops := true, plainKeys := false, apart := false, laid := [("lyceum/syntax.rows", laid_lyceum_syntax_rows)], narrowed := true }
def FormWrongUptoSaid : Prop := formWrongUptoRow.holds Tryz.pinned (OpenSpec.upto formWrongSpec)

end Rows
end Go.Proofs.YtejegcmnddedmaaGreatDoor
