/-
  NARROWER THAN 'FOR EVERY INPUT', by the rows' own cells (each row's printed sentence says how): TraceCompares: laid · TraceSmall: laid · TraceProps: laid.
  DERIVED. THE GIVEN ROWS OF THIS SEAT. 3 by the template 'for every input the law returns true; each argument reads behind the call as it read before'; 0 by the template 'total and deterministic' (their statements: YtjflngchbeegcaaGreatDoorTotals.lean).
  GIVEN WITH THE SEED: the statements are not yours to turn. If you find one false, say at which input.
  Laid BY PROGRAM, IN A SANDBOX (cutbox-rows.mjs): the forced cells as the released guide's own fill.sh prints them over the translation 6a6734b5a1dce554… (all of the seat's roots in one cut). By AI agents, Wed Nov 11 2026. No macro, syntax, notation, axiom, sorry.
-/
import Derived.Test.YtjflngchbeegcaaGreatDoorChecked
import GoSem.Claim
import GoSem.ClaimJoined
import GoSem.ClaimMapViews
import Derived.JoinedTies
import Derived.KernelRfl
namespace Go.Proofs.YtjflngchbeegcaaGreatDoor
/- THE CELL 'sum', in the pinned program and in every row, IS THE sha256 OF THE DUMP (.gsa) THAT YtjflngchbeegcaaGreatDoorProg.lean LOADS. Nothing in Lean hashes anything: it is a label: what it is worth is what the hold of that sum in a sandbox is worth. -/
noncomputable def Tryz.pinned : Pinned := { name := "ytjflngchbeegcaagreatdoor", sum := "6a6734b5a1dce55459d2909849d03849788b9c98eb654678638793b8c1b64000", checked := Tryz.checked }
namespace Rows
def none {H : Type} : Left H := { results := [], args := [] }

/- WHAT THE LISTED PACKAGE-LEVEL VARIABLES READ AS WHEN THE CALL BEGINS. Each datum BY PROGRAM (the guide's laid-datum.mjs) off the statement by which the dump's own 'gosem.cut.vars' lays the variable. In a bare row this is a premise. The card (YtjflngchbeegcaaGreatDoorCards.lean) ties it to the program's text. -/
def laid_lyceum_syntax_rows {H : Type} : DataW H := .agg [.agg [.lit (.bool false), .lit (.bool false), .lit (.int .u8 0), .lit (.int .i64 0), .lit (.int .i64 0)], .agg [.lit (.bool true), .lit (.bool true), .lit (.int .u8 1), .lit (.int .i64 4), .lit (.int .i64 0)], .agg [.lit (.bool true), .lit (.bool true), .lit (.int .u8 0), .lit (.int .i64 0), .lit (.int .i64 0)], .agg [.lit (.bool true), .lit (.bool true), .lit (.int .u8 0), .lit (.int .i64 0), .lit (.int .i64 1)], .agg [.lit (.bool true), .lit (.bool true), .lit (.int .u8 0), .lit (.int .i64 0), .lit (.int .i64 2)], .agg [.lit (.bool true), .lit (.bool true), .lit (.int .u8 0), .lit (.int .i64 0), .lit (.int .i64 2)], .agg [.lit (.bool true), .lit (.bool true), .lit (.int .u8 0), .lit (.int .i64 0), .lit (.int .i64 2)], .agg [.lit (.bool true), .lit (.bool true), .lit (.int .u8 0), .lit (.int .i64 0), .lit (.int .i64 2)], .agg [.lit (.bool true), .lit (.bool true), .lit (.int .u8 2), .lit (.int .i64 0), .lit (.int .i64 1)], .agg [.lit (.bool true), .lit (.bool true), .lit (.int .u8 2), .lit (.int .i64 0), .lit (.int .i64 1)], .agg [.lit (.bool true), .lit (.bool true), .lit (.int .u8 0), .lit (.int .i64 0), .lit (.int .i64 1)], .agg [.lit (.bool true), .lit (.bool true), .lit (.int .u8 0), .lit (.int .i64 0), .lit (.int .i64 1)], .agg [.lit (.bool true), .lit (.bool true), .lit (.int .u8 0), .lit (.int .i64 0), .lit (.int .i64 1)], .agg [.lit (.bool true), .lit (.bool true), .lit (.int .u8 0), .lit (.int .i64 0), .lit (.int .i64 1)], .agg [.lit (.bool true), .lit (.bool true), .lit (.int .u8 0), .lit (.int .i64 0), .lit (.int .i64 2)], .agg [.lit (.bool false), .lit (.bool true), .lit (.int .u8 3), .lit (.int .i64 0), .lit (.int .i64 0)], .agg [.lit (.bool false), .lit (.bool true), .lit (.int .u8 3), .lit (.int .i64 2), .lit (.int .i64 0)]]
def laid_lyceum_truth_patterns {H : Type} : DataW H := .agg [.lit (.int .u64 12297829382473034410), .lit (.int .u64 14757395258967641292), .lit (.int .u64 17361641481138401520), .lit (.int .u64 18374966859414961920), .lit (.int .u64 18446462603027742720), .lit (.int .u64 18446744069414584320)]

/-- 'lyceumlaw13.TraceCompares': WHATEVER THE INPUT: true; the input reads as it did. -/
def traceComparesSpec : ChangeSpec := { name := "traceCompares", fn := fun _ => fun
  | [d1, d2, d3, d4, d5] => { results := [.lit (.bool true)], args := [d1, d2, d3, d4, d5] }
  | _ => none }
def traceComparesRow : OpenClaim := { program := "ytjflngchbeegcaagreatdoor", sum := "6a6734b5a1dce55459d2909849d03849788b9c98eb654678638793b8c1b64000", func := "lyceum/lyceumlaw13.TraceCompares", spec := "traceCompares", unfollowed := true, recurses := true, named := ["lyceum/syntax.rows"], apart := false, laid := [("lyceum/syntax.rows", laid_lyceum_syntax_rows)] }
def TraceComparesSaid : Prop := traceComparesRow.holds Tryz.pinned (OpenSpec.ofChange traceComparesSpec)

/-- ITS FALSE NEIGHBOUR: 'it returns false'. Refute it at one input. -/
def traceComparesWrong : ChangeSpec := { name := "traceCompares", fn := fun _ => fun
  | [d1, d2, d3, d4, d5] => { results := [.lit (.bool false)], args := [d1, d2, d3, d4, d5] }
  | _ => none }
def TraceComparesWrongFalsely : Prop := traceComparesRow.holds Tryz.pinned (OpenSpec.ofChange traceComparesWrong)

/-- 'lyceumlaw13.TraceSmall': WHATEVER THE INPUT: true; the input reads as it did. -/
def traceSmallSpec : ChangeSpec := { name := "traceSmall", fn := fun _ => fun
  | [] => { results := [.lit (.bool true)], args := [] }
  | _ => none }
def traceSmallRow : OpenClaim := { program := "ytjflngchbeegcaagreatdoor", sum := "6a6734b5a1dce55459d2909849d03849788b9c98eb654678638793b8c1b64000", func := "lyceum/lyceumlaw13.TraceSmall", spec := "traceSmall", unfollowed := true, recurses := true, named := ["lyceum/syntax.rows"], apart := false, laid := [("lyceum/syntax.rows", laid_lyceum_syntax_rows)] }
def TraceSmallSaid : Prop := traceSmallRow.holds Tryz.pinned (OpenSpec.ofChange traceSmallSpec)

/-- ITS FALSE NEIGHBOUR: 'it returns false'. Refute it at one input. -/
def traceSmallWrong : ChangeSpec := { name := "traceSmall", fn := fun _ => fun
  | [] => { results := [.lit (.bool false)], args := [] }
  | _ => none }
def TraceSmallWrongFalsely : Prop := traceSmallRow.holds Tryz.pinned (OpenSpec.ofChange traceSmallWrong)

/-- 'lyceumlaw13.TraceProps': WHATEVER THE INPUT: true; the input reads as it did. -/
def tracePropsSpec : ChangeSpec := { name := "traceProps", fn := fun _ => fun
  | [d1, d2, d3, d4, d5] => { results := [.lit (.bool true)], args := [d1, d2, d3, d4, d5] }
  | _ => none }
def tracePropsRow : OpenClaim := { program := "ytjflngchbeegcaagreatdoor", sum := "6a6734b5a1dce55459d2909849d03849788b9c98eb654678638793b8c1b64000", func := "lyceum/lyceumlaw13.TraceProps", spec := "traceProps", unfollowed := true, recurses := true, named := ["lyceum/syntax.rows", "lyceum/truth.patterns"], apart := false, laid := [("lyceum/syntax.rows", laid_lyceum_syntax_rows), ("lyceum/truth.patterns", laid_lyceum_truth_patterns)] }
def TracePropsSaid : Prop := tracePropsRow.holds Tryz.pinned (OpenSpec.ofChange tracePropsSpec)

/-- ITS FALSE NEIGHBOUR: 'it returns false'. Refute it at one input. -/
def tracePropsWrong : ChangeSpec := { name := "traceProps", fn := fun _ => fun
  | [d1, d2, d3, d4, d5] => { results := [.lit (.bool false)], args := [d1, d2, d3, d4, d5] }
  | _ => none }
def TracePropsWrongFalsely : Prop := tracePropsRow.holds Tryz.pinned (OpenSpec.ofChange tracePropsWrong)

/- THE SECOND FORM. 'bulk': how many values and letters a reading holds, each counted each time it is reached (what is shared counts as often as it is met; a slice's spare places count too). A statement '..UptoSaid' is the law's where the arguments, and the package variables that the reading takes, are together of bulk at most 1048576: NARROWER than '..Said'. Prove '..Said' where nothing that the law and all that it calls make is longer than what came in: it says more and counts as full. Else prove '..UptoSaid'. A law counts once. -/
mutual
def uptoBulk {H : Type} : DataW H → Nat
  | .lit (.string bytes) => bytes.length + 1
  | .lit _ => 1
  | .nil => 1
  | .ptr d => uptoBulk d + 1
  | .slice elems spare => uptoBulkAll elems + uptoBulkAll spare + 1
  | .agg parts => uptoBulkAll parts + 1
  | .iface _ d => uptoBulk d + 1
  | .map entries => uptoBulkEntries entries + 1
  | .held _ => 1
def uptoBulkAll {H : Type} : List (DataW H) → Nat
  | [] => 0
  | d :: r => uptoBulk d + uptoBulkAll r
def uptoBulkEntries {H : Type} : List (Lit × DataW H) → Nat
  | [] => 0
  | x :: r => uptoBulkEntry x + uptoBulkEntries r
def uptoBulkEntry {H : Type} : Lit × DataW H → Nat
  | (.string bytes, d) => bytes.length + uptoBulk d + 1
  | (_, d) => uptoBulk d + 1
 end
def uptoSmall : (H : Type) → List (DataW H) → Bool := fun _ ds => decide (uptoBulkAll ds ≤ 1048576)
def OpenSpec.upto (s : _root_.Go.ChangeSpec) : _root_.Go.OpenSpec := { _root_.Go.OpenSpec.ofChange s with cond := some uptoSmall }

/-- 'lyceumlaw13.TraceCompares', WHERE WHAT IT READS IS OF BULK AT MOST 1048576: true; the input reads as it did. -/
def traceComparesUptoRow : OpenClaim := { program := "ytjflngchbeegcaagreatdoor", sum := "6a6734b5a1dce55459d2909849d03849788b9c98eb654678638793b8c1b64000", func := "lyceum/lyceumlaw13.TraceCompares", spec := "traceCompares", unfollowed := true, recurses := true, named := ["lyceum/syntax.rows"], apart := false, laid := [("lyceum/syntax.rows", laid_lyceum_syntax_rows)], narrowed := true }
def TraceComparesUptoSaid : Prop := traceComparesUptoRow.holds Tryz.pinned (OpenSpec.upto traceComparesSpec)

/-- 'lyceumlaw13.TraceSmall', WHERE WHAT IT READS IS OF BULK AT MOST 1048576: true; the input reads as it did. -/
def traceSmallUptoRow : OpenClaim := { program := "ytjflngchbeegcaagreatdoor", sum := "6a6734b5a1dce55459d2909849d03849788b9c98eb654678638793b8c1b64000", func := "lyceum/lyceumlaw13.TraceSmall", spec := "traceSmall", unfollowed := true, recurses := true, named := ["lyceum/syntax.rows"], apart := false, laid := [("lyceum/syntax.rows", laid_lyceum_syntax_rows)], narrowed := true }
def TraceSmallUptoSaid : Prop := traceSmallUptoRow.holds Tryz.pinned (OpenSpec.upto traceSmallSpec)

/-- 'lyceumlaw13.TraceProps', WHERE WHAT IT READS IS OF BULK AT MOST 1048576: true; the input reads as it did. -/
def tracePropsUptoRow : OpenClaim := { program := "ytjflngchbeegcaagreatdoor", sum := "6a6734b5a1dce55459d2909849d03849788b9c98eb654678638793b8c1b64000", func := "lyceum/lyceumlaw13.TraceProps", spec := "traceProps", unfollowed := true, recurses := true, named := ["lyceum/syntax.rows", "lyceum/truth.patterns"], apart := false, laid := [("lyceum/syntax.rows", laid_lyceum_syntax_rows), ("lyceum/truth.patterns", laid_lyceum_truth_patterns)], narrowed := true }
def TracePropsUptoSaid : Prop := tracePropsUptoRow.holds Tryz.pinned (OpenSpec.upto tracePropsSpec)

end Rows
end Go.Proofs.YtjflngchbeegcaaGreatDoor
