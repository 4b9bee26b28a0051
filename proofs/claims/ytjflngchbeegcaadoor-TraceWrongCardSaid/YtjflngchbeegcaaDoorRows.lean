/-
  NARROWER THAN 'FOR EVERY INPUT', by the rows' own cells (each row's printed sentence says how): TraceShort: laid · TraceLeast: laid · TraceLaws: laid · TraceSuffix: laid · TraceOrder: laid · TraceWrong: laid.
  DERIVED. THE GIVEN ROWS OF THIS SEAT. 6 by the template 'for every input the law returns true; each argument reads behind the call as it read before'; 0 by the template 'total and deterministic' (their statements: YtjflngchbeegcaaDoorTotals.lean).
  GIVEN WITH THE SEED: the statements are not yours to turn. If you find one false, say at which input.
  Laid BY PROGRAM, IN A SANDBOX (cutbox-rows.mjs): the forced cells as the released guide's own fill.sh prints them over the translation 837bdd7372b235b1… (all of the seat's roots in one cut). By AI agents, Wed Nov 11 2026. No macro, syntax, notation, axiom, sorry.
-/
import Derived.Test.YtjflngchbeegcaaDoorChecked
import GoSem.Claim
import GoSem.ClaimJoined
import GoSem.ClaimMapViews
import Derived.JoinedTies
import Derived.KernelRfl
namespace Go.Proofs.YtjflngchbeegcaaDoor
/- THE CELL 'sum', in the pinned program and in every row, IS THE sha256 OF THE DUMP (.gsa) THAT YtjflngchbeegcaaDoorProg.lean LOADS. Nothing in Lean hashes anything: it is a label: what it is worth is what the hold of that sum in a sandbox is worth. -/
noncomputable def Tryd.pinned : Pinned := { name := "ytjflngchbeegcaadoor", sum := "837bdd7372b235b19b8e1b6edbe54082b906f39cb2759cd6c34dae2810139479", checked := Tryd.checked }
namespace Rows
def none {H : Type} : Left H := { results := [], args := [] }

/- WHAT THE LISTED PACKAGE-LEVEL VARIABLES READ AS WHEN THE CALL BEGINS. Each datum BY PROGRAM (the guide's laid-datum.mjs) off the statement by which the dump's own 'gosem.cut.vars' lays the variable. In a bare row this is a premise. The card (YtjflngchbeegcaaDoorCards.lean) ties it to the program's text. -/
def laid_lyceum_syntax_rows {H : Type} : DataW H := .agg [.agg [.lit (.bool false), .lit (.bool false), .lit (.int .u8 0), .lit (.int .i64 0), .lit (.int .i64 0)], .agg [.lit (.bool true), .lit (.bool true), .lit (.int .u8 1), .lit (.int .i64 4), .lit (.int .i64 0)], .agg [.lit (.bool true), .lit (.bool true), .lit (.int .u8 0), .lit (.int .i64 0), .lit (.int .i64 0)], .agg [.lit (.bool true), .lit (.bool true), .lit (.int .u8 0), .lit (.int .i64 0), .lit (.int .i64 1)], .agg [.lit (.bool true), .lit (.bool true), .lit (.int .u8 0), .lit (.int .i64 0), .lit (.int .i64 2)], .agg [.lit (.bool true), .lit (.bool true), .lit (.int .u8 0), .lit (.int .i64 0), .lit (.int .i64 2)], .agg [.lit (.bool true), .lit (.bool true), .lit (.int .u8 0), .lit (.int .i64 0), .lit (.int .i64 2)], .agg [.lit (.bool true), .lit (.bool true), .lit (.int .u8 0), .lit (.int .i64 0), .lit (.int .i64 2)], .agg [.lit (.bool true), .lit (.bool true), .lit (.int .u8 2), .lit (.int .i64 0), .lit (.int .i64 1)], .agg [.lit (.bool true), .lit (.bool true), .lit (.int .u8 2), .lit (.int .i64 0), .lit (.int .i64 1)], .agg [.lit (.bool true), .lit (.bool true), .lit (.int .u8 0), .lit (.int .i64 0), .lit (.int .i64 1)], .agg [.lit (.bool true), .lit (.bool true), .lit (.int .u8 0), .lit (.int .i64 0), .lit (.int .i64 1)], .agg [.lit (.bool true), .lit (.bool true), .lit (.int .u8 0), .lit (.int .i64 0), .lit (.int .i64 1)], .agg [.lit (.bool true), .lit (.bool true), .lit (.int .u8 0), .lit (.int .i64 0), .lit (.int .i64 1)], .agg [.lit (.bool true), .lit (.bool true), .lit (.int .u8 0), .lit (.int .i64 0), .lit (.int .i64 2)], .agg [.lit (.bool false), .lit (.bool true), .lit (.int .u8 3), .lit (.int .i64 0), .lit (.int .i64 0)], .agg [.lit (.bool false), .lit (.bool true), .lit (.int .u8 3), .lit (.int .i64 2), .lit (.int .i64 0)]]

/-- 'lyceumlaw13.TraceShort': WHATEVER THE INPUT: true; the input reads as it did. -/
def traceShortSpec : ChangeSpec := { name := "traceShort", fn := fun _ => fun
  | [d1, d2, d3, d4, d5, d6, d7] => { results := [.lit (.bool true)], args := [d1, d2, d3, d4, d5, d6, d7] }
  | _ => none }
def traceShortRow : OpenClaim := { program := "ytjflngchbeegcaadoor", sum := "837bdd7372b235b19b8e1b6edbe54082b906f39cb2759cd6c34dae2810139479", func := "lyceum/lyceumlaw13.TraceShort", spec := "traceShort", unfollowed := true, recurses := true, named := ["lyceum/syntax.rows"], apart := false, laid := [("lyceum/syntax.rows", laid_lyceum_syntax_rows)] }
def TraceShortSaid : Prop := traceShortRow.holds Tryd.pinned (OpenSpec.ofChange traceShortSpec)

/-- ITS FALSE NEIGHBOUR: 'it returns false'. Refute it at one input. -/
def traceShortWrong : ChangeSpec := { name := "traceShort", fn := fun _ => fun
  | [d1, d2, d3, d4, d5, d6, d7] => { results := [.lit (.bool false)], args := [d1, d2, d3, d4, d5, d6, d7] }
  | _ => none }
def TraceShortWrongFalsely : Prop := traceShortRow.holds Tryd.pinned (OpenSpec.ofChange traceShortWrong)

/-- 'lyceumlaw13.TraceLeast': WHATEVER THE INPUT: true; the input reads as it did. -/
def traceLeastSpec : ChangeSpec := { name := "traceLeast", fn := fun _ => fun
  | [d1, d2, d3] => { results := [.lit (.bool true)], args := [d1, d2, d3] }
  | _ => none }
def traceLeastRow : OpenClaim := { program := "ytjflngchbeegcaadoor", sum := "837bdd7372b235b19b8e1b6edbe54082b906f39cb2759cd6c34dae2810139479", func := "lyceum/lyceumlaw13.TraceLeast", spec := "traceLeast", unfollowed := true, recurses := true, named := ["lyceum/syntax.rows"], apart := false, laid := [("lyceum/syntax.rows", laid_lyceum_syntax_rows)] }
def TraceLeastSaid : Prop := traceLeastRow.holds Tryd.pinned (OpenSpec.ofChange traceLeastSpec)

/-- ITS FALSE NEIGHBOUR: 'it returns false'. Refute it at one input. -/
def traceLeastWrong : ChangeSpec := { name := "traceLeast", fn := fun _ => fun
  | [d1, d2, d3] => { results := [.lit (.bool false)], args := [d1, d2, d3] }
  | _ => none }
def TraceLeastWrongFalsely : Prop := traceLeastRow.holds Tryd.pinned (OpenSpec.ofChange traceLeastWrong)

/-- 'lyceumlaw13.TraceLaws': WHATEVER THE INPUT: true; the input reads as it did. -/
def traceLawsSpec : ChangeSpec := { name := "traceLaws", fn := fun _ => fun
  | [d1, d2, d3, d4, d5] => { results := [.lit (.bool true)], args := [d1, d2, d3, d4, d5] }
  | _ => none }
def traceLawsRow : OpenClaim := { program := "ytjflngchbeegcaadoor", sum := "837bdd7372b235b19b8e1b6edbe54082b906f39cb2759cd6c34dae2810139479", func := "lyceum/lyceumlaw13.TraceLaws", spec := "traceLaws", unfollowed := true, recurses := true, named := ["lyceum/syntax.rows"], apart := false, laid := [("lyceum/syntax.rows", laid_lyceum_syntax_rows)] }
def TraceLawsSaid : Prop := traceLawsRow.holds Tryd.pinned (OpenSpec.ofChange traceLawsSpec)

/-- ITS FALSE NEIGHBOUR: 'it returns false'. Refute it at one input. -/
def traceLawsWrong : ChangeSpec := { name := "traceLaws", fn := fun _ => fun
  | [d1, d2, d3, d4, d5] => { results := [.lit (.bool false)], args := [d1, d2, d3, d4, d5] }
  | _ => none }
def TraceLawsWrongFalsely : Prop := traceLawsRow.holds Tryd.pinned (OpenSpec.ofChange traceLawsWrong)

/-- 'lyceumlaw13.TraceSuffix': WHATEVER THE INPUT: true; the input reads as it did. -/
def traceSuffixSpec : ChangeSpec := { name := "traceSuffix", fn := fun _ => fun
  | [d1, d2, d3, d4, d5, d6] => { results := [.lit (.bool true)], args := [d1, d2, d3, d4, d5, d6] }
  | _ => none }
def traceSuffixRow : OpenClaim := { program := "ytjflngchbeegcaadoor", sum := "837bdd7372b235b19b8e1b6edbe54082b906f39cb2759cd6c34dae2810139479", func := "lyceum/lyceumlaw13.TraceSuffix", spec := "traceSuffix", unfollowed := true, recurses := true, named := ["lyceum/syntax.rows"], apart := false, laid := [("lyceum/syntax.rows", laid_lyceum_syntax_rows)] }
def TraceSuffixSaid : Prop := traceSuffixRow.holds Tryd.pinned (OpenSpec.ofChange traceSuffixSpec)

/-- ITS FALSE NEIGHBOUR: 'it returns false'. Refute it at one input. -/
def traceSuffixWrong : ChangeSpec := { name := "traceSuffix", fn := fun _ => fun
  | [d1, d2, d3, d4, d5, d6] => { results := [.lit (.bool false)], args := [d1, d2, d3, d4, d5, d6] }
  | _ => none }
def TraceSuffixWrongFalsely : Prop := traceSuffixRow.holds Tryd.pinned (OpenSpec.ofChange traceSuffixWrong)

/-- 'lyceumlaw13.TraceOrder': WHATEVER THE INPUT: true; the input reads as it did. -/
def traceOrderSpec : ChangeSpec := { name := "traceOrder", fn := fun _ => fun
  | [d1, d2, d3, d4] => { results := [.lit (.bool true)], args := [d1, d2, d3, d4] }
  | _ => none }
def traceOrderRow : OpenClaim := { program := "ytjflngchbeegcaadoor", sum := "837bdd7372b235b19b8e1b6edbe54082b906f39cb2759cd6c34dae2810139479", func := "lyceum/lyceumlaw13.TraceOrder", spec := "traceOrder", unfollowed := true, recurses := true, named := ["lyceum/syntax.rows"], apart := false, laid := [("lyceum/syntax.rows", laid_lyceum_syntax_rows)] }
def TraceOrderSaid : Prop := traceOrderRow.holds Tryd.pinned (OpenSpec.ofChange traceOrderSpec)

/-- ITS FALSE NEIGHBOUR: 'it returns false'. Refute it at one input. -/
def traceOrderWrong : ChangeSpec := { name := "traceOrder", fn := fun _ => fun
  | [d1, d2, d3, d4] => { results := [.lit (.bool false)], args := [d1, d2, d3, d4] }
  | _ => none }
def TraceOrderWrongFalsely : Prop := traceOrderRow.holds Tryd.pinned (OpenSpec.ofChange traceOrderWrong)

/-- 'lyceumlaw13.TraceWrong': WHATEVER THE INPUT: true; the input reads as it did. -/
def traceWrongSpec : ChangeSpec := { name := "traceWrong", fn := fun _ => fun
  | [d1, d2, d3, d4, d5, d6] => { results := [.lit (.bool true)], args := [d1, d2, d3, d4, d5, d6] }
  | _ => none }
def traceWrongRow : OpenClaim := { program := "ytjflngchbeegcaadoor", sum := "837bdd7372b235b19b8e1b6edbe54082b906f39cb2759cd6c34dae2810139479", func := "lyceum/lyceumlaw13.TraceWrong", spec := "traceWrong", unfollowed := true, recurses := true, named := ["lyceum/syntax.rows"], apart := false, laid := [("lyceum/syntax.rows", laid_lyceum_syntax_rows)] }
def TraceWrongSaid : Prop := traceWrongRow.holds Tryd.pinned (OpenSpec.ofChange traceWrongSpec)

/-- ITS FALSE NEIGHBOUR: 'it returns false'. Refute it at one input. -/
def traceWrongWrong : ChangeSpec := { name := "traceWrong", fn := fun _ => fun
  | [d1, d2, d3, d4, d5, d6] => { results := [.lit (.bool false)], args := [d1, d2, d3, d4, d5, d6] }
  | _ => none }
def TraceWrongWrongFalsely : Prop := traceWrongRow.holds Tryd.pinned (OpenSpec.ofChange traceWrongWrong)

/- THE SECOND FORM. 'bulk': how many values and letters a reading holds, each counted each time it is reached (what is shared counts as often as it is met; a slice's spare places count too). A statement '..UptoSaid' is the law's where the arguments, and the package variables that the reading takes, are together of bulk at most 1048576: NARROWER than '..Said'. Prove '..Said' where nothing that the law and all that it calls make is longer than what came in: it says more and counts as full. Else prove '..UptoSaid'. A law counts once. -/
mutual
def uptoBulk {H : Type} : DataW H → Nat
  | .lit (.string bytes) => bytes.length + 1
  | .lit _ => 1
  | .nil => 1
  | .ptr d => uptoBulk d + 1
  | .slice elems spare => uptoBulkAll elems + uptoBulkAll spare + 1
  | .agg parts => uptoBulkAll parts + 1
  | .iface _ d => uptoBulk d + 1
  | .map entries => uptoBulkEntries entries + 1
  | .held _ => 1
def uptoBulkAll {H : Type} : List (DataW H) → Nat
  | [] => 0
  | d :: r => uptoBulk d + uptoBulkAll r
def uptoBulkEntries {H : Type} : List (Lit × DataW H) → Nat
  | [] => 0
  | x :: r => uptoBulkEntry x + uptoBulkEntries r
def uptoBulkEntry {H : Type} : Lit × DataW H → Nat
  | (.string bytes, d) => bytes.length + uptoBulk d + 1
  | (_, d) => uptoBulk d + 1
 end
def uptoSmall : (H : Type) → List (DataW H) → Bool := fun _ ds => decide (uptoBulkAll ds ≤ 1048576)
def OpenSpec.upto (s : _root_.Go.ChangeSpec) : _root_.Go.OpenSpec := { _root_.Go.OpenSpec.ofChange s with cond := some uptoSmall }

/-- 'lyceumlaw13.TraceShort', WHERE WHAT IT READS IS OF BULK AT MOST 1048576: true; the input reads as it did. -/
def traceShortUptoRow : OpenClaim := { program := "ytjflngchbeegcaadoor", sum := "837bdd7372b235b19b8e1b6edbe54082b906f39cb2759cd6c34dae2810139479", func := "lyceum/lyceumlaw13.TraceShort", spec := "traceShort", unfollowed := true, recurses := true, named := ["lyceum/syntax.rows"], apart := false, laid := [("lyceum/syntax.rows", laid_lyceum_syntax_rows)], narrowed := true }
def TraceShortUptoSaid : Prop := traceShortUptoRow.holds Tryd.pinned (OpenSpec.upto traceShortSpec)

/-- 'lyceumlaw13.TraceLeast', WHERE WHAT IT READS IS OF BULK AT MOST 1048576: true; the input reads as it did. -/
def traceLeastUptoRow : OpenClaim := { program := "ytjflngchbeegcaadoor", sum := "837bdd7372b235b19b8e1b6edbe54082b906f39cb2759cd6c34dae2810139479", func := "lyceum/lyceumlaw13.TraceLeast", spec := "traceLeast", unfollowed := true, recurses := true, named := ["lyceum/syntax.rows"], apart := false, laid := [("lyceum/syntax.rows", laid_lyceum_syntax_rows)], narrowed := true }
def TraceLeastUptoSaid : Prop := traceLeastUptoRow.holds Tryd.pinned (OpenSpec.upto traceLeastSpec)

/-- 'lyceumlaw13.TraceLaws', WHERE WHAT IT READS IS OF BULK AT MOST 1048576: true; the input reads as it did. -/
def traceLawsUptoRow : OpenClaim := { program := "ytjflngchbeegcaadoor", sum := "837bdd7372b235b19b8e1b6edbe54082b906f39cb2759cd6c34dae2810139479", func := "lyceum/lyceumlaw13.TraceLaws", spec := "traceLaws", unfollowed := true, recurses := true, named := ["lyceum/syntax.rows"], apart := false, laid := [("lyceum/syntax.rows", laid_lyceum_syntax_rows)], narrowed := true }
def TraceLawsUptoSaid : Prop := traceLawsUptoRow.holds Tryd.pinned (OpenSpec.upto traceLawsSpec)

/-- 'lyceumlaw13.TraceSuffix', WHERE WHAT IT READS IS OF BULK AT MOST 1048576: true; the input reads as it did. -/
def traceSuffixUptoRow : OpenClaim := { program := "ytjflngchbeegcaadoor", sum := "837bdd7372b235b19b8e1b6edbe54082b906f39cb2759cd6c34dae2810139479", func := "lyceum/lyceumlaw13.TraceSuffix", spec := "traceSuffix", unfollowed := true, recurses := true, named := ["lyceum/syntax.rows"], apart := false, laid := [("lyceum/syntax.rows", laid_lyceum_syntax_rows)], narrowed := true }
def TraceSuffixUptoSaid : Prop := traceSuffixUptoRow.holds Tryd.pinned (OpenSpec.upto traceSuffixSpec)

/-- 'lyceumlaw13.TraceOrder', WHERE WHAT IT READS IS OF BULK AT MOST 1048576: true; the input reads as it did. -/
def traceOrderUptoRow : OpenClaim := { program := "ytjflngchbeegcaadoor", sum := "837bdd7372b235b19b8e1b6edbe54082b906f39cb2759cd6c34dae2810139479", func := "lyceum/lyceumlaw13.TraceOrder", spec := "traceOrder", unfollowed := true, recurses := true, named := ["lyceum/syntax.rows"], apart := false, laid := [("lyceum/syntax.rows", laid_lyceum_syntax_rows)], narrowed := true }
def TraceOrderUptoSaid : Prop := traceOrderUptoRow.holds Tryd.pinned (OpenSpec.upto traceOrderSpec)

/-- 'lyceumlaw13.TraceWrong', WHERE WHAT IT READS IS OF BULK AT MOST 1048576: true; the input reads as it did. -/
def traceWrongUptoRow : OpenClaim := { program := "ytjflngchbeegcaadoor", sum := "837bdd7372b235b19b8e1b6edbe54082b906f39cb2759cd6c34dae2810139479", func := "lyceum/lyceumlaw13.TraceWrong", spec := "traceWrong", unfollowed := true, recurses := true, named := ["lyceum/syntax.rows"], apart := false, laid := [("lyceum/syntax.rows", laid_lyceum_syntax_rows)], narrowed := true }
def TraceWrongUptoSaid : Prop := traceWrongUptoRow.holds Tryd.pinned (OpenSpec.upto traceWrongSpec)

end Rows
end Go.Proofs.YtjflngchbeegcaaDoor
