/-
  NARROWER THAN 'FOR EVERY INPUT', by the rows' own cells (each row's printed sentence says how): FiniteProps: laid · FiniteRenames: laid · FiniteLists: loops, laid · FiniteInstances: laid · FiniteOrder: laid · FiniteSymbols: laid · FiniteTells: loops, laid · FiniteMoves: laid · FiniteWrong: laid.
  DERIVED. THE GIVEN ROWS OF THIS SEAT. 9 by the template 'for every input the law returns true; each argument reads behind the call as it read before'; 0 by the template 'total and deterministic' (their statements: YtgdmldelijeaoaaGreatDoorTotals.lean).
  GIVEN WITH THE SEED: the statements are not yours to turn. If you find one false, say at which input.
  Laid BY PROGRAM, IN A SANDBOX (cutbox-rows.mjs): the forced cells as the released guide's own fill.sh prints them over the translation 305cf71b1b490212… (all of the seat's roots in one cut). By AI agents, Wed Nov 11 2026. No macro, syntax, notation, axiom, sorry.
-/
import Derived.Test.YtgdmldelijeaoaaGreatDoorChecked
import GoSem.Claim
import GoSem.ClaimJoined
import GoSem.ClaimMapViews
import Derived.JoinedTies
import Derived.KernelRfl
namespace Go.Proofs.YtgdmldelijeaoaaGreatDoor
/- THE CELL 'sum', in the pinned program and in every row, IS THE sha256 OF THE DUMP (.gsa) THAT YtgdmldelijeaoaaGreatDoorProg.lean LOADS. Nothing in Lean hashes anything: it is a label: what it is worth is what the hold of that sum in a sandbox is worth. -/
noncomputable def Tryz.pinned : Pinned := { name := "ytgdmldelijeaoaagreatdoor", sum := "305cf71b1b49021257415a6d2a63bbccb0d349d7440fe3578fd2967487d76cb9", checked := Tryz.checked }
namespace Rows
def none {H : Type} : Left H := { results := [], args := [] }

/- WHAT THE LISTED PACKAGE-LEVEL VARIABLES READ AS WHEN THE CALL BEGINS. Each datum BY PROGRAM (the guide's laid-datum.mjs) off the statement by which the dump's own 'gosem.cut.vars' lays the variable. In a bare row this is a premise. The card (YtgdmldelijeaoaaGreatDoorCards.lean) ties it to the program's text. -/
def laid_lyceum_syntax_rows {H : Type} : DataW H := .agg [.agg [.lit (.bool false), .lit (.bool false), .lit (.int .u8 0), .lit (.int .i64 0), .lit (.int .i64 0)], .agg [.lit (.bool true), .lit (.bool true), .lit (.int .u8 1), .lit (.int .i64 4), .lit (.int .i64 0)], .agg [.lit (.bool true), .lit (.bool true), .lit (.int .u8 0), .lit (.int .i64 0), .lit (.int .i64 0)], .agg [.lit (.bool true), .lit (.bool true), .lit (.int .u8 0), .lit (.int .i64 0), .lit (.int .i64 1)], .agg [.lit (.bool true), .lit (.bool true), .lit (.int .u8 0), .lit (.int .i64 0), .lit (.int .i64 2)], .agg [.lit (.bool true), .lit (.bool true), .lit (.int .u8 0), .lit (.int .i64 0), .lit (.int .i64 2)], .agg [.lit (.bool true), .lit (.bool true), .lit (.int .u8 0), .lit (.int .i64 0), .lit (.int .i64 2)], .agg [.lit (.bool true), .lit (.bool true), .lit (.int .u8 0), .lit (.int .i64 0), .lit (.int .i64 2)], .agg [.lit (.bool true), .lit (.bool true), .lit (.int .u8 2), .lit (.int .i64 0), .lit (.int .i64 1)], .agg [.lit (.bool true), .lit (.bool true), .lit (.int .u8 2), .lit (.int .i64 0), .lit (.int .i64 1)], .agg [.lit (.bool true), .lit (.bool true), .lit (.int .u8 0), .lit (.int .i64 0), .lit (.int .i64 1)], .agg [.lit (.bool true), .lit (.bool true), .lit (.int .u8 0), .lit (.int .i64 0), .lit (.int .i64 1)], .agg [.lit (.bool true), .lit (.bool true), .lit (.int .u8 0), .lit (.int .i64 0), .lit (.int .i64 1)], .agg [.lit (.bool true), .lit (.bool true), .lit (.int .u8 0), .lit (.int .i64 0), .lit (.int .i64 1)], .agg [.lit (.bool true), .lit (.bool true), .lit (.int .u8 0), .lit (.int .i64 0), .lit (.int .i64 2)], .agg [.lit (.bool false), .lit (.bool true), .lit (.int .u8 3), .lit (.int .i64 0), .lit (.int .i64 0)], .agg [.lit (.bool false), .lit (.bool true), .lit (.int .u8 3), .lit (.int .i64 2), .lit (.int .i64 0)]]
def laid_lyceum_truth_patterns {H : Type} : DataW H := .agg [.lit (.int .u64 12297829382473034410), .lit (.int .u64 14757395258967641292), .lit (.int .u64 17361641481138401520), .lit (.int .u64 18374966859414961920), .lit (.int .u64 18446462603027742720), .lit (.int .u64 18446744069414584320)]

/-- 'lyceumlaw11.FiniteProps': WHATEVER THE INPUT: true; the input reads as it did. -/
def finitePropsSpec : ChangeSpec := { name := "finiteProps", fn := fun _ => fun
  | [d1, d2, d3] => { results := [.lit (.bool true)], args := [d1, d2, d3] }
  | _ => none }
def finitePropsRow : OpenClaim := { program := "ytgdmldelijeaoaagreatdoor", sum := "305cf71b1b49021257415a6d2a63bbccb0d349d7440fe3578fd2967487d76cb9", func := "lyceum/lyceumlaw11.FiniteProps", spec := "finiteProps", inPlace := ["internal/bytealg.abigen_runtime_cmpstring"], unfollowed := true, recurses := true, named := ["lyceum/syntax.rows", "lyceum/truth.patterns"], plainKeys := false, apart := false, laid := [("lyceum/syntax.rows", laid_lyceum_syntax_rows), ("lyceum/truth.patterns", laid_lyceum_truth_patterns)] }
def FinitePropsSaid : Prop := finitePropsRow.holds Tryz.pinned (OpenSpec.ofChange finitePropsSpec)

/-- ITS FALSE NEIGHBOUR: 'it returns false'. Refute it at one input. -/
def finitePropsWrong : ChangeSpec := { name := "finiteProps", fn := fun _ => fun
  | [d1, d2, d3] => { results := [.lit (.bool false)], args := [d1, d2, d3] }
  | _ => none }
def FinitePropsWrongFalsely : Prop := finitePropsRow.holds Tryz.pinned (OpenSpec.ofChange finitePropsWrong)

/-- 'lyceumlaw11.FiniteRenames': WHATEVER THE INPUT: true; the input reads as it did. -/
def finiteRenamesSpec : ChangeSpec := { name := "finiteRenames", fn := fun _ => fun
  | [d1, d2, d3, d4, d5] => { results := [.lit (.bool true)], args := [d1, d2, d3, d4, d5] }
  | _ => none }
def finiteRenamesRow : OpenClaim := { program := "ytgdmldelijeaoaagreatdoor", sum := "305cf71b1b49021257415a6d2a63bbccb0d349d7440fe3578fd2967487d76cb9", func := "lyceum/lyceumlaw11.FiniteRenames", spec := "finiteRenames", inPlace := ["internal/bytealg.abigen_runtime_cmpstring"], unfollowed := true, recurses := true, named := ["lyceum/syntax.rows"], plainKeys := false, apart := false, laid := [("lyceum/syntax.rows", laid_lyceum_syntax_rows)] }
def FiniteRenamesSaid : Prop := finiteRenamesRow.holds Tryz.pinned (OpenSpec.ofChange finiteRenamesSpec)

/-- ITS FALSE NEIGHBOUR: 'it returns false'. Refute it at one input. -/
def finiteRenamesWrong : ChangeSpec := { name := "finiteRenames", fn := fun _ => fun
  | [d1, d2, d3, d4, d5] => { results := [.lit (.bool false)], args := [d1, d2, d3, d4, d5] }
  | _ => none }
def FiniteRenamesWrongFalsely : Prop := finiteRenamesRow.holds Tryz.pinned (OpenSpec.ofChange finiteRenamesWrong)

/-- 'lyceumlaw11.FiniteLists': WHATEVER THE INPUT: true; the input reads as it did. -/
def finiteListsSpec : ChangeSpec := { name := "finiteLists", fn := fun _ => fun
  | [d1, d2, d3, d4, d5, d6] => { results := [.lit (.bool true)], args := [d1, d2, d3, d4, d5, d6] }
  | _ => none }
def finiteListsRow : OpenClaim := { program := "ytgdmldelijeaoaagreatdoor", sum := "305cf71b1b49021257415a6d2a63bbccb0d349d7440fe3578fd2967487d76cb9", func := "lyceum/lyceumlaw11.FiniteLists", spec := "finiteLists", inPlace := ["internal/bytealg.abigen_runtime_cmpstring"], unfollowed := true, recurses := true, named := ["lyceum/syntax.rows"], loops := true, plainKeys := false, apart := false, laid := [("lyceum/syntax.rows", laid_lyceum_syntax_rows)] }
def FiniteListsSaid : Prop := finiteListsRow.holds Tryz.pinned (OpenSpec.ofChange finiteListsSpec)

/-- ITS FALSE NEIGHBOUR: 'it returns false'. Refute it at one input. -/
def finiteListsWrong : ChangeSpec := { name := "finiteLists", fn := fun _ => fun
  | [d1, d2, d3, d4, d5, d6] => { results := [.lit (.bool false)], args := [d1, d2, d3, d4, d5, d6] }
  | _ => none }
def FiniteListsWrongFalsely : Prop := finiteListsRow.holds Tryz.pinned (OpenSpec.ofChange finiteListsWrong)

/-- 'lyceumlaw11.FiniteInstances': WHATEVER THE INPUT: true; the input reads as it did. -/
def finiteInstancesSpec : ChangeSpec := { name := "finiteInstances", fn := fun _ => fun
  | [d1, d2, d3, d4] => { results := [.lit (.bool true)], args := [d1, d2, d3, d4] }
  | _ => none }
def finiteInstancesRow : OpenClaim := { program := "ytgdmldelijeaoaagreatdoor", sum := "305cf71b1b49021257415a6d2a63bbccb0d349d7440fe3578fd2967487d76cb9", func := "lyceum/lyceumlaw11.FiniteInstances", spec := "finiteInstances", inPlace := ["internal/bytealg.abigen_runtime_cmpstring"], unfollowed := true, recurses := true, named := ["lyceum/syntax.rows"], plainKeys := false, apart := false, laid := [("lyceum/syntax.rows", laid_lyceum_syntax_rows)] }
def FiniteInstancesSaid : Prop := finiteInstancesRow.holds Tryz.pinned (OpenSpec.ofChange finiteInstancesSpec)

/-- ITS FALSE NEIGHBOUR: 'it returns false'. Refute it at one input. -/
def finiteInstancesWrong : ChangeSpec := { name := "finiteInstances", fn := fun _ => fun
  | [d1, d2, d3, d4] => { results := [.lit (.bool false)], args := [d1, d2, d3, d4] }
  | _ => none }
def FiniteInstancesWrongFalsely : Prop := finiteInstancesRow.holds Tryz.pinned (OpenSpec.ofChange finiteInstancesWrong)

/-- 'lyceumlaw11.FiniteOrder': WHATEVER THE INPUT: true; the input reads as it did. -/
def finiteOrderSpec : ChangeSpec := { name := "finiteOrder", fn := fun _ => fun
  | [d1, d2, d3, d4] => { results := [.lit (.bool true)], args := [d1, d2, d3, d4] }
  | _ => none }
def finiteOrderRow : OpenClaim := { program := "ytgdmldelijeaoaagreatdoor", sum := "305cf71b1b49021257415a6d2a63bbccb0d349d7440fe3578fd2967487d76cb9", func := "lyceum/lyceumlaw11.FiniteOrder", spec := "finiteOrder", inPlace := ["internal/bytealg.abigen_runtime_cmpstring"], unfollowed := true, recurses := true, named := ["lyceum/syntax.rows"], plainKeys := false, apart := false, laid := [("lyceum/syntax.rows", laid_lyceum_syntax_rows)] }
def FiniteOrderSaid : Prop := finiteOrderRow.holds Tryz.pinned (OpenSpec.ofChange finiteOrderSpec)

/-- ITS FALSE NEIGHBOUR: 'it returns false'. Refute it at one input. -/
def finiteOrderWrong : ChangeSpec := { name := "finiteOrder", fn := fun _ => fun
  | [d1, d2, d3, d4] => { results := [.lit (.bool false)], args := [d1, d2, d3, d4] }
  | _ => none }
def FiniteOrderWrongFalsely : Prop := finiteOrderRow.holds Tryz.pinned (OpenSpec.ofChange finiteOrderWrong)

/-- 'lyceumlaw11.FiniteSymbols': WHATEVER THE INPUT: true; the input reads as it did. -/
def finiteSymbolsSpec : ChangeSpec := { name := "finiteSymbols", fn := fun _ => fun
  | [d1, d2, d3, d4] => { results := [.lit (.bool true)], args := [d1, d2, d3, d4] }
  | _ => none }
def finiteSymbolsRow : OpenClaim := { program := "ytgdmldelijeaoaagreatdoor", sum := "305cf71b1b49021257415a6d2a63bbccb0d349d7440fe3578fd2967487d76cb9", func := "lyceum/lyceumlaw11.FiniteSymbols", spec := "finiteSymbols", inPlace := ["internal/bytealg.abigen_runtime_cmpstring"], unfollowed := true, recurses := true, named := ["lyceum/syntax.rows"], plainKeys := false, apart := false, laid := [("lyceum/syntax.rows", laid_lyceum_syntax_rows)] }
def FiniteSymbolsSaid : Prop := finiteSymbolsRow.holds Tryz.pinned (OpenSpec.ofChange finiteSymbolsSpec)

/-- ITS FALSE NEIGHBOUR: 'it returns false'. Refute it at one input. -/
def finiteSymbolsWrong : ChangeSpec := { name := "finiteSymbols", fn := fun _ => fun
  | [d1, d2, d3, d4] => { results := [.lit (.bool false)], args := [d1, d2, d3, d4] }
  | _ => none }
def FiniteSymbolsWrongFalsely : Prop := finiteSymbolsRow.holds Tryz.pinned (OpenSpec.ofChange finiteSymbolsWrong)

/-- 'lyceumlaw11.FiniteTells': WHATEVER THE INPUT: true; the input reads as it did. -/
def finiteTellsSpec : ChangeSpec := { name := "finiteTells", fn := fun _ => fun
  | [d1, d2, d3] => { results := [.lit (.bool true)], args := [d1, d2, d3] }
  | _ => none }
def finiteTellsRow : OpenClaim := { program := "ytgdmldelijeaoaagreatdoor", sum := "305cf71b1b49021257415a6d2a63bbccb0d349d7440fe3578fd2967487d76cb9", func := "lyceum/lyceumlaw11.FiniteTells", spec := "finiteTells", inPlace := ["internal/bytealg.abigen_runtime_cmpstring"], unfollowed := true, recurses := true, named := ["lyceum/syntax.rows"], loops := true, plainKeys := false, apart := false, laid := [("lyceum/syntax.rows", laid_lyceum_syntax_rows)] }
def FiniteTellsSaid : Prop := finiteTellsRow.holds Tryz.pinned (OpenSpec.ofChange finiteTellsSpec)

/-- ITS FALSE NEIGHBOUR: 'it returns false'. Refute it at one input. -/
def finiteTellsWrong : ChangeSpec := { name := "finiteTells", fn := fun _ => fun
  | [d1, d2, d3] => { results := [.lit (.bool false)], args := [d1, d2, d3] }
  | _ => none }
def FiniteTellsWrongFalsely : Prop := finiteTellsRow.holds Tryz.pinned (OpenSpec.ofChange finiteTellsWrong)

/-- 'lyceumlaw11.FiniteMoves': WHATEVER THE INPUT: true; the input reads as it did. -/
def finiteMovesSpec : ChangeSpec := { name := "finiteMoves", fn := fun _ => fun
  | [d1, d2, d3, d4, d5] => { results := [.lit (.bool true)], args := [d1, d2, d3, d4, d5] }
  | _ => none }
def finiteMovesRow : OpenClaim := { program := "ytgdmldelijeaoaagreatdoor", sum := "305cf71b1b49021257415a6d2a63bbccb0d349d7440fe3578fd2967487d76cb9", func := "lyceum/lyceumlaw11.FiniteMoves", spec := "finiteMoves", inPlace := ["internal/bytealg.abigen_runtime_cmpstring"], unfollowed := true, recurses := true, named := ["lyceum/syntax.rows"], plainKeys := false, apart := false, laid := [("lyceum/syntax.rows", laid_lyceum_syntax_rows)] }
def FiniteMovesSaid : Prop := finiteMovesRow.holds Tryz.pinned (OpenSpec.ofChange finiteMovesSpec)

/-- ITS FALSE NEIGHBOUR: 'it returns false'. Refute it at one input. -/
def finiteMovesWrong : ChangeSpec := { name := "finiteMoves", fn := fun _ => fun
  | [d1, d2, d3, d4, d5] => { results := [.lit (.bool false)], args := [d1, d2, d3, d4, d5] }
  | _ => none }
def FiniteMovesWrongFalsely : Prop := finiteMovesRow.holds Tryz.pinned (OpenSpec.ofChange finiteMovesWrong)

/-- 'lyceumlaw11.FiniteWrong': WHATEVER THE INPUT: true; the input reads as it did. -/
def finiteWrongSpec : ChangeSpec := { name := "finiteWrong", fn := fun _ => fun
  | [d1, d2, d3, d4, d5] => { results := [.lit (.bool true)], args := [d1, d2, d3, d4, d5] }
  | _ => none }
def finiteWrongRow : OpenClaim := { program := "ytgdmldelijeaoaagreatdoor", sum := "305cf71b1b49021257415a6d2a63bbccb0d349d7440fe3578fd2967487d76cb9", func := "lyceum/lyceumlaw11.FiniteWrong", spec := "finiteWrong", inPlace := ["internal/bytealg.abigen_runtime_cmpstring"], unfollowed := true, recurses := true, named := ["lyceum/syntax.rows"], plainKeys := false, apart := false, laid := [("lyceum/syntax.rows", laid_lyceum_syntax_rows)] }
def FiniteWrongSaid : Prop := finiteWrongRow.holds Tryz.pinned (OpenSpec.ofChange finiteWrongSpec)

/-- ITS FALSE NEIGHBOUR: 'it returns false'. Refute it at one input. -/
def finiteWrongWrong : ChangeSpec := { name := "finiteWrong", fn := fun _ => fun
  | [d1, d2, d3, d4, d5] => { results := [.lit (.bool false)], args := [d1, d2, d3, d4, d5] }
  | _ => none }
def FiniteWrongWrongFalsely : Prop := finiteWrongRow.holds Tryz.pinned (OpenSpec.ofChange finiteWrongWrong)

/- THE SECOND FORM. 'bulk': how many values and letters a reading holds, each counted each time it is reached (what is shared counts as often as it is met; a slice's spare places count too). A statement '..UptoSaid' is the law's where the arguments, and the package variables that the reading takes, are together of bulk at most 1048576: NARROWER than '..Said'. Prove '..Said' where nothing that the law and all that it calls make is longer than what came in: it says more and counts as full. Else prove '..UptoSaid'. A law counts once. -/
mutual
def uptoBulk {H : Type} : DataW H → Nat
  | .lit (.string bytes) => bytes.length + 1
  | .lit _ => 1
  | .nil => 1
  | .ptr d => uptoBulk d + 1
  | .slice elems spare => uptoBulkAll elems + uptoBulkAll spare + 1
  | .agg parts => uptoBulkAll parts + 1
  | .iface _ d => uptoBulk d + 1
  | .map entries => uptoBulkEntries entries + 1
  | .held _ => 1
def uptoBulkAll {H : Type} : List (DataW H) → Nat
  | [] => 0
  | d :: r => uptoBulk d + uptoBulkAll r
def uptoBulkEntries {H : Type} : List (Lit × DataW H) → Nat
  | [] => 0
  | x :: r => uptoBulkEntry x + uptoBulkEntries r
def uptoBulkEntry {H : Type} : Lit × DataW H → Nat
  | (.string bytes, d) => bytes.length + uptoBulk d + 1
  | (_, d) => uptoBulk d + 1
 end
def uptoSmall : (H : Type) → List (DataW H) → Bool := fun _ ds => decide (uptoBulkAll ds ≤ 1048576)
def OpenSpec.upto (s : _root_.Go.ChangeSpec) : _root_.Go.OpenSpec := { _root_.Go.OpenSpec.ofChange s with cond := some uptoSmall }

/-- 'lyceumlaw11.FiniteProps', WHERE WHAT IT READS IS OF BULK AT MOST 1048576: true; the input reads as it did. -/
def finitePropsUptoRow : OpenClaim := { program := "ytgdmldelijeaoaagreatdoor", sum := "305cf71b1b49021257415a6d2a63bbccb0d349d7440fe3578fd2967487d76cb9", func := "lyceum/lyceumlaw11.FiniteProps", spec := "finiteProps", inPlace := ["internal/bytealg.abigen_runtime_cmpstring"], unfollowed := true, recurses := true, named := ["lyceum/syntax.rows", "lyceum/truth.patterns"], plainKeys := false, apart := false, laid := [("lyceum/syntax.rows", laid_lyceum_syntax_rows), ("lyceum/truth.patterns", laid_lyceum_truth_patterns)], narrowed := true }
def FinitePropsUptoSaid : Prop := finitePropsUptoRow.holds Tryz.pinned (OpenSpec.upto finitePropsSpec)

/-- 'lyceumlaw11.FiniteRenames', WHERE WHAT IT READS IS OF BULK AT MOST 1048576: true; the input reads as it did. -/
def finiteRenamesUptoRow : OpenClaim := { program := "ytgdmldelijeaoaagreatdoor", sum := "305cf71b1b49021257415a6d2a63bbccb0d349d7440fe3578fd2967487d76cb9", func := "lyceum/lyceumlaw11.FiniteRenames", spec := "finiteRenames", inPlace := ["internal/bytealg.abigen_runtime_cmpstring"], unfollowed := true, recurses := true, named := ["lyceum/syntax.rows"], plainKeys := false, apart := false, laid := [("lyceum/syntax.rows", laid_lyceum_syntax_rows)], narrowed := true }
def FiniteRenamesUptoSaid : Prop := finiteRenamesUptoRow.holds Tryz.pinned (OpenSpec.upto finiteRenamesSpec)

/-- 'lyceumlaw11.FiniteLists', WHERE WHAT IT READS IS OF BULK AT MOST 1048576: true; the input reads as it did. -/
def finiteListsUptoRow : OpenClaim := { program := "ytgdmldelijeaoaagreatdoor", sum := "305cf71b1b49021257415a6d2a63bbccb0d349d7440fe3578fd2967487d76cb9", func := "lyceum/lyceumlaw11.FiniteLists", spec := "finiteLists", inPlace := ["internal/bytealg.abigen_runtime_cmpstring"], unfollowed := true, recurses := true, named := ["lyceum/syntax.rows"], loops := true, plainKeys := false, apart := false, laid := [("lyceum/syntax.rows", laid_lyceum_syntax_rows)], narrowed := true }
def FiniteListsUptoSaid : Prop := finiteListsUptoRow.holds Tryz.pinned (OpenSpec.upto finiteListsSpec)

/-- 'lyceumlaw11.FiniteInstances', WHERE WHAT IT READS IS OF BULK AT MOST 1048576: true; the input reads as it did. -/
def finiteInstancesUptoRow : OpenClaim := { program := "ytgdmldelijeaoaagreatdoor", sum := "305cf71b1b49021257415a6d2a63bbccb0d349d7440fe3578fd2967487d76cb9", func := "lyceum/lyceumlaw11.FiniteInstances", spec := "finiteInstances", inPlace := ["internal/bytealg.abigen_runtime_cmpstring"], unfollowed := true, recurses := true, named := ["lyceum/syntax.rows"], plainKeys := false, apart := false, laid := [("lyceum/syntax.rows", laid_lyceum_syntax_rows)], narrowed := true }
def FiniteInstancesUptoSaid : Prop := finiteInstancesUptoRow.holds Tryz.pinned (OpenSpec.upto finiteInstancesSpec)

/-- 'lyceumlaw11.FiniteOrder', WHERE WHAT IT READS IS OF BULK AT MOST 1048576: true; the input reads as it did. -/
def finiteOrderUptoRow : OpenClaim := { program := "ytgdmldelijeaoaagreatdoor", sum := "305cf71b1b49021257415a6d2a63bbccb0d349d7440fe3578fd2967487d76cb9", func := "lyceum/lyceumlaw11.FiniteOrder", spec := "finiteOrder", inPlace := ["internal/bytealg.abigen_runtime_cmpstring"], unfollowed := true, recurses := true, named := ["lyceum/syntax.rows"], plainKeys := false, apart := false, laid := [("lyceum/syntax.rows", laid_lyceum_syntax_rows)], narrowed := true }
def FiniteOrderUptoSaid : Prop := finiteOrderUptoRow.holds Tryz.pinned (OpenSpec.upto finiteOrderSpec)

/-- 'lyceumlaw11.FiniteSymbols', WHERE WHAT IT READS IS OF BULK AT MOST 1048576: true; the input reads as it did. -/
def finiteSymbolsUptoRow : OpenClaim := { program := "ytgdmldelijeaoaagreatdoor", sum := "305cf71b1b49021257415a6d2a63bbccb0d349d7440fe3578fd2967487d76cb9", func := "lyceum/lyceumlaw11.FiniteSymbols", spec := "finiteSymbols", inPlace := ["internal/bytealg.abigen_runtime_cmpstring"], unfollowed := true, recurses := true, named := ["lyceum/syntax.rows"], plainKeys := false, apart := false, laid := [("lyceum/syntax.rows", laid_lyceum_syntax_rows)], narrowed := true }
def FiniteSymbolsUptoSaid : Prop := finiteSymbolsUptoRow.holds Tryz.pinned (OpenSpec.upto finiteSymbolsSpec)

/-- 'lyceumlaw11.FiniteTells', WHERE WHAT IT READS IS OF BULK AT MOST 1048576: true; the input reads as it did. -/
def finiteTellsUptoRow : OpenClaim := { program := "ytgdmldelijeaoaagreatdoor", sum := "305cf71b1b49021257415a6d2a63bbccb0d349d7440fe3578fd2967487d76cb9", func := "lyceum/lyceumlaw11.FiniteTells", spec := "finiteTells", inPlace := ["internal/bytealg.abigen_runtime_cmpstring"], unfollowed := true, recurses := true, named := ["lyceum/syntax.rows"], loops := true, plainKeys := false, apart := false, laid := [("lyceum/syntax.rows", laid_lyceum_syntax_rows)], narrowed := true }
def FiniteTellsUptoSaid : Prop := finiteTellsUptoRow.holds Tryz.pinned (OpenSpec.upto finiteTellsSpec)

/-- 'lyceumlaw11.FiniteMoves', WHERE WHAT IT READS IS OF BULK AT MOST 1048576: true; the input reads as it did. -/
def finiteMovesUptoRow : OpenClaim := { program := "ytgdmldelijeaoaagreatdoor", sum := "305cf71b1b49021257415a6d2a63bbccb0d349d7440fe3578fd2967487d76cb9", func := "lyceum/lyceumlaw11.FiniteMoves", spec := "finiteMoves", inPlace := ["internal/bytealg.abigen_runtime_cmpstring"], unfollowed := true, recurses := true, named := ["lyceum/syntax.rows"], plainKeys := false, apart := false, laid := [("lyceum/syntax.rows", laid_lyceum_syntax_rows)], narrowed := true }
def FiniteMovesUptoSaid : Prop := finiteMovesUptoRow.holds Tryz.pinned (OpenSpec.upto finiteMovesSpec)

/-- 'lyceumlaw11.FiniteWrong', WHERE WHAT IT READS IS OF BULK AT MOST 1048576: true; the input reads as it did. -/
def finiteWrongUptoRow : OpenClaim := { program := "ytgdmldelijeaoaagreatdoor", sum := "305cf71b1b49021257415a6d2a63bbccb0d349d7440fe3578fd2967487d76cb9", func := "lyceum/lyceumlaw11.FiniteWrong", spec := "finiteWrong", inPlace := ["internal/bytealg.abigen_runtime_cmpstring"], unfollowed := true, recurses := true, named := ["lyceum/syntax.rows"], plainKeys := false, apart := false, laid := [("lyceum/syntax.rows", laid_lyceum_syntax_rows)], narrowed := true }
def FiniteWrongUptoSaid : Prop := finiteWrongUptoRow.holds Tryz.pinned (OpenSpec.upto finiteWrongSpec)

end Rows
end Go.Proofs.YtgdmldelijeaoaaGreatDoor
