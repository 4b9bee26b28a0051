/-
  NARROWER THAN 'FOR EVERY INPUT', by the rows' own cells (each row's printed sentence says how): FormOrder: loops, laid · FormReplaces: loops, laid · FormParts: loops, laid.
  DERIVED. THE GIVEN ROWS OF THIS SEAT. 3 by the template 'for every input the law returns true; each argument reads behind the call as it read before'; 0 by the template 'total and deterministic' (their statements: YtejegcmnddedmaaDoorTotals.lean).
  GIVEN WITH THE SEED: the statements are not yours to turn. If you find one false, say at which input.
  Laid BY PROGRAM, IN A SANDBOX (cutbox-rows.mjs): the forced cells as the released guide's own fill.sh prints them over the translation 281c503aa4892d14… (all of the seat's roots in one cut). By AI agents, Wed Nov 11 2026. No macro, syntax, notation, axiom, sorry.
-/
import Derived.Test.YtejegcmnddedmaaDoorChecked
import GoSem.Claim
import GoSem.ClaimJoined
import GoSem.ClaimMapViews
import Derived.JoinedTies
import Derived.KernelRfl
namespace Go.Proofs.YtejegcmnddedmaaDoor
/- THE CELL 'sum', in the pinned program and in every row, IS THE sha256 OF THE DUMP (.gsa) THAT YtejegcmnddedmaaDoorProg.lean LOADS. Nothing in Lean hashes anything: it is a label: what it is worth is what the hold of that sum in a sandbox is worth. -/
noncomputable def Tryd.pinned : Pinned := { name := "ytejegcmnddedmaadoor", sum := "281c503aa4892d14fb187aa3dc39eab76e4191125f23f1ade0d7dfbd577db77d", checked := Tryd.checked }
namespace Rows
def none {H : Type} : Left H := { results := [], args := [] }

/- WHAT THE LISTED PACKAGE-LEVEL VARIABLES READ AS WHEN THE CALL BEGINS. Each datum BY PROGRAM (the guide's laid-datum.mjs) off the statement by which the dump's own 'gosem.cut.vars' lays the variable. In a bare row this is a premise. The card (YtejegcmnddedmaaDoorCards.lean) ties it to the program's text. -/
def laid_lyceum_syntax_rows {H : Type} : DataW H := .agg [.agg [.lit (.bool false), .lit (.bool false), .lit (.int .u8 0), .lit (.int .i64 0), .lit (.int .i64 0)], .agg [.lit (.bool true), .lit (.bool true), .lit (.int .u8 1), .lit (.int .i64 4), .lit (.int .i64 0)], .agg [.lit (.bool true), .lit (.bool true), .lit (.int .u8 0), .lit (.int .i64 0), .lit (.int .i64 0)], .agg [.lit (.bool true), .lit (.bool true), .lit (.int .u8 0), .lit (.int .i64 0), .lit (.int .i64 1)], .agg [.lit (.bool true), .lit (.bool true), .lit (.int .u8 0), .lit (.int .i64 0), .lit (.int .i64 2)], .agg [.lit (.bool true), .lit (.bool true), .lit (.int .u8 0), .lit (.int .i64 0), .lit (.int .i64 2)], .agg [.lit (.bool true), .lit (.bool true), .lit (.int .u8 0), .lit (.int .i64 0), .lit (.int .i64 2)], .agg [.lit (.bool true), .lit (.bool true), .lit (.int .u8 0), .lit (.int .i64 0), .lit (.int .i64 2)], .agg [.lit (.bool true), .lit (.bool true), .lit (.int .u8 2), .lit (.int .i64 0), .lit (.int .i64 1)], .agg [.lit (.bool true), .lit (.bool true), .lit (.int .u8 2), .lit (.int .i64 0), .lit (.int .i64 1)], .agg [.lit (.bool true), .lit (.bool true), .lit (.int .u8 0), .lit (.int .i64 0), .lit (.int .i64 1)], .agg [.lit (.bool true), .lit (.bool true), .lit (.int .u8 0), .lit (.int .i64 0), .lit (.int .i64 1)], .agg [.lit (.bool true), .lit (.bool true), .lit (.int .u8 0), .lit (.int .i64 0), .lit (.int .i64 1)], .agg [.lit (.bool true), .lit (.bool true), .lit (.int .u8 0), .lit (.int .i64 0), .lit (.int .i64 1)], .agg [.lit (.bool true), .lit (.bool true), .lit (.int .u8 0), .lit (.int .i64 0), .lit (.int .i64 2)], .agg [.lit (.bool false), .lit (.bool true), .lit (.int .u8 3), .lit (.int .i64 0), .lit (.int .i64 0)], .agg [.lit (.bool false), .lit (.bool true), .lit (.int .u8 3), .lit (.int .i64 2), .lit (.int .i64 0)]]

/-- 'lyceumlaw02.FormOrder': WHATEVER THE INPUT: true; the input reads as it did. -/
def formOrderSpec : ChangeSpec := { name := "formOrder", fn := fun _ => fun
  | [d1, d2, d3] => { results := [.lit (.bool true)], args := [d1, d2, d3] }
  | _ => none }
def formOrderRow : OpenClaim := { program := "ytejegcmnddedmaadoor", sum := "281c503aa4892d14fb187aa3dc39eab76e4191125f23f1ade0d7dfbd577db77d", func := "lyceum/lyceumlaw02.FormOrder", spec := "formOrder", inPlace := ["internal/bytealg.abigen_runtime_cmpstring"], unfollowed := true, recurses := true, named := ["lyceum/syntax.rows"], loops := true, plainKeys := false, apart := false, laid := [("lyceum/syntax.rows", laid_lyceum_syntax_rows)] }
def FormOrderSaid : Prop := formOrderRow.holds Tryd.pinned (OpenSpec.ofChange formOrderSpec)

/-- ITS FALSE NEIGHBOUR: 'it returns false'. Refute it at one input. -/
def formOrderWrong : ChangeSpec := { name := "formOrder", fn := fun _ => fun
  | [d1, d2, d3] => { results := [.lit (.bool false)], args := [d1, d2, d3] }
  | _ => none }
def FormOrderWrongFalsely : Prop := formOrderRow.holds Tryd.pinned (OpenSpec.ofChange formOrderWrong)

/-- 'lyceumlaw02.FormReplaces': WHATEVER THE INPUT: true; the input reads as it did. -/
def formReplacesSpec : ChangeSpec := { name := "formReplaces", fn := fun _ => fun
  | [d1, d2, d3, d4] => { results := [.lit (.bool true)], args := [d1, d2, d3, d4] }
  | _ => none }
def formReplacesRow : OpenClaim := { program := "ytejegcmnddedmaadoor", sum := "281c503aa4892d14fb187aa3dc39eab76e4191125f23f1ade0d7dfbd577db77d", func := "lyceum/lyceumlaw02.FormReplaces", spec := "formReplaces", inPlace := ["internal/bytealg.abigen_runtime_cmpstring"], unfollowed := true, recurses := true, named := ["lyceum/syntax.rows"], loops := true, plainKeys := false, apart := false, laid := [("lyceum/syntax.rows", laid_lyceum_syntax_rows)] }
def FormReplacesSaid : Prop := formReplacesRow.holds Tryd.pinned (OpenSpec.ofChange formReplacesSpec)

/-- ITS FALSE NEIGHBOUR: 'it returns false'. Refute it at one input. -/
def formReplacesWrong : ChangeSpec := { name := "formReplaces", fn := fun _ => fun
  | [d1, d2, d3, d4] => { results := [.lit (.bool false)], args := [d1, d2, d3, d4] }
  | _ => none }
def FormReplacesWrongFalsely : Prop := formReplacesRow.holds Tryd.pinned (OpenSpec.ofChange formReplacesWrong)

/-- 'lyceumlaw02.FormParts': WHATEVER THE INPUT: true; the input reads as it did. -/
def formPartsSpec : ChangeSpec := { name := "formParts", fn := fun _ => fun
  | [d] => { results := [.lit (.bool true)], args := [d] }
  | _ => none }
def formPartsRow : OpenClaim := { program := "ytejegcmnddedmaadoor", sum := "281c503aa4892d14fb187aa3dc39eab76e4191125f23f1ade0d7dfbd577db77d", func := "lyceum/lyceumlaw02.FormParts", spec := "formParts", inPlace := ["internal/bytealg.abigen_runtime_cmpstring"], unfollowed := true, recurses := true, named := ["lyceum/syntax.rows"], loops := true, plainKeys := false, apart := false, laid := [("lyceum/syntax.rows", laid_lyceum_syntax_rows)] }
def FormPartsSaid : Prop := formPartsRow.holds Tryd.pinned (OpenSpec.ofChange formPartsSpec)

/-- ITS FALSE NEIGHBOUR: 'it returns false'. Refute it at one input. -/
def formPartsWrong : ChangeSpec := { name := "formParts", fn := fun _ => fun
  | [d] => { results := [.lit (.bool false)], args := [d] }
  | _ => none }
def FormPartsWrongFalsely : Prop := formPartsRow.holds Tryd.pinned (OpenSpec.ofChange formPartsWrong)

/- THE SECOND FORM. 'bulk': how many values and letters a reading holds, each counted each time it is reached (what is shared counts as often as it is met; a slice's spare places count too). A statement '..UptoSaid' is the law's where the arguments, and the package variables that the reading takes, are together of bulk at most 1048576: NARROWER than '..Said'. Prove '..Said' where nothing that the law and all that it calls make is longer than what came in: it says more and counts as full. Else prove '..UptoSaid'. A law counts once. -/
mutual
def uptoBulk {H : Type} : DataW H → Nat
  | .lit (.string bytes) => bytes.length + 1
  | .lit _ => 1
  | .nil => 1
  | .ptr d => uptoBulk d + 1
  | .slice elems spare => uptoBulkAll elems + uptoBulkAll spare + 1
  | .agg parts => uptoBulkAll parts + 1
  | .iface _ d => uptoBulk d + 1
  | .map entries => uptoBulkEntries entries + 1
  | .held _ => 1
def uptoBulkAll {H : Type} : List (DataW H) → Nat
  | [] => 0
  | d :: r => uptoBulk d + uptoBulkAll r
def uptoBulkEntries {H : Type} : List (Lit × DataW H) → Nat
  | [] => 0
  | x :: r => uptoBulkEntry x + uptoBulkEntries r
def uptoBulkEntry {H : Type} : Lit × DataW H → Nat
  | (.string bytes, d) => bytes.length + uptoBulk d + 1
  | (_, d) => uptoBulk d + 1
 end
def uptoSmall : (H : Type) → List (DataW H) → Bool := fun _ ds => decide (uptoBulkAll ds ≤ 1048576)
def OpenSpec.upto (s : _root_.Go.ChangeSpec) : _root_.Go.OpenSpec := { _root_.Go.OpenSpec.ofChange s with cond := some uptoSmall }

/-- 'lyceumlaw02.FormOrder', WHERE WHAT IT READS IS OF BULK AT MOST 1048576: true; the input reads as it did. -/
def formOrderUptoRow : OpenClaim := { program := "ytejegcmnddedmaadoor", sum := "281c503aa4892d14fb187aa3dc39eab76e4191125f23f1ade0d7dfbd577db77d", func := "lyceum/lyceumlaw02.FormOrder", spec := "formOrder", inPlace := ["internal/bytealg.abigen_runtime_cmpstring"], unfollowed := true, recurses := true, named := ["lyceum/syntax.rows"], loops := true, plainKeys := false, apart := false, laid := [("lyceum/syntax.rows", laid_lyceum_syntax_rows)], narrowed := true }
def FormOrderUptoSaid : Prop := formOrderUptoRow.holds Tryd.pinned (OpenSpec.upto formOrderSpec)

/-- 'lyceumlaw02.FormReplaces', WHERE WHAT IT READS IS OF BULK AT MOST 1048576: true; the input reads as it did. -/
def formReplacesUptoRow : OpenClaim := { program := "ytejegcmnddedmaadoor", sum := "281c503aa4892d14fb187aa3dc39eab76e4191125f23f1ade0d7dfbd577db77d", func := "lyceum/lyceumlaw02.FormReplaces", spec := "formReplaces", inPlace := ["internal/bytealg.abigen_runtime_cmpstring"], unfollowed := true, recurses := true, named := ["lyceum/syntax.rows"], loops := true, plainKeys := false, apart := false, laid := [("lyceum/syntax.rows", laid_lyceum_syntax_rows)], narrowed := true }
def FormReplacesUptoSaid : Prop := formReplacesUptoRow.holds Tryd.pinned (OpenSpec.upto formReplacesSpec)

/-- 'lyceumlaw02.FormParts', WHERE WHAT IT READS IS OF BULK AT MOST 1048576: true; the input reads as it did. -/
def formPartsUptoRow : OpenClaim := { program := "ytejegcmnddedmaadoor", sum := "281c503aa4892d14fb187aa3dc39eab76e4191125f23f1ade0d7dfbd577db77d", func := "lyceum/lyceumlaw02.FormParts", spec := "formParts", inPlace := ["internal/bytealg.abigen_runtime_cmpstring"], unfollowed := true, recurses := true, named := ["lyceum/syntax.rows"], loops := true, plainKeys := false, apart := false, laid := [("lyceum/syntax.rows", laid_lyceum_syntax_rows)], narrowed := true }
def FormPartsUptoSaid : Prop := formPartsUptoRow.holds Tryd.pinned (OpenSpec.upto formPartsSpec)

end Rows
end Go.Proofs.YtejegcmnddedmaaDoor
