/-
  NARROWER THAN 'FOR EVERY INPUT', by the rows' own cells (each row's printed sentence says how): TruthPuts: laid · TruthDeduces: laid · TruthCounts: laid · TruthLeast: laid · TruthNames: laid · TruthEqual: laid · TruthWrong: laid.
  DERIVED. THE GIVEN ROWS OF THIS SEAT. 7 by the template 'for every input the law returns true; each argument reads behind the call as it read before'; 0 by the template 'total and deterministic' (their statements: YtekhodpmpjehaaaDoorTotals.lean).
  GIVEN WITH THE SEED: the statements are not yours to turn. If you find one false, say at which input.
  Laid BY PROGRAM, IN A SANDBOX (cutbox-rows.mjs): the forced cells as the released guide's own fill.sh prints them over the translation 6bddf519d3abc849… (all of the seat's roots in one cut). By AI agents, Wed Nov 11 2026. No macro, syntax, notation, axiom, sorry.
-/
import Derived.Test.YtekhodpmpjehaaaDoorChecked
import GoSem.Claim
import GoSem.ClaimJoined
import GoSem.ClaimMapViews
import Derived.JoinedTies
import Derived.KernelRfl
namespace Go.Proofs.YtekhodpmpjehaaaDoor
/- THE CELL 'sum', in the pinned program and in every row, IS THE sha256 OF THE DUMP (.gsa) THAT YtekhodpmpjehaaaDoorProg.lean LOADS. Nothing in Lean hashes anything: it is a label: what it is worth is what the hold of that sum in a sandbox is worth. -/
noncomputable def Tryd.pinned : Pinned := { name := "ytekhodpmpjehaaadoor", sum := "6bddf519d3abc849d140f04c8a8476bef2e3ee4926fdb26390bfdd2105c4a599", checked := Tryd.checked }
namespace Rows
def none {H : Type} : Left H := { results := [], args := [] }

/- WHAT THE LISTED PACKAGE-LEVEL VARIABLES READ AS WHEN THE CALL BEGINS. Each datum BY PROGRAM (the guide's laid-datum.mjs) off the statement by which the dump's own 'gosem.cut.vars' lays the variable. In a bare row this is a premise. The card (YtekhodpmpjehaaaDoorCards.lean) ties it to the program's text. -/
def laid_math_bits_deBruijn64tab {H : Type} : DataW H := .agg [.lit (.int .u8 0), .lit (.int .u8 1), .lit (.int .u8 56), .lit (.int .u8 2), .lit (.int .u8 57), .lit (.int .u8 49), .lit (.int .u8 28), .lit (.int .u8 3), .lit (.int .u8 61), .lit (.int .u8 58), .lit (.int .u8 42), .lit (.int .u8 50), .lit (.int .u8 38), .lit (.int .u8 29), .lit (.int .u8 17), .lit (.int .u8 4), .lit (.int .u8 62), .lit (.int .u8 47), .lit (.int .u8 59), .lit (.int .u8 36), .lit (.int .u8 45), .lit (.int .u8 43), .lit (.int .u8 51), .lit (.int .u8 22), .lit (.int .u8 53), .lit (.int .u8 39), .lit (.int .u8 33), .lit (.int .u8 30), .lit (.int .u8 24), .lit (.int .u8 18), .lit (.int .u8 12), .lit (.int .u8 5), .lit (.int .u8 63), .lit (.int .u8 55), .lit (.int .u8 48), .lit (.int .u8 27), .lit (.int .u8 60), .lit (.int .u8 41), .lit (.int .u8 37), .lit (.int .u8 16), .lit (.int .u8 46), .lit (.int .u8 35), .lit (.int .u8 44), .lit (.int .u8 21), .lit (.int .u8 52), .lit (.int .u8 32), .lit (.int .u8 23), .lit (.int .u8 11), .lit (.int .u8 54), .lit (.int .u8 26), .lit (.int .u8 40), .lit (.int .u8 15), .lit (.int .u8 34), .lit (.int .u8 20), .lit (.int .u8 31), .lit (.int .u8 10), .lit (.int .u8 25), .lit (.int .u8 14), .lit (.int .u8 19), .lit (.int .u8 9), .lit (.int .u8 13), .lit (.int .u8 8), .lit (.int .u8 7), .lit (.int .u8 6)]
def laid_lyceum_syntax_rows {H : Type} : DataW H := .agg [.agg [.lit (.bool false), .lit (.bool false), .lit (.int .u8 0), .lit (.int .i64 0), .lit (.int .i64 0)], .agg [.lit (.bool true), .lit (.bool true), .lit (.int .u8 1), .lit (.int .i64 4), .lit (.int .i64 0)], .agg [.lit (.bool true), .lit (.bool true), .lit (.int .u8 0), .lit (.int .i64 0), .lit (.int .i64 0)], .agg [.lit (.bool true), .lit (.bool true), .lit (.int .u8 0), .lit (.int .i64 0), .lit (.int .i64 1)], .agg [.lit (.bool true), .lit (.bool true), .lit (.int .u8 0), .lit (.int .i64 0), .lit (.int .i64 2)], .agg [.lit (.bool true), .lit (.bool true), .lit (.int .u8 0), .lit (.int .i64 0), .lit (.int .i64 2)], .agg [.lit (.bool true), .lit (.bool true), .lit (.int .u8 0), .lit (.int .i64 0), .lit (.int .i64 2)], .agg [.lit (.bool true), .lit (.bool true), .lit (.int .u8 0), .lit (.int .i64 0), .lit (.int .i64 2)], .agg [.lit (.bool true), .lit (.bool true), .lit (.int .u8 2), .lit (.int .i64 0), .lit (.int .i64 1)], .agg [.lit (.bool true), .lit (.bool true), .lit (.int .u8 2), .lit (.int .i64 0), .lit (.int .i64 1)], .agg [.lit (.bool true), .lit (.bool true), .lit (.int .u8 0), .lit (.int .i64 0), .lit (.int .i64 1)], .agg [.lit (.bool true), .lit (.bool true), .lit (.int .u8 0), .lit (.int .i64 0), .lit (.int .i64 1)], .agg [.lit (.bool true), .lit (.bool true), .lit (.int .u8 0), .lit (.int .i64 0), .lit (.int .i64 1)], .agg [.lit (.bool true), .lit (.bool true), .lit (.int .u8 0), .lit (.int .i64 0), .lit (.int .i64 1)], .agg [.lit (.bool true), .lit (.bool true), .lit (.int .u8 0), .lit (.int .i64 0), .lit (.int .i64 2)], .agg [.lit (.bool false), .lit (.bool true), .lit (.int .u8 3), .lit (.int .i64 0), .lit (.int .i64 0)], .agg [.lit (.bool false), .lit (.bool true), .lit (.int .u8 3), .lit (.int .i64 2), .lit (.int .i64 0)]]
def laid_lyceum_truth_patterns {H : Type} : DataW H := .agg [.lit (.int .u64 12297829382473034410), .lit (.int .u64 14757395258967641292), .lit (.int .u64 17361641481138401520), .lit (.int .u64 18374966859414961920), .lit (.int .u64 18446462603027742720), .lit (.int .u64 18446744069414584320)]

/-- 'lyceumlaw10.TruthPuts': WHATEVER THE INPUT: true; the input reads as it did. -/
def truthPutsSpec : ChangeSpec := { name := "truthPuts", fn := fun _ => fun
  | [d1, d2, d3, d4] => { results := [.lit (.bool true)], args := [d1, d2, d3, d4] }
  | _ => none }
def truthPutsRow : OpenClaim := { program := "ytekhodpmpjehaaadoor", sum := "6bddf519d3abc849d140f04c8a8476bef2e3ee4926fdb26390bfdd2105c4a599", func := "lyceum/lyceumlaw10.TruthPuts", spec := "truthPuts", unfollowed := true, recurses := true, named := ["lyceum/syntax.rows", "lyceum/truth.patterns", "math/bits.deBruijn64tab"], apart := false, laid := [("math/bits.deBruijn64tab", laid_math_bits_deBruijn64tab), ("lyceum/syntax.rows", laid_lyceum_syntax_rows), ("lyceum/truth.patterns", laid_lyceum_truth_patterns)] }
def TruthPutsSaid : Prop := truthPutsRow.holds Tryd.pinned (OpenSpec.ofChange truthPutsSpec)

/-- ITS FALSE NEIGHBOUR: 'it returns false'. Refute it at one input. -/
def truthPutsWrong : ChangeSpec := { name := "truthPuts", fn := fun _ => fun
  | [d1, d2, d3, d4] => { results := [.lit (.bool false)], args := [d1, d2, d3, d4] }
  | _ => none }
def TruthPutsWrongFalsely : Prop := truthPutsRow.holds Tryd.pinned (OpenSpec.ofChange truthPutsWrong)

/-- 'lyceumlaw10.TruthDeduces': WHATEVER THE INPUT: true; the input reads as it did. -/
def truthDeducesSpec : ChangeSpec := { name := "truthDeduces", fn := fun _ => fun
  | [d1, d2, d3, d4] => { results := [.lit (.bool true)], args := [d1, d2, d3, d4] }
  | _ => none }
def truthDeducesRow : OpenClaim := { program := "ytekhodpmpjehaaadoor", sum := "6bddf519d3abc849d140f04c8a8476bef2e3ee4926fdb26390bfdd2105c4a599", func := "lyceum/lyceumlaw10.TruthDeduces", spec := "truthDeduces", unfollowed := true, recurses := true, named := ["lyceum/syntax.rows", "lyceum/truth.patterns", "math/bits.deBruijn64tab"], apart := false, laid := [("math/bits.deBruijn64tab", laid_math_bits_deBruijn64tab), ("lyceum/syntax.rows", laid_lyceum_syntax_rows), ("lyceum/truth.patterns", laid_lyceum_truth_patterns)] }
def TruthDeducesSaid : Prop := truthDeducesRow.holds Tryd.pinned (OpenSpec.ofChange truthDeducesSpec)

/-- ITS FALSE NEIGHBOUR: 'it returns false'. Refute it at one input. -/
def truthDeducesWrong : ChangeSpec := { name := "truthDeduces", fn := fun _ => fun
  | [d1, d2, d3, d4] => { results := [.lit (.bool false)], args := [d1, d2, d3, d4] }
  | _ => none }
def TruthDeducesWrongFalsely : Prop := truthDeducesRow.holds Tryd.pinned (OpenSpec.ofChange truthDeducesWrong)

/-- 'lyceumlaw10.TruthCounts': WHATEVER THE INPUT: true; the input reads as it did. -/
def truthCountsSpec : ChangeSpec := { name := "truthCounts", fn := fun _ => fun
  | [d1, d2] => { results := [.lit (.bool true)], args := [d1, d2] }
  | _ => none }
def truthCountsRow : OpenClaim := { program := "ytekhodpmpjehaaadoor", sum := "6bddf519d3abc849d140f04c8a8476bef2e3ee4926fdb26390bfdd2105c4a599", func := "lyceum/lyceumlaw10.TruthCounts", spec := "truthCounts", unfollowed := true, recurses := true, named := ["lyceum/syntax.rows", "lyceum/truth.patterns", "math/bits.deBruijn64tab"], apart := false, laid := [("math/bits.deBruijn64tab", laid_math_bits_deBruijn64tab), ("lyceum/syntax.rows", laid_lyceum_syntax_rows), ("lyceum/truth.patterns", laid_lyceum_truth_patterns)] }
def TruthCountsSaid : Prop := truthCountsRow.holds Tryd.pinned (OpenSpec.ofChange truthCountsSpec)

/-- ITS FALSE NEIGHBOUR: 'it returns false'. Refute it at one input. -/
def truthCountsWrong : ChangeSpec := { name := "truthCounts", fn := fun _ => fun
  | [d1, d2] => { results := [.lit (.bool false)], args := [d1, d2] }
  | _ => none }
def TruthCountsWrongFalsely : Prop := truthCountsRow.holds Tryd.pinned (OpenSpec.ofChange truthCountsWrong)

/-- 'lyceumlaw10.TruthLeast': WHATEVER THE INPUT: true; the input reads as it did. -/
def truthLeastSpec : ChangeSpec := { name := "truthLeast", fn := fun _ => fun
  | [d1, d2] => { results := [.lit (.bool true)], args := [d1, d2] }
  | _ => none }
def truthLeastRow : OpenClaim := { program := "ytekhodpmpjehaaadoor", sum := "6bddf519d3abc849d140f04c8a8476bef2e3ee4926fdb26390bfdd2105c4a599", func := "lyceum/lyceumlaw10.TruthLeast", spec := "truthLeast", unfollowed := true, recurses := true, named := ["lyceum/syntax.rows", "lyceum/truth.patterns", "math/bits.deBruijn64tab"], apart := false, laid := [("math/bits.deBruijn64tab", laid_math_bits_deBruijn64tab), ("lyceum/syntax.rows", laid_lyceum_syntax_rows), ("lyceum/truth.patterns", laid_lyceum_truth_patterns)] }
def TruthLeastSaid : Prop := truthLeastRow.holds Tryd.pinned (OpenSpec.ofChange truthLeastSpec)

/-- ITS FALSE NEIGHBOUR: 'it returns false'. Refute it at one input. -/
def truthLeastWrong : ChangeSpec := { name := "truthLeast", fn := fun _ => fun
  | [d1, d2] => { results := [.lit (.bool false)], args := [d1, d2] }
  | _ => none }
def TruthLeastWrongFalsely : Prop := truthLeastRow.holds Tryd.pinned (OpenSpec.ofChange truthLeastWrong)

/-- 'lyceumlaw10.TruthNames': WHATEVER THE INPUT: true; the input reads as it did. -/
def truthNamesSpec : ChangeSpec := { name := "truthNames", fn := fun _ => fun
  | [d1, d2] => { results := [.lit (.bool true)], args := [d1, d2] }
  | _ => none }
def truthNamesRow : OpenClaim := { program := "ytekhodpmpjehaaadoor", sum := "6bddf519d3abc849d140f04c8a8476bef2e3ee4926fdb26390bfdd2105c4a599", func := "lyceum/lyceumlaw10.TruthNames", spec := "truthNames", unfollowed := true, recurses := true, named := ["lyceum/syntax.rows", "lyceum/truth.patterns", "math/bits.deBruijn64tab"], apart := false, laid := [("math/bits.deBruijn64tab", laid_math_bits_deBruijn64tab), ("lyceum/syntax.rows", laid_lyceum_syntax_rows), ("lyceum/truth.patterns", laid_lyceum_truth_patterns)] }
def TruthNamesSaid : Prop := truthNamesRow.holds Tryd.pinned (OpenSpec.ofChange truthNamesSpec)

/-- ITS FALSE NEIGHBOUR: 'it returns false'. Refute it at one input. -/
def truthNamesWrong : ChangeSpec := { name := "truthNames", fn := fun _ => fun
  | [d1, d2] => { results := [.lit (.bool false)], args := [d1, d2] }
  | _ => none }
def TruthNamesWrongFalsely : Prop := truthNamesRow.holds Tryd.pinned (OpenSpec.ofChange truthNamesWrong)

/-- 'lyceumlaw10.TruthEqual': WHATEVER THE INPUT: true; the input reads as it did. -/
def truthEqualSpec : ChangeSpec := { name := "truthEqual", fn := fun _ => fun
  | [d1, d2, d3] => { results := [.lit (.bool true)], args := [d1, d2, d3] }
  | _ => none }
def truthEqualRow : OpenClaim := { program := "ytekhodpmpjehaaadoor", sum := "6bddf519d3abc849d140f04c8a8476bef2e3ee4926fdb26390bfdd2105c4a599", func := "lyceum/lyceumlaw10.TruthEqual", spec := "truthEqual", unfollowed := true, recurses := true, named := ["lyceum/syntax.rows", "lyceum/truth.patterns", "math/bits.deBruijn64tab"], apart := false, laid := [("math/bits.deBruijn64tab", laid_math_bits_deBruijn64tab), ("lyceum/syntax.rows", laid_lyceum_syntax_rows), ("lyceum/truth.patterns", laid_lyceum_truth_patterns)] }
def TruthEqualSaid : Prop := truthEqualRow.holds Tryd.pinned (OpenSpec.ofChange truthEqualSpec)

/-- ITS FALSE NEIGHBOUR: 'it returns false'. Refute it at one input. -/
def truthEqualWrong : ChangeSpec := { name := "truthEqual", fn := fun _ => fun
  | [d1, d2, d3] => { results := [.lit (.bool false)], args := [d1, d2, d3] }
  | _ => none }
def TruthEqualWrongFalsely : Prop := truthEqualRow.holds Tryd.pinned (OpenSpec.ofChange truthEqualWrong)

/-- 'lyceumlaw10.TruthWrong': WHATEVER THE INPUT: true; the input reads as it did. -/
def truthWrongSpec : ChangeSpec := { name := "truthWrong", fn := fun _ => fun
  | [d1, d2, d3] => { results := [.lit (.bool true)], args := [d1, d2, d3] }
  | _ => none }
def truthWrongRow : OpenClaim := { program := "ytekhodpmpjehaaadoor", sum := "6bddf519d3abc849d140f04c8a8476bef2e3ee4926fdb26390bfdd2105c4a599", func := "lyceum/lyceumlaw10.TruthWrong", spec := "truthWrong", unfollowed := true, recurses := true, named := ["lyceum/syntax.rows", "lyceum/truth.patterns", "math/bits.deBruijn64tab"], apart := false, laid := [("math/bits.deBruijn64tab", laid_math_bits_deBruijn64tab), ("lyceum/syntax.rows", laid_lyceum_syntax_rows), ("lyceum/truth.patterns", laid_lyceum_truth_patterns)] }
def TruthWrongSaid : Prop := truthWrongRow.holds Tryd.pinned (OpenSpec.ofChange truthWrongSpec)

/-- ITS FALSE NEIGHBOUR: 'it returns false'. Refute it at one input. -/
def truthWrongWrong : ChangeSpec := { name := "truthWrong", fn := fun _ => fun
  | [d1, d2, d3] => { results := [.lit (.bool false)], args := [d1, d2, d3] }
  | _ => none }
def TruthWrongWrongFalsely : Prop := truthWrongRow.holds Tryd.pinned (OpenSpec.ofChange truthWrongWrong)

/- THE SECOND FORM. 'bulk': how many values and letters a reading holds, each counted each time it is reached (what is shared counts as often as it is met; a slice's spare places count too). A statement '..UptoSaid' is the law's where the arguments, and the package variables that the reading takes, are together of bulk at most 1048576: NARROWER than '..Said'. Prove '..Said' where nothing that the law and all that it calls make is longer than what came in: it says more and counts as full. Else prove '..UptoSaid'. A law counts once. -/
mutual
def uptoBulk {H : Type} : DataW H → Nat
  | .lit (.string bytes) => bytes.length + 1
  | .lit _ => 1
  | .nil => 1
  | .ptr d => uptoBulk d + 1
  | .slice elems spare => uptoBulkAll elems + uptoBulkAll spare + 1
  | .agg parts => uptoBulkAll parts + 1
  | .iface _ d => uptoBulk d + 1
  | .map entries => uptoBulkEntries entries + 1
  | .held _ => 1
def uptoBulkAll {H : Type} : List (DataW H) → Nat
  | [] => 0
  | d :: r => uptoBulk d + uptoBulkAll r
def uptoBulkEntries {H : Type} : List (Lit × DataW H) → Nat
  | [] => 0
  | x :: r => uptoBulkEntry x + uptoBulkEntries r
def uptoBulkEntry {H : Type} : Lit × DataW H → Nat
  | (.string bytes, d) => bytes.length + uptoBulk d + 1
  | (_, d) => uptoBulk d + 1
 end
def uptoSmall : (H : Type) → List (DataW H) → Bool := fun _ ds => decide (uptoBulkAll ds ≤ 1048576)
def OpenSpec.upto (s : _root_.Go.ChangeSpec) : _root_.Go.OpenSpec := { _root_.Go.OpenSpec.ofChange s with cond := some uptoSmall }

/-- 'lyceumlaw10.TruthPuts', WHERE WHAT IT READS IS OF BULK AT MOST 1048576: true; the input reads as it did. -/
def truthPutsUptoRow : OpenClaim := { program := "ytekhodpmpjehaaadoor", sum := "6bddf519d3abc849d140f04c8a8476bef2e3ee4926fdb26390bfdd2105c4a599", func := "lyceum/lyceumlaw10.TruthPuts", spec := "truthPuts", unfollowed := true, recurses := true, named := ["lyceum/syntax.rows", "lyceum/truth.patterns", "math/bits.deBruijn64tab"], apart := false, laid := [("math/bits.deBruijn64tab", laid_math_bits_deBruijn64tab), ("lyceum/syntax.rows", laid_lyceum_syntax_rows), ("lyceum/truth.patterns", laid_lyceum_truth_patterns)], narrowed := true }
def TruthPutsUptoSaid : Prop := truthPutsUptoRow.holds Tryd.pinned (OpenSpec.upto truthPutsSpec)

/-- 'lyceumlaw10.TruthDeduces', WHERE WHAT IT READS IS OF BULK AT MOST 1048576: true; the input reads as it did. -/
def truthDeducesUptoRow : OpenClaim := { program := "ytekhodpmpjehaaadoor", sum := "6bddf519d3abc849d140f04c8a8476bef2e3ee4926fdb26390bfdd2105c4a599", func := "lyceum/lyceumlaw10.TruthDeduces", spec := "truthDeduces", unfollowed := true, recurses := true, named := ["lyceum/syntax.rows", "lyceum/truth.patterns", "math/bits.deBruijn64tab"], apart := false, laid := [("math/bits.deBruijn64tab", laid_math_bits_deBruijn64tab), ("lyceum/syntax.rows", laid_lyceum_syntax_rows), ("lyceum/truth.patterns", laid_lyceum_truth_patterns)], narrowed := true }
def TruthDeducesUptoSaid : Prop := truthDeducesUptoRow.holds Tryd.pinned (OpenSpec.upto truthDeducesSpec)

/-- 'lyceumlaw10.TruthCounts', WHERE WHAT IT READS IS OF BULK AT MOST 1048576: true; the input reads as it did. -/
def truthCountsUptoRow : OpenClaim := { program := "ytekhodpmpjehaaadoor", sum := "6bddf519d3abc849d140f04c8a8476bef2e3ee4926fdb26390bfdd2105c4a599", func := "lyceum/lyceumlaw10.TruthCounts", spec := "truthCounts", unfollowed := true, recurses := true, named := ["lyceum/syntax.rows", "lyceum/truth.patterns", "math/bits.deBruijn64tab"], apart := false, laid := [("math/bits.deBruijn64tab", laid_math_bits_deBruijn64tab), ("lyceum/syntax.rows", laid_lyceum_syntax_rows), ("lyceum/truth.patterns", laid_lyceum_truth_patterns)], narrowed := true }
def TruthCountsUptoSaid : Prop := truthCountsUptoRow.holds Tryd.pinned (OpenSpec.upto truthCountsSpec)

/-- 'lyceumlaw10.TruthLeast', WHERE WHAT IT READS IS OF BULK AT MOST 1048576: true; the input reads as it did. -/
def truthLeastUptoRow : OpenClaim := { program := "ytekhodpmpjehaaadoor", sum := "6bddf519d3abc849d140f04c8a8476bef2e3ee4926fdb26390bfdd2105c4a599", func := "lyceum/lyceumlaw10.TruthLeast", spec := "truthLeast", unfollowed := true, recurses := true, named := ["lyceum/syntax.rows", "lyceum/truth.patterns", "math/bits.deBruijn64tab"], apart := false, laid := [("math/bits.deBruijn64tab", laid_math_bits_deBruijn64tab), ("lyceum/syntax.rows", laid_lyceum_syntax_rows), ("lyceum/truth.patterns", laid_lyceum_truth_patterns)], narrowed := true }
def TruthLeastUptoSaid : Prop := truthLeastUptoRow.holds Tryd.pinned (OpenSpec.upto truthLeastSpec)

/-- 'lyceumlaw10.TruthNames', WHERE WHAT IT READS IS OF BULK AT MOST 1048576: true; the input reads as it did. -/
def truthNamesUptoRow : OpenClaim := { program := "ytekhodpmpjehaaadoor", sum := "6bddf519d3abc849d140f04c8a8476bef2e3ee4926fdb26390bfdd2105c4a599", func := "lyceum/lyceumlaw10.TruthNames", spec := "truthNames", unfollowed := true, recurses := true, named := ["lyceum/syntax.rows", "lyceum/truth.patterns", "math/bits.deBruijn64tab"], apart := false, laid := [("math/bits.deBruijn64tab", laid_math_bits_deBruijn64tab), ("lyceum/syntax.rows", laid_lyceum_syntax_rows), ("lyceum/truth.patterns", laid_lyceum_truth_patterns)], narrowed := true }
def TruthNamesUptoSaid : Prop := truthNamesUptoRow.holds Tryd.pinned (OpenSpec.upto truthNamesSpec)

/-- 'lyceumlaw10.TruthEqual', WHERE WHAT IT READS IS OF BULK AT MOST 1048576: true; the input reads as it did. -/
def truthEqualUptoRow : OpenClaim := { program := "ytekhodpmpjehaaadoor", sum := "6bddf519d3abc849d140f04c8a8476bef2e3ee4926fdb26390bfdd2105c4a599", func := "lyceum/lyceumlaw10.TruthEqual", spec := "truthEqual", unfollowed := true, recurses := true, named := ["lyceum/syntax.rows", "lyceum/truth.patterns", "math/bits.deBruijn64tab"], apart := false, laid := [("math/bits.deBruijn64tab", laid_math_bits_deBruijn64tab), ("lyceum/syntax.rows", laid_lyceum_syntax_rows), ("lyceum/truth.patterns", laid_lyceum_truth_patterns)], narrowed := true }
def TruthEqualUptoSaid : Prop := truthEqualUptoRow.holds Tryd.pinned (OpenSpec.upto truthEqualSpec)

/-- 'lyceumlaw10.TruthWrong', WHERE WHAT IT READS IS OF BULK AT MOST 1048576: true; the input reads as it did. -/
def truthWrongUptoRow : OpenClaim := { program := "ytekhodpmpjehaaadoor", sum := "6bddf519d3abc849d140f04c8a8476bef2e3ee4926fdb26390bfdd2105c4a599", func := "lyceum/lyceumlaw10.TruthWrong", spec := "truthWrong", unfollowed := true, recurses := true, named := ["lyceum/syntax.rows", "lyceum/truth.patterns", "math/bits.deBruijn64tab"], apart := false, laid := [("math/bits.deBruijn64tab", laid_math_bits_deBruijn64tab), ("lyceum/syntax.rows", laid_lyceum_syntax_rows), ("lyceum/truth.patterns", laid_lyceum_truth_patterns)], narrowed := true }
def TruthWrongUptoSaid : Prop := truthWrongUptoRow.holds Tryd.pinned (OpenSpec.upto truthWrongSpec)

end Rows
end Go.Proofs.YtekhodpmpjehaaaDoor
