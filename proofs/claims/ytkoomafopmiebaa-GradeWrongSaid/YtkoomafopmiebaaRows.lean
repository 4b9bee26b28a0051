/-
  No cell of these rows narrows 'for every input' (looked for: loops, veiled, ifaces, maps, wideKeys, modest, calm, conditions, laid).
  DERIVED. THE GIVEN ROWS OF THIS SEAT. 6 by the template 'for every input the law returns true; each argument reads behind the call as it read before'; 0 by the template 'total and deterministic' (their statements: YtkoomafopmiebaaTotals.lean).
  GIVEN WITH THE SEED: the statements are not yours to turn. If you find one false, say at which input.
  Laid BY PROGRAM, IN A SANDBOX (cutbox-rows.mjs): the forced cells as the released guide's own fill.sh prints them over the translation 399e669d2cd90570… (all of the seat's roots in one cut). By AI agents, Wed Nov 11 2026. No macro, syntax, notation, axiom, sorry.
-/
import Derived.Test.YtkoomafopmiebaaChecked
import GoSem.Claim
import GoSem.ClaimJoined
import GoSem.ClaimMapViews
import Derived.JoinedTies
import Derived.KernelRfl
namespace Go.Proofs.Ytkoomafopmiebaa
/- THE CELL 'sum', in the pinned program and in every row, IS THE sha256 OF THE DUMP (.gsa) THAT YtkoomafopmiebaaProg.lean LOADS. Nothing in Lean hashes anything: it is a label: what it is worth is what the hold of that sum in a sandbox is worth. -/
noncomputable def Try.pinned : Pinned := { name := "ytkoomafopmiebaa", sum := "399e669d2cd9057068f27892911fb20acf48dd2be656c94d9d8f5c199026f7e8", checked := Try.checked }
namespace Rows
def none {H : Type} : Left H := { results := [], args := [] }

/-- 'lyceumlaw32.GradeTells': WHATEVER THE INPUT: true; the input reads as it did. -/
def gradeTellsSpec : ChangeSpec := { name := "gradeTells", fn := fun _ => fun
  | [d1, d2] => { results := [.lit (.bool true)], args := [d1, d2] }
  | _ => none }
def gradeTellsRow : OpenClaim := { program := "ytkoomafopmiebaa", sum := "399e669d2cd9057068f27892911fb20acf48dd2be656c94d9d8f5c199026f7e8", func := "lyceum/lyceumlaw32.GradeTells", spec := "gradeTells", unfollowed := true, recurses := true, apart := false }
def GradeTellsSaid : Prop := gradeTellsRow.holds Try.pinned (OpenSpec.ofChange gradeTellsSpec)

/-- ITS FALSE NEIGHBOUR: 'it returns false'. Refute it at one input. -/
def gradeTellsWrong : ChangeSpec := { name := "gradeTells", fn := fun _ => fun
  | [d1, d2] => { results := [.lit (.bool false)], args := [d1, d2] }
  | _ => none }
def GradeTellsWrongFalsely : Prop := gradeTellsRow.holds Try.pinned (OpenSpec.ofChange gradeTellsWrong)

/-- 'lyceumlaw32.GradeFair': WHATEVER THE INPUT: true; the input reads as it did. -/
def gradeFairSpec : ChangeSpec := { name := "gradeFair", fn := fun _ => fun
  | [d1, d2, d3, d4, d5] => { results := [.lit (.bool true)], args := [d1, d2, d3, d4, d5] }
  | _ => none }
def gradeFairRow : OpenClaim := { program := "ytkoomafopmiebaa", sum := "399e669d2cd9057068f27892911fb20acf48dd2be656c94d9d8f5c199026f7e8", func := "lyceum/lyceumlaw32.GradeFair", spec := "gradeFair", unfollowed := true, recurses := true, apart := false }
def GradeFairSaid : Prop := gradeFairRow.holds Try.pinned (OpenSpec.ofChange gradeFairSpec)

/-- ITS FALSE NEIGHBOUR: 'it returns false'. Refute it at one input. -/
def gradeFairWrong : ChangeSpec := { name := "gradeFair", fn := fun _ => fun
  | [d1, d2, d3, d4, d5] => { results := [.lit (.bool false)], args := [d1, d2, d3, d4, d5] }
  | _ => none }
def GradeFairWrongFalsely : Prop := gradeFairRow.holds Try.pinned (OpenSpec.ofChange gradeFairWrong)

/-- 'lyceumlaw32.GradeSays': WHATEVER THE INPUT: true; the input reads as it did. -/
def gradeSaysSpec : ChangeSpec := { name := "gradeSays", fn := fun _ => fun
  | [d1, d2, d3] => { results := [.lit (.bool true)], args := [d1, d2, d3] }
  | _ => none }
def gradeSaysRow : OpenClaim := { program := "ytkoomafopmiebaa", sum := "399e669d2cd9057068f27892911fb20acf48dd2be656c94d9d8f5c199026f7e8", func := "lyceum/lyceumlaw32.GradeSays", spec := "gradeSays", unfollowed := true, recurses := true, apart := false }
def GradeSaysSaid : Prop := gradeSaysRow.holds Try.pinned (OpenSpec.ofChange gradeSaysSpec)

/-- ITS FALSE NEIGHBOUR: 'it returns false'. Refute it at one input. -/
def gradeSaysWrong : ChangeSpec := { name := "gradeSays", fn := fun _ => fun
  | [d1, d2, d3] => { results := [.lit (.bool false)], args := [d1, d2, d3] }
  | _ => none }
def GradeSaysWrongFalsely : Prop := gradeSaysRow.holds Try.pinned (OpenSpec.ofChange gradeSaysWrong)

/-- 'lyceumlaw32.GradeShares': WHATEVER THE INPUT: true; the input reads as it did. -/
def gradeSharesSpec : ChangeSpec := { name := "gradeShares", fn := fun _ => fun
  | [d1, d2, d3] => { results := [.lit (.bool true)], args := [d1, d2, d3] }
  | _ => none }
def gradeSharesRow : OpenClaim := { program := "ytkoomafopmiebaa", sum := "399e669d2cd9057068f27892911fb20acf48dd2be656c94d9d8f5c199026f7e8", func := "lyceum/lyceumlaw32.GradeShares", spec := "gradeShares", unfollowed := true, recurses := true, apart := false }
def GradeSharesSaid : Prop := gradeSharesRow.holds Try.pinned (OpenSpec.ofChange gradeSharesSpec)

/-- ITS FALSE NEIGHBOUR: 'it returns false'. Refute it at one input. -/
def gradeSharesWrong : ChangeSpec := { name := "gradeShares", fn := fun _ => fun
  | [d1, d2, d3] => { results := [.lit (.bool false)], args := [d1, d2, d3] }
  | _ => none }
def GradeSharesWrongFalsely : Prop := gradeSharesRow.holds Try.pinned (OpenSpec.ofChange gradeSharesWrong)

/-- 'lyceumlaw32.GradeTotals': WHATEVER THE INPUT: true; the input reads as it did. -/
def gradeTotalsSpec : ChangeSpec := { name := "gradeTotals", fn := fun _ => fun
  | [d1, d2, d3, d4] => { results := [.lit (.bool true)], args := [d1, d2, d3, d4] }
  | _ => none }
def gradeTotalsRow : OpenClaim := { program := "ytkoomafopmiebaa", sum := "399e669d2cd9057068f27892911fb20acf48dd2be656c94d9d8f5c199026f7e8", func := "lyceum/lyceumlaw32.GradeTotals", spec := "gradeTotals", unfollowed := true, recurses := true, apart := false }
def GradeTotalsSaid : Prop := gradeTotalsRow.holds Try.pinned (OpenSpec.ofChange gradeTotalsSpec)

/-- ITS FALSE NEIGHBOUR: 'it returns false'. Refute it at one input. -/
def gradeTotalsWrong : ChangeSpec := { name := "gradeTotals", fn := fun _ => fun
  | [d1, d2, d3, d4] => { results := [.lit (.bool false)], args := [d1, d2, d3, d4] }
  | _ => none }
def GradeTotalsWrongFalsely : Prop := gradeTotalsRow.holds Try.pinned (OpenSpec.ofChange gradeTotalsWrong)

/-- 'lyceumlaw32.GradeWrong': WHATEVER THE INPUT: true; the input reads as it did. -/
def gradeWrongSpec : ChangeSpec := { name := "gradeWrong", fn := fun _ => fun
  | [d1, d2, d3] => { results := [.lit (.bool true)], args := [d1, d2, d3] }
  | _ => none }
def gradeWrongRow : OpenClaim := { program := "ytkoomafopmiebaa", sum := "399e669d2cd9057068f27892911fb20acf48dd2be656c94d9d8f5c199026f7e8", func := "lyceum/lyceumlaw32.GradeWrong", spec := "gradeWrong", unfollowed := true, recurses := true, apart := false }
def GradeWrongSaid : Prop := gradeWrongRow.holds Try.pinned (OpenSpec.ofChange gradeWrongSpec)

/-- ITS FALSE NEIGHBOUR: 'it returns false'. Refute it at one input. -/
def gradeWrongWrong : ChangeSpec := { name := "gradeWrong", fn := fun _ => fun
  | [d1, d2, d3] => { results := [.lit (.bool false)], args := [d1, d2, d3] }
  | _ => none }
def GradeWrongWrongFalsely : Prop := gradeWrongRow.holds Try.pinned (OpenSpec.ofChange gradeWrongWrong)

/- THE SECOND FORM. 'bulk': how many values and letters a reading holds, each counted each time it is reached (what is shared counts as often as it is met; a slice's spare places count too). A statement '..UptoSaid' is the law's where the arguments, and the package variables that the reading takes, are together of bulk at most 1048576: NARROWER than '..Said'. Prove '..Said' where nothing that the law and all that it calls make is longer than what came in: it says more and counts as full. Else prove '..UptoSaid'. A law counts once. -/
mutual
def uptoBulk {H : Type} : DataW H → Nat
  | .lit (.string bytes) => bytes.length + 1
  | .lit _ => 1
  | .nil => 1
  | .ptr d => uptoBulk d + 1
  | .slice elems spare => uptoBulkAll elems + uptoBulkAll spare + 1
  | .agg parts => uptoBulkAll parts + 1
  | .iface _ d => uptoBulk d + 1
  | .map entries => uptoBulkEntries entries + 1
  | .held _ => 1
def uptoBulkAll {H : Type} : List (DataW H) → Nat
  | [] => 0
  | d :: r => uptoBulk d + uptoBulkAll r
def uptoBulkEntries {H : Type} : List (Lit × DataW H) → Nat
  | [] => 0
  | x :: r => uptoBulkEntry x + uptoBulkEntries r
def uptoBulkEntry {H : Type} : Lit × DataW H → Nat
  | (.string bytes, d) => bytes.length + uptoBulk d + 1
  | (_, d) => uptoBulk d + 1
 end
def uptoSmall : (H : Type) → List (DataW H) → Bool := fun _ ds => decide (uptoBulkAll ds ≤ 1048576)
def OpenSpec.upto (s : _root_.Go.ChangeSpec) : _root_.Go.OpenSpec := { _root_.Go.OpenSpec.ofChange s with cond := some uptoSmall }

/-- 'lyceumlaw32.GradeTells', WHERE WHAT IT READS IS OF BULK AT MOST 1048576: true; the input reads as it did. -/
def gradeTellsUptoRow : OpenClaim := { program := "ytkoomafopmiebaa", sum := "399e669d2cd9057068f27892911fb20acf48dd2be656c94d9d8f5c199026f7e8", func := "lyceum/lyceumlaw32.GradeTells", spec := "gradeTells", unfollowed := true, recurses := true, apart := false, narrowed := true }
def GradeTellsUptoSaid : Prop := gradeTellsUptoRow.holds Try.pinned (OpenSpec.upto gradeTellsSpec)

/-- 'lyceumlaw32.GradeFair', WHERE WHAT IT READS IS OF BULK AT MOST 1048576: true; the input reads as it did. -/
def gradeFairUptoRow : OpenClaim := { program := "ytkoomafopmiebaa", sum := "399e669d2cd9057068f27892911fb20acf48dd2be656c94d9d8f5c199026f7e8", func := "lyceum/lyceumlaw32.GradeFair", spec := "gradeFair", unfollowed := true, recurses := true, apart := false, narrowed := true }
def GradeFairUptoSaid : Prop := gradeFairUptoRow.holds Try.pinned (OpenSpec.upto gradeFairSpec)

/-- 'lyceumlaw32.GradeSays', WHERE WHAT IT READS IS OF BULK AT MOST 1048576: true; the input reads as it did. -/
def gradeSaysUptoRow : OpenClaim := { program := "ytkoomafopmiebaa", sum := "399e669d2cd9057068f27892911fb20acf48dd2be656c94d9d8f5c199026f7e8", func := "lyceum/lyceumlaw32.GradeSays", spec := "gradeSays", unfollowed := true, recurses := true, apart := false, narrowed := true }
def GradeSaysUptoSaid : Prop := gradeSaysUptoRow.holds Try.pinned (OpenSpec.upto gradeSaysSpec)

/-- 'lyceumlaw32.GradeShares', WHERE WHAT IT READS IS OF BULK AT MOST 1048576: true; the input reads as it did. -/
def gradeSharesUptoRow : OpenClaim := { program := "ytkoomafopmiebaa", sum := "399e669d2cd9057068f27892911fb20acf48dd2be656c94d9d8f5c199026f7e8", func := "lyceum/lyceumlaw32.GradeShares", spec := "gradeShares", unfollowed := true, recurses := true, apart := false, narrowed := true }
def GradeSharesUptoSaid : Prop := gradeSharesUptoRow.holds Try.pinned (OpenSpec.upto gradeSharesSpec)

/-- 'lyceumlaw32.GradeTotals', WHERE WHAT IT READS IS OF BULK AT MOST 1048576: true; the input reads as it did. -/
def gradeTotalsUptoRow : OpenClaim := { program := "ytkoomafopmiebaa", sum := "399e669d2cd9057068f27892911fb20acf48dd2be656c94d9d8f5c199026f7e8", func := "lyceum/lyceumlaw32.GradeTotals", spec := "gradeTotals", unfollowed := true, recurses := true, apart := false, narrowed := true }
def GradeTotalsUptoSaid : Prop := gradeTotalsUptoRow.holds Try.pinned (OpenSpec.upto gradeTotalsSpec)

/-- 'lyceumlaw32.GradeWrong', WHERE WHAT IT READS IS OF BULK AT MOST 1048576: true; the input reads as it did. -/
def gradeWrongUptoRow : OpenClaim := { program := "ytkoomafopmiebaa", sum := "399e669d2cd9057068f27892911fb20acf48dd2be656c94d9d8f5c199026f7e8", func := "lyceum/lyceumlaw32.GradeWrong", spec := "gradeWrong", unfollowed := true, recurses := true, apart := false, narrowed := true }
def GradeWrongUptoSaid : Prop := gradeWrongUptoRow.holds Try.pinned (OpenSpec.upto gradeWrongSpec)

end Rows
end Go.Proofs.Ytkoomafopmiebaa
