/-
  No cell of these rows narrows 'for every input' (looked for: loops, veiled, ifaces, maps, wideKeys, modest, calm, conditions, laid).
  DERIVED. THE GIVEN ROWS OF THIS SEAT. 7 by the template 'for every input the law returns true; each argument reads behind the call as it read before'; 0 by the template 'total and deterministic' (their statements: YtgopbbkpcjgihaaTotals.lean).
  GIVEN WITH THE SEED: the statements are not yours to turn. If you find one false, say at which input.
  Laid BY PROGRAM, IN A SANDBOX (cutbox-rows.mjs): the forced cells as the released guide's own fill.sh prints them over the translation 0951740bbf981b22… (all of the seat's roots in one cut). By AI agents, Wed Nov 11 2026. No macro, syntax, notation, axiom, sorry.
-/
import Derived.Test.YtgopbbkpcjgihaaChecked
import GoSem.Claim
import GoSem.ClaimJoined
import GoSem.ClaimMapViews
import Derived.JoinedTies
import Derived.KernelRfl
namespace Go.Proofs.Ytgopbbkpcjgihaa
/- THE CELL 'sum', in the pinned program and in every row, IS THE sha256 OF THE DUMP (.gsa) THAT YtgopbbkpcjgihaaProg.lean LOADS. Nothing in Lean hashes anything: it is a label: what it is worth is what the hold of that sum in a sandbox is worth. -/
noncomputable def Try.pinned : Pinned := { name := "ytgopbbkpcjgihaa", sum := "0951740bbf981b2201094fa4a940920cc5aff1dfc00a7bd2b60bc9900a7b7d85", checked := Try.checked }
namespace Rows
def none {H : Type} : Left H := { results := [], args := [] }

/-- 'lyceumlaw38.RegradeAdds': WHATEVER THE INPUT: true; the input reads as it did. -/
def regradeAddsSpec : ChangeSpec := { name := "regradeAdds", fn := fun _ => fun
  | [d1, d2, d3, d4] => { results := [.lit (.bool true)], args := [d1, d2, d3, d4] }
  | _ => none }
def regradeAddsRow : OpenClaim := { program := "ytgopbbkpcjgihaa", sum := "0951740bbf981b2201094fa4a940920cc5aff1dfc00a7bd2b60bc9900a7b7d85", func := "lyceum/lyceumlaw38.RegradeAdds", spec := "regradeAdds", inPlace := ["slices.overlaps[lyceum/regrade.Series]"], unfollowed := true, recurses := true, plainKeys := false, apart := false }
def RegradeAddsSaid : Prop := regradeAddsRow.holds Try.pinned (OpenSpec.ofChange regradeAddsSpec)

/-- ITS FALSE NEIGHBOUR: 'it returns false'. Refute it at one input. -/
def regradeAddsWrong : ChangeSpec := { name := "regradeAdds", fn := fun _ => fun
  | [d1, d2, d3, d4] => { results := [.lit (.bool false)], args := [d1, d2, d3, d4] }
  | _ => none }
def RegradeAddsWrongFalsely : Prop := regradeAddsRow.holds Try.pinned (OpenSpec.ofChange regradeAddsWrong)

/-- 'lyceumlaw38.RegradeKeeps': WHATEVER THE INPUT: true; the input reads as it did. -/
def regradeKeepsSpec : ChangeSpec := { name := "regradeKeeps", fn := fun _ => fun
  | [d1, d2, d3] => { results := [.lit (.bool true)], args := [d1, d2, d3] }
  | _ => none }
def regradeKeepsRow : OpenClaim := { program := "ytgopbbkpcjgihaa", sum := "0951740bbf981b2201094fa4a940920cc5aff1dfc00a7bd2b60bc9900a7b7d85", func := "lyceum/lyceumlaw38.RegradeKeeps", spec := "regradeKeeps", inPlace := ["slices.overlaps[lyceum/regrade.Series]"], unfollowed := true, recurses := true, plainKeys := false, apart := false }
def RegradeKeepsSaid : Prop := regradeKeepsRow.holds Try.pinned (OpenSpec.ofChange regradeKeepsSpec)

/-- ITS FALSE NEIGHBOUR: 'it returns false'. Refute it at one input. -/
def regradeKeepsWrong : ChangeSpec := { name := "regradeKeeps", fn := fun _ => fun
  | [d1, d2, d3] => { results := [.lit (.bool false)], args := [d1, d2, d3] }
  | _ => none }
def RegradeKeepsWrongFalsely : Prop := regradeKeepsRow.holds Try.pinned (OpenSpec.ofChange regradeKeepsWrong)

/-- 'lyceumlaw38.RegradeApart': WHATEVER THE INPUT: true; the input reads as it did. -/
def regradeApartSpec : ChangeSpec := { name := "regradeApart", fn := fun _ => fun
  | [d1, d2, d3, d4] => { results := [.lit (.bool true)], args := [d1, d2, d3, d4] }
  | _ => none }
def regradeApartRow : OpenClaim := { program := "ytgopbbkpcjgihaa", sum := "0951740bbf981b2201094fa4a940920cc5aff1dfc00a7bd2b60bc9900a7b7d85", func := "lyceum/lyceumlaw38.RegradeApart", spec := "regradeApart", inPlace := ["slices.overlaps[lyceum/regrade.Series]"], unfollowed := true, recurses := true, plainKeys := false, apart := false }
def RegradeApartSaid : Prop := regradeApartRow.holds Try.pinned (OpenSpec.ofChange regradeApartSpec)

/-- ITS FALSE NEIGHBOUR: 'it returns false'. Refute it at one input. -/
def regradeApartWrong : ChangeSpec := { name := "regradeApart", fn := fun _ => fun
  | [d1, d2, d3, d4] => { results := [.lit (.bool false)], args := [d1, d2, d3, d4] }
  | _ => none }
def RegradeApartWrongFalsely : Prop := regradeApartRow.holds Try.pinned (OpenSpec.ofChange regradeApartWrong)

/-- 'lyceumlaw38.RegradeSame': WHATEVER THE INPUT: true; the input reads as it did. -/
def regradeSameSpec : ChangeSpec := { name := "regradeSame", fn := fun _ => fun
  | [d1, d2, d3, d4] => { results := [.lit (.bool true)], args := [d1, d2, d3, d4] }
  | _ => none }
def regradeSameRow : OpenClaim := { program := "ytgopbbkpcjgihaa", sum := "0951740bbf981b2201094fa4a940920cc5aff1dfc00a7bd2b60bc9900a7b7d85", func := "lyceum/lyceumlaw38.RegradeSame", spec := "regradeSame", inPlace := ["slices.overlaps[lyceum/regrade.Series]"], unfollowed := true, recurses := true, plainKeys := false, apart := false }
def RegradeSameSaid : Prop := regradeSameRow.holds Try.pinned (OpenSpec.ofChange regradeSameSpec)

/-- ITS FALSE NEIGHBOUR: 'it returns false'. Refute it at one input. -/
def regradeSameWrong : ChangeSpec := { name := "regradeSame", fn := fun _ => fun
  | [d1, d2, d3, d4] => { results := [.lit (.bool false)], args := [d1, d2, d3, d4] }
  | _ => none }
def RegradeSameWrongFalsely : Prop := regradeSameRow.holds Try.pinned (OpenSpec.ofChange regradeSameWrong)

/-- 'lyceumlaw38.RegradeRows': WHATEVER THE INPUT: true; the input reads as it did. -/
def regradeRowsSpec : ChangeSpec := { name := "regradeRows", fn := fun _ => fun
  | [d1, d2] => { results := [.lit (.bool true)], args := [d1, d2] }
  | _ => none }
def regradeRowsRow : OpenClaim := { program := "ytgopbbkpcjgihaa", sum := "0951740bbf981b2201094fa4a940920cc5aff1dfc00a7bd2b60bc9900a7b7d85", func := "lyceum/lyceumlaw38.RegradeRows", spec := "regradeRows", inPlace := ["slices.overlaps[lyceum/regrade.Series]"], unfollowed := true, recurses := true, plainKeys := false, apart := false }
def RegradeRowsSaid : Prop := regradeRowsRow.holds Try.pinned (OpenSpec.ofChange regradeRowsSpec)

/-- ITS FALSE NEIGHBOUR: 'it returns false'. Refute it at one input. -/
def regradeRowsWrong : ChangeSpec := { name := "regradeRows", fn := fun _ => fun
  | [d1, d2] => { results := [.lit (.bool false)], args := [d1, d2] }
  | _ => none }
def RegradeRowsWrongFalsely : Prop := regradeRowsRow.holds Try.pinned (OpenSpec.ofChange regradeRowsWrong)

/-- 'lyceumlaw38.RegradeChanges': WHATEVER THE INPUT: true; the input reads as it did. -/
def regradeChangesSpec : ChangeSpec := { name := "regradeChanges", fn := fun _ => fun
  | [d1, d2, d3] => { results := [.lit (.bool true)], args := [d1, d2, d3] }
  | _ => none }
def regradeChangesRow : OpenClaim := { program := "ytgopbbkpcjgihaa", sum := "0951740bbf981b2201094fa4a940920cc5aff1dfc00a7bd2b60bc9900a7b7d85", func := "lyceum/lyceumlaw38.RegradeChanges", spec := "regradeChanges", inPlace := ["slices.overlaps[lyceum/regrade.Series]"], unfollowed := true, recurses := true, plainKeys := false, apart := false }
def RegradeChangesSaid : Prop := regradeChangesRow.holds Try.pinned (OpenSpec.ofChange regradeChangesSpec)

/-- ITS FALSE NEIGHBOUR: 'it returns false'. Refute it at one input. -/
def regradeChangesWrong : ChangeSpec := { name := "regradeChanges", fn := fun _ => fun
  | [d1, d2, d3] => { results := [.lit (.bool false)], args := [d1, d2, d3] }
  | _ => none }
def RegradeChangesWrongFalsely : Prop := regradeChangesRow.holds Try.pinned (OpenSpec.ofChange regradeChangesWrong)

/-- 'lyceumlaw38.RegradeWrong': WHATEVER THE INPUT: true; the input reads as it did. -/
def regradeWrongSpec : ChangeSpec := { name := "regradeWrong", fn := fun _ => fun
  | [d1, d2] => { results := [.lit (.bool true)], args := [d1, d2] }
  | _ => none }
def regradeWrongRow : OpenClaim := { program := "ytgopbbkpcjgihaa", sum := "0951740bbf981b2201094fa4a940920cc5aff1dfc00a7bd2b60bc9900a7b7d85", func := "lyceum/lyceumlaw38.RegradeWrong", spec := "regradeWrong", inPlace := ["slices.overlaps[lyceum/regrade.Series]"], unfollowed := true, recurses := true, plainKeys := false, apart := false }
def RegradeWrongSaid : Prop := regradeWrongRow.holds Try.pinned (OpenSpec.ofChange regradeWrongSpec)

/-- ITS FALSE NEIGHBOUR: 'it returns false'. Refute it at one input. -/
def regradeWrongWrong : ChangeSpec := { name := "regradeWrong", fn := fun _ => fun
  | [d1, d2] => { results := [.lit (.bool false)], args := [d1, d2] }
  | _ => none }
def RegradeWrongWrongFalsely : Prop := regradeWrongRow.holds Try.pinned (OpenSpec.ofChange regradeWrongWrong)

/- THE SECOND FORM. 'bulk': how many values and letters a reading holds, each counted each time it is reached (what is shared counts as often as it is met; a slice's spare places count too). A statement '..UptoSaid' is the law's where the arguments, and the package variables that the reading takes, are together of bulk at most 1048576: NARROWER than '..Said'. Prove '..Said' where nothing that the law and all that it calls make is longer than what came in: it says more and counts as full. Else prove '..UptoSaid'. A law counts once. -/
mutual
def uptoBulk {H : Type} : DataW H → Nat
  | .lit (.string bytes) => bytes.length + 1
  | .lit _ => 1
  | .nil => 1
  | .ptr d => uptoBulk d + 1
  | .slice elems spare => uptoBulkAll elems + uptoBulkAll spare + 1
  | .agg parts => uptoBulkAll parts + 1
  | .iface _ d => uptoBulk d + 1
  | .map entries => uptoBulkEntries entries + 1
  | .held _ => 1
def uptoBulkAll {H : Type} : List (DataW H) → Nat
  | [] => 0
  | d :: r => uptoBulk d + uptoBulkAll r
def uptoBulkEntries {H : Type} : List (Lit × DataW H) → Nat
  | [] => 0
  | x :: r => uptoBulkEntry x + uptoBulkEntries r
def uptoBulkEntry {H : Type} : Lit × DataW H → Nat
  | (.string bytes, d) => bytes.length + uptoBulk d + 1
  | (_, d) => uptoBulk d + 1
 end
def uptoSmall : (H : Type) → List (DataW H) → Bool := fun _ ds => decide (uptoBulkAll ds ≤ 1048576)
def OpenSpec.upto (s : _root_.Go.ChangeSpec) : _root_.Go.OpenSpec := { _root_.Go.OpenSpec.ofChange s with cond := some uptoSmall }

/-- 'lyceumlaw38.RegradeAdds', WHERE WHAT IT READS IS OF BULK AT MOST 1048576: true; the input reads as it did. -/
def regradeAddsUptoRow : OpenClaim := { program := "ytgopbbkpcjgihaa", sum := "0951740bbf981b2201094fa4a940920cc5aff1dfc00a7bd2b60bc9900a7b7d85", func := "lyceum/lyceumlaw38.RegradeAdds", spec := "regradeAdds", inPlace := ["slices.overlaps[lyceum/regrade.Series]"], unfollowed := true, recurses := true, plainKeys := false, apart := false, narrowed := true }
def RegradeAddsUptoSaid : Prop := regradeAddsUptoRow.holds Try.pinned (OpenSpec.upto regradeAddsSpec)

/-- 'lyceumlaw38.RegradeKeeps', WHERE WHAT IT READS IS OF BULK AT MOST 1048576: true; the input reads as it did. -/
def regradeKeepsUptoRow : OpenClaim := { program := "ytgopbbkpcjgihaa", sum := "0951740bbf981b2201094fa4a940920cc5aff1dfc00a7bd2b60bc9900a7b7d85", func := "lyceum/lyceumlaw38.RegradeKeeps", spec := "regradeKeeps", inPlace := ["slices.overlaps[lyceum/regrade.Series]"], unfollowed := true, recurses := true, plainKeys := false, apart := false, narrowed := true }
def RegradeKeepsUptoSaid : Prop := regradeKeepsUptoRow.holds Try.pinned (OpenSpec.upto regradeKeepsSpec)

/-- 'lyceumlaw38.RegradeApart', WHERE WHAT IT READS IS OF BULK AT MOST 1048576: true; the input reads as it did. -/
def regradeApartUptoRow : OpenClaim := { program := "ytgopbbkpcjgihaa", sum := "0951740bbf981b2201094fa4a940920cc5aff1dfc00a7bd2b60bc9900a7b7d85", func := "lyceum/lyceumlaw38.RegradeApart", spec := "regradeApart", inPlace := ["slices.overlaps[lyceum/regrade.Series]"], unfollowed := true, recurses := true, plainKeys := false, apart := false, narrowed := true }
def RegradeApartUptoSaid : Prop := regradeApartUptoRow.holds Try.pinned (OpenSpec.upto regradeApartSpec)

/-- 'lyceumlaw38.RegradeSame', WHERE WHAT IT READS IS OF BULK AT MOST 1048576: true; the input reads as it did. -/
def regradeSameUptoRow : OpenClaim := { program := "ytgopbbkpcjgihaa", sum := "0951740bbf981b2201094fa4a940920cc5aff1dfc00a7bd2b60bc9900a7b7d85", func := "lyceum/lyceumlaw38.RegradeSame", spec := "regradeSame", inPlace := ["slices.overlaps[lyceum/regrade.Series]"], unfollowed := true, recurses := true, plainKeys := false, apart := false, narrowed := true }
def RegradeSameUptoSaid : Prop := regradeSameUptoRow.holds Try.pinned (OpenSpec.upto regradeSameSpec)

/-- 'lyceumlaw38.RegradeRows', WHERE WHAT IT READS IS OF BULK AT MOST 1048576: true; the input reads as it did. -/
def regradeRowsUptoRow : OpenClaim := { program := "ytgopbbkpcjgihaa", sum := "0951740bbf981b2201094fa4a940920cc5aff1dfc00a7bd2b60bc9900a7b7d85", func := "lyceum/lyceumlaw38.RegradeRows", spec := "regradeRows", inPlace := ["slices.overlaps[lyceum/regrade.Series]"], unfollowed := true, recurses := true, plainKeys := false, apart := false, narrowed := true }
def RegradeRowsUptoSaid : Prop := regradeRowsUptoRow.holds Try.pinned (OpenSpec.upto regradeRowsSpec)

/-- 'lyceumlaw38.RegradeChanges', WHERE WHAT IT READS IS OF BULK AT MOST 1048576: true; the input reads as it did. -/
def regradeChangesUptoRow : OpenClaim := { program := "ytgopbbkpcjgihaa", sum := "0951740bbf981b2201094fa4a940920cc5aff1dfc00a7bd2b60bc9900a7b7d85", func := "lyceum/lyceumlaw38.RegradeChanges", spec := "regradeChanges", inPlace := ["slices.overlaps[lyceum/regrade.Series]"], unfollowed := true, recurses := true, plainKeys := false, apart := false, narrowed := true }
def RegradeChangesUptoSaid : Prop := regradeChangesUptoRow.holds Try.pinned (OpenSpec.upto regradeChangesSpec)

/-- 'lyceumlaw38.RegradeWrong', WHERE WHAT IT READS IS OF BULK AT MOST 1048576: true; the input reads as it did. -/
def regradeWrongUptoRow : OpenClaim := { program := "ytgopbbkpcjgihaa", sum := "0951740bbf981b2201094fa4a940920cc5aff1dfc00a7bd2b60bc9900a7b7d85", func := "lyceum/lyceumlaw38.RegradeWrong", spec := "regradeWrong", inPlace := ["slices.overlaps[lyceum/regrade.Series]"], unfollowed := true, recurses := true, plainKeys := false, apart := false, narrowed := true }
def RegradeWrongUptoSaid : Prop := regradeWrongUptoRow.holds Try.pinned (OpenSpec.upto regradeWrongSpec)

end Rows
end Go.Proofs.Ytgopbbkpcjgihaa
