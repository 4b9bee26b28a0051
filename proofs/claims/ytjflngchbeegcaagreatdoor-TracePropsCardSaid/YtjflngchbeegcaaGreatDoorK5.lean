/- A text of the proof: the parts T13z, A13z, B13z, C13z, D13z, F13z, G13z, H13z, I13z, J13z, K13z, L13z, M13z. -/
import Derived.Test.YtjflngchbeegcaaGreatDoorRows
import Derived.Test.YtjflngchbeegcaaGreatDoorK4
set_option linter.unusedSimpArgs false
set_option linter.unusedVariables false
/-! text T13z -/
namespace Go.Proofs.YtjflngchbeegcaaGreatDoor
open Go.Vsi
def Tryz.gl : List (Nat × List AV) := [(0, [.int .u64 12297829382473034410, .int .u64 14757395258967641292, .int .u64 17361641481138401520, .int .u64 18374966859414961920, .int .u64 18446462603027742720, .int .u64 18446744069414584320]), (1, [.bool false, .bool false, .int .u8 0, .int .i64 0, .int .i64 0, .bool true, .bool true, .int .u8 1, .int .i64 4, .int .i64 0, .bool true, .bool true, .int .u8 0, .int .i64 0, .int .i64 0, .bool true, .bool true, .int .u8 0, .int .i64 0, .int .i64 1, .bool true, .bool true, .int .u8 0, .int .i64 0, .int .i64 2, .bool true, .bool true, .int .u8 0, .int .i64 0, .int .i64 2, .bool true, .bool true, .int .u8 0, .int .i64 0, .int .i64 2, .bool true, .bool true, .int .u8 0, .int .i64 0, .int .i64 2, .bool true, .bool true, .int .u8 2, .int .i64 0, .int .i64 1, .bool true, .bool true, .int .u8 2, .int .i64 0, .int .i64 1, .bool true, .bool true, .int .u8 0, .int .i64 0, .int .i64 1, .bool true, .bool true, .int .u8 0, .int .i64 0, .int .i64 1, .bool true, .bool true, .int .u8 0, .int .i64 0, .int .i64 1, .bool true, .bool true, .int .u8 0, .int .i64 0, .int .i64 1, .bool true, .bool true, .int .u8 0, .int .i64 0, .int .i64 2, .bool false, .bool true, .int .u8 3, .int .i64 0, .int .i64 0, .bool false, .bool true, .int .u8 3, .int .i64 2, .int .i64 0])]
theorem Tryz.gl_low : ∀ p ∈ Tryz.gl, belowL 0 p.2 := by
  intro p hp
  simp only [Tryz.gl, List.mem_cons, List.not_mem_nil, or_false] at hp
  (repeat' rcases hp with hp | hp) <;> try subst hp
  all_goals first
  | exact hp.elim
  | (repeat' (first | exact trivial | refine And.intro ?_ ?_))
instance Tryz.glob : Glob := ⟨Tryz.gl, Tryz.gl_low⟩
def Tryz.tl : List (Option TI) := [
  some ⟨.other, 1, 0, (some [.junk])⟩,
  some ⟨.fn, 1, 8, (some [.nilf])⟩,
  some ⟨.int .i64, 1, 8, (some [.int .i64 0])⟩,
  some ⟨.int .i64, 1, 8, (some [.int .i64 0])⟩,
  some ⟨.bool, 1, 1, (some [.bool false])⟩,
  some ⟨.int .u8, 1, 1, (some [.int .u8 0])⟩,
  some ⟨.int .u8, 1, 1, (some [.int .u8 0])⟩,
  some ⟨.st [(2, 0, 1, false), (3, 1, 1, false), (4, 2, 1, false), (6, 3, 1, false)], 4, 24, (some [.int .i64 0, .int .i64 0, .bool false, .int .u8 0])⟩,
  some ⟨.st [(2, 0, 1, false), (3, 1, 1, false), (4, 2, 1, false), (6, 3, 1, false)], 4, 24, (some [.int .i64 0, .int .i64 0, .bool false, .int .u8 0])⟩,
  some ⟨.str, 1, 16, (some [.str .empty])⟩,
  some ⟨.str, 1, 16, (some [.str .empty])⟩,
  some ⟨.str, 1, 16, (some [.str .empty])⟩,
  some ⟨.int .u64, 1, 8, (some [.int .u64 0])⟩,
  some ⟨.st [(9, 0, 1, false), (12, 1, 1, false)], 2, 24, (some [.str .empty, .int .u64 0])⟩,
  some ⟨.st [(9, 0, 1, false), (12, 1, 1, false)], 2, 24, (some [.str .empty, .int .u64 0])⟩,
  some ⟨.ptr 197, 1, 8, (some [.nilp])⟩,
  some ⟨.ptr 200, 1, 8, (some [.nilp])⟩,
  some ⟨.ptr 209, 1, 8, (some [.nilp])⟩,
  some ⟨.st [(17, 0, 1, false)], 1, 8, (some [.nilp])⟩,
  some ⟨.st [(17, 0, 1, false)], 1, 8, (some [.nilp])⟩,
  some ⟨.ifc, 1, 16, (some [.nili])⟩,
  some ⟨.int .i32, 1, 4, (some [.int .i32 0])⟩,
  some ⟨.sl 3, 1, 24, (some [.nils])⟩,
  some ⟨.sl 60, 1, 24, (some [.nils])⟩,
  some ⟨.sl 56, 1, 24, (some [.nils])⟩,
  some ⟨.sl 58, 1, 24, (some [.nils])⟩,
  some ⟨.st [(5, 0, 1, false), (3, 1, 1, false), (22, 2, 1, false), (3, 3, 1, false), (23, 4, 1, false), (24, 5, 1, false), (25, 6, 1, false)], 7, 120, (some [.int .u8 0, .int .i64 0, .nils, .int .i64 0, .nils, .nils, .nils])⟩,
  some ⟨.st [(5, 0, 1, false), (3, 1, 1, false), (22, 2, 1, false), (3, 3, 1, false), (23, 4, 1, false), (24, 5, 1, false), (25, 6, 1, false)], 7, 120, (some [.int .u8 0, .int .i64 0, .nils, .int .i64 0, .nils, .nils, .nils])⟩,
  some ⟨.sl 9, 1, 24, (some [.nils])⟩,
  some ⟨.fn, 1, 8, (some [.nilf])⟩,
  some ⟨.fn, 1, 8, (some [.nilf])⟩,
  some ⟨.fn, 1, 8, (some [.nilf])⟩,
  some ⟨.fn, 1, 8, (some [.nilf])⟩,
  some ⟨.int .i64, 1, 8, (some [.int .i64 0])⟩,
  some ⟨.other, 1, 0, (some [.junk])⟩,
  some ⟨.fn, 1, 8, (some [.nilf])⟩,
  some ⟨.other, 1, 0, (some [.junk])⟩,
  some ⟨.fn, 1, 8, (some [.nilf])⟩,
  some ⟨.other, 1, 0, (some [.junk])⟩,
  some ⟨.fn, 1, 8, (some [.nilf])⟩,
  some ⟨.fn, 1, 8, (some [.nilf])⟩,
  some ⟨.fn, 1, 8, (some [.nilf])⟩,
  some ⟨.fn, 1, 8, (some [.nilf])⟩,
  some ⟨.fn, 1, 8, (some [.nilf])⟩,
  some ⟨.fn, 1, 8, (some [.nilf])⟩,
  some ⟨.fn, 1, 8, (some [.nilf])⟩,
  some ⟨.fn, 1, 8, (some [.nilf])⟩,
  some ⟨.sl 63, 1, 24, (some [.nils])⟩,
  some ⟨.sl 50, 1, 24, (some [.nils])⟩,
  some ⟨.st [(5, 0, 1, false), (9, 1, 1, false), (47, 2, 1, false), (48, 3, 1, false)], 4, 72, (some [.int .u8 0, .str .empty, .nils, .nils])⟩,
  some ⟨.st [(5, 0, 1, false), (9, 1, 1, false), (47, 2, 1, false), (48, 3, 1, false)], 4, 72, (some [.int .u8 0, .str .empty, .nils, .nils])⟩,
  some ⟨.fn, 1, 8, (some [.nilf])⟩,
  some ⟨.fn, 1, 8, (some [.nilf])⟩,
  some ⟨.fn, 1, 8, (some [.nilf])⟩,
  some ⟨.fn, 1, 8, (some [.nilf])⟩,
  some ⟨.st [(9, 0, 1, false), (3, 1, 1, false), (22, 2, 1, false)], 3, 48, (some [.str .empty, .int .i64 0, .nils])⟩,
  some ⟨.st [(9, 0, 1, false), (3, 1, 1, false), (22, 2, 1, false)], 3, 48, (some [.str .empty, .int .i64 0, .nils])⟩,
  some ⟨.st [(9, 0, 1, false), (3, 1, 1, false)], 2, 24, (some [.str .empty, .int .i64 0])⟩,
  some ⟨.st [(9, 0, 1, false), (3, 1, 1, false)], 2, 24, (some [.str .empty, .int .i64 0])⟩,
  some ⟨.st [(9, 0, 1, false), (3, 1, 1, false), (3, 2, 1, false)], 3, 32, (some [.str .empty, .int .i64 0, .int .i64 0])⟩,
  some ⟨.st [(9, 0, 1, false), (3, 1, 1, false), (3, 2, 1, false)], 3, 32, (some [.str .empty, .int .i64 0, .int .i64 0])⟩,
  some ⟨.sl 28, 1, 24, (some [.nils])⟩,
  some ⟨.st [(4, 0, 1, false), (9, 1, 1, false), (47, 2, 1, false)], 3, 48, (some [.bool false, .str .empty, .nils])⟩,
  some ⟨.st [(4, 0, 1, false), (9, 1, 1, false), (47, 2, 1, false)], 3, 48, (some [.bool false, .str .empty, .nils])⟩,
  some ⟨.arr 3 5, 3, 3, (some [.int .u8 0, .int .u8 0, .int .u8 0])⟩,
  some ⟨.sl 5, 1, 24, (some [.nils])⟩,
  some ⟨.int .u16, 1, 2, (some [.int .u16 0])⟩,
  some ⟨.fn, 1, 8, (some [.nilf])⟩,
  some ⟨.fn, 1, 8, (some [.nilf])⟩,
  some ⟨.fn, 1, 8, (some [.nilf])⟩,
  some ⟨.fn, 1, 8, (some [.nilf])⟩,
  some ⟨.fn, 1, 8, (some [.nilf])⟩,
  some ⟨.int .u64, 1, 8, (some [.int .u64 0])⟩,
  some ⟨.fn, 1, 8, (some [.nilf])⟩,
  some ⟨.fn, 1, 8, (some [.nilf])⟩,
  some ⟨.fn, 1, 8, (some [.nilf])⟩,
  some ⟨.st [(50, 0, 4, false), (3, 4, 1, false)], 5, 80, (some [.int .u8 0, .str .empty, .nils, .nils, .int .i64 0])⟩,
  some ⟨.sl 76, 1, 24, (some [.nils])⟩,
  some ⟨.fn, 1, 8, (some [.nilf])⟩,
  some ⟨.fn, 1, 8, (some [.nilf])⟩,
  some ⟨.fn, 1, 8, (some [.nilf])⟩,
  some ⟨.fn, 1, 8, (some [.nilf])⟩,
  some ⟨.fn, 1, 8, (some [.nilf])⟩,
  some ⟨.fn, 1, 8, (some [.nilf])⟩,
  some ⟨.fn, 1, 8, (some [.nilf])⟩,
  some ⟨.fn, 1, 8, (some [.nilf])⟩,
  some ⟨.fn, 1, 8, (some [.nilf])⟩,
  some ⟨.fn, 1, 8, (some [.nilf])⟩,
  some ⟨.fn, 1, 8, (some [.nilf])⟩,
  some ⟨.fn, 1, 8, (some [.nilf])⟩,
  some ⟨.fn, 1, 8, (some [.nilf])⟩,
  some ⟨.fn, 1, 8, (some [.nilf])⟩,
  some ⟨.fn, 1, 8, (some [.nilf])⟩,
  some ⟨.fn, 1, 8, (some [.nilf])⟩,
  some ⟨.fn, 1, 8, (some [.nilf])⟩,
  some ⟨.fn, 1, 8, (some [.nilf])⟩,
  some ⟨.fn, 1, 8, (some [.nilf])⟩,
  some ⟨.fn, 1, 8, (some [.nilf])⟩,
  some ⟨.fn, 1, 8, (some [.nilf])⟩,
  some ⟨.fn, 1, 8, (some [.nilf])⟩,
  some ⟨.fn, 1, 8, (some [.nilf])⟩,
  some ⟨.fn, 1, 8, (some [.nilf])⟩,
  some ⟨.fn, 1, 8, (some [.nilf])⟩,
  some ⟨.fn, 1, 8, (some [.nilf])⟩,
  some ⟨.mp 9 3, 1, 8, (some [.nilm])⟩,
  some ⟨.mp 5 88, 1, 8, (some [.nilm])⟩,
  some ⟨.fn, 1, 8, (some [.nilf])⟩,
  some ⟨.fn, 1, 8, (some [.nilf])⟩,
  some ⟨.other, 1, 0, (some [.junk])⟩,
  some ⟨.other, 1, 0, (some [.junk])⟩,
  some ⟨.ptr 139, 1, 8, (some [.nilp])⟩,
  some ⟨.other, 1, 0, (some [.junk])⟩,
  some ⟨.fn, 1, 8, (some [.nilf])⟩,
  some ⟨.int .u64, 1, 8, (some [.int .u64 0])⟩,
  some ⟨.fn, 1, 8, (some [.nilf])⟩,
  some ⟨.fn, 1, 8, (some [.nilf])⟩,
  some ⟨.fn, 1, 8, (some [.nilf])⟩,
  some ⟨.fn, 1, 8, (some [.nilf])⟩,
  some ⟨.fn, 1, 8, (some [.nilf])⟩,
  some ⟨.fn, 1, 8, (some [.nilf])⟩,
  some ⟨.fn, 1, 8, (some [.nilf])⟩,
  some ⟨.fn, 1, 8, (some [.nilf])⟩,
  some ⟨.fn, 1, 8, (some [.nilf])⟩,
  some ⟨.fn, 1, 8, (some [.nilf])⟩,
  some ⟨.fn, 1, 8, (some [.nilf])⟩,
  some ⟨.fn, 1, 8, (some [.nilf])⟩,
  some ⟨.fn, 1, 8, (some [.nilf])⟩,
  some ⟨.fn, 1, 8, (some [.nilf])⟩,
  some ⟨.fn, 1, 8, (some [.nilf])⟩,
  some ⟨.fn, 1, 8, (some [.nilf])⟩,
  some ⟨.sl 4, 1, 24, (some [.nils])⟩,
  some ⟨.fn, 1, 8, (some [.nilf])⟩,
  some ⟨.fn, 1, 8, (some [.nilf])⟩,
  some ⟨.fn, 1, 8, (some [.nilf])⟩,
  some ⟨.fn, 1, 8, (some [.nilf])⟩,
  some ⟨.fn, 1, 8, (some [.nilf])⟩,
  some ⟨.fn, 1, 8, (some [.nilf])⟩,
  some ⟨.mp 5 142, 1, 8, (some [.nilm])⟩,
  some ⟨.st [(104, 0, 1, false), (137, 1, 1, false)], 2, 16, (some [.nilm, .nilm])⟩,
  some ⟨.st [(104, 0, 1, false), (137, 1, 1, false)], 2, 16, (some [.nilm, .nilm])⟩,
  some ⟨.arr 6 113, 6, 48, (some [.int .u64 0, .int .u64 0, .int .u64 0, .int .u64 0, .int .u64 0, .int .u64 0])⟩,
  some ⟨.arr 2 113, 2, 16, (some [.int .u64 0, .int .u64 0])⟩,
  some ⟨.fn, 1, 8, (some [.nilf])⟩,
  some ⟨.fn, 1, 8, (some [.nilf])⟩,
  some ⟨.fn, 1, 8, (some [.nilf])⟩,
  some ⟨.fn, 1, 8, (some [.nilf])⟩,
  some ⟨.fn, 1, 8, (some [.nilf])⟩,
  some ⟨.fn, 1, 8, (some [.nilf])⟩,
  some ⟨.fn, 1, 8, (some [.nilf])⟩,
  some ⟨.st [(4, 0, 1, false), (3, 1, 1, false), (3, 2, 1, false)], 3, 24, (some [.bool false, .int .i64 0, .int .i64 0])⟩,
  some ⟨.st [(4, 0, 1, false), (3, 1, 1, false), (3, 2, 1, false)], 3, 24, (some [.bool false, .int .i64 0, .int .i64 0])⟩,
  some ⟨.fn, 1, 8, (some [.nilf])⟩,
  some ⟨.fn, 1, 8, (some [.nilf])⟩,
  some ⟨.fn, 1, 8, (some [.nilf])⟩,
  some ⟨.mp 9 4, 1, 8, (some [.nilm])⟩,
  some ⟨.fn, 1, 8, (some [.nilf])⟩,
  some ⟨.fn, 1, 8, (some [.nilf])⟩,
  some ⟨.fn, 1, 8, (some [.nilf])⟩,
  some ⟨.fn, 1, 8, (some [.nilf])⟩,
  some ⟨.fn, 1, 8, (some [.nilf])⟩,
  some ⟨.fn, 1, 8, (some [.nilf])⟩,
  some ⟨.fn, 1, 8, (some [.nilf])⟩,
  some ⟨.ptr 150, 1, 8, (some [.nilp])⟩,
  some ⟨.st [(4, 0, 1, false), (4, 1, 1, false), (5, 2, 1, false), (3, 3, 1, false), (3, 4, 1, false)], 5, 24, (some [.bool false, .bool false, .int .u8 0, .int .i64 0, .int .i64 0])⟩,
  some ⟨.st [(4, 0, 1, false), (4, 1, 1, false), (5, 2, 1, false), (3, 3, 1, false), (3, 4, 1, false)], 5, 24, (some [.bool false, .bool false, .int .u8 0, .int .i64 0, .int .i64 0])⟩,
  some ⟨.arr 17 164, 85, 408, (some [.bool false, .bool false, .int .u8 0, .int .i64 0, .int .i64 0, .bool false, .bool false, .int .u8 0, .int .i64 0, .int .i64 0, .bool false, .bool false, .int .u8 0, .int .i64 0, .int .i64 0, .bool false, .bool false, .int .u8 0, .int .i64 0, .int .i64 0, .bool false, .bool false, .int .u8 0, .int .i64 0, .int .i64 0, .bool false, .bool false, .int .u8 0, .int .i64 0, .int .i64 0, .bool false, .bool false, .int .u8 0, .int .i64 0, .int .i64 0, .bool false, .bool false, .int .u8 0, .int .i64 0, .int .i64 0, .bool false, .bool false, .int .u8 0, .int .i64 0, .int .i64 0, .bool false, .bool false, .int .u8 0, .int .i64 0, .int .i64 0, .bool false, .bool false, .int .u8 0, .int .i64 0, .int .i64 0, .bool false, .bool false, .int .u8 0, .int .i64 0, .int .i64 0, .bool false, .bool false, .int .u8 0, .int .i64 0, .int .i64 0, .bool false, .bool false, .int .u8 0, .int .i64 0, .int .i64 0, .bool false, .bool false, .int .u8 0, .int .i64 0, .int .i64 0, .bool false, .bool false, .int .u8 0, .int .i64 0, .int .i64 0, .bool false, .bool false, .int .u8 0, .int .i64 0, .int .i64 0])⟩,
  some ⟨.fn, 1, 8, (some [.nilf])⟩,
  some ⟨.fn, 1, 8, (some [.nilf])⟩,
  some ⟨.fn, 1, 8, (some [.nilf])⟩,
  some ⟨.fn, 1, 8, (some [.nilf])⟩,
  some ⟨.fn, 1, 8, (some [.nilf])⟩,
  some ⟨.fn, 1, 8, (some [.nilf])⟩,
  some ⟨.fn, 1, 8, (some [.nilf])⟩,
  some ⟨.fn, 1, 8, (some [.nilf])⟩,
  some ⟨.fn, 1, 8, (some [.nilf])⟩,
  some ⟨.fn, 1, 8, (some [.nilf])⟩,
  some ⟨.fn, 1, 8, (some [.nilf])⟩,
  some ⟨.int .i64, 1, 8, (some [.int .i64 0])⟩,
  some ⟨.other, 1, 0, (some [.junk])⟩,
  some ⟨.fn, 1, 8, (some [.nilf])⟩,
  some ⟨.fn, 1, 8, (some [.nilf])⟩,
  some ⟨.fn, 1, 8, (some [.nilf])⟩,
  some ⟨.fn, 1, 8, (some [.nilf])⟩,
  some ⟨.fn, 1, 8, (some [.nilf])⟩,
  some ⟨.int .u32, 1, 4, (some [.int .u32 0])⟩,
  some ⟨.fn, 1, 8, (some [.nilf])⟩,
  some ⟨.int .u64, 1, 8, (some [.int .u64 0])⟩,
  some ⟨.fn, 1, 8, (some [.nilf])⟩,
  some ⟨.fn, 1, 8, (some [.nilf])⟩,
  some ⟨.fn, 1, 8, (some [.nilf])⟩,
  some ⟨.ptr 3, 1, 8, (some [.nilp])⟩,
  some ⟨.fn, 1, 8, (some [.nilf])⟩,
  some ⟨.ptr 186, 1, 8, (some [.nilp])⟩,
  some ⟨.other, 1, 0, (some [.junk])⟩,
  some ⟨.fn, 1, 8, (some [.nilf])⟩,
  some ⟨.fn, 1, 8, (some [.nilf])⟩,
  some ⟨.st [(17, 0, 1, false), (17, 1, 1, false), (17, 2, 1, false), (9, 3, 1, false)], 4, 40, (some [.nilp, .nilp, .nilp, .str .empty])⟩,
  some ⟨.st [(17, 0, 1, false), (17, 1, 1, false), (17, 2, 1, false), (9, 3, 1, false)], 4, 40, (some [.nilp, .nilp, .nilp, .str .empty])⟩,
  some ⟨.arr 0 16, 0, 0, (some [])⟩,
  some ⟨.st [(198, 0, 0, true)], 0, 0, (some [])⟩,
  some ⟨.st [(198, 0, 0, true)], 0, 0, (some [])⟩,
  some ⟨.fn, 1, 8, (some [.nilf])⟩,
  some ⟨.int .u8, 1, 1, (some [.int .u8 0])⟩,
  some ⟨.int .u8, 1, 1, (some [.int .u8 0])⟩,
  some ⟨.fn, 1, 8, (some [.nilf])⟩,
  some ⟨.ptr 5, 1, 8, (some [.nilp])⟩,
  some ⟨.int .i32, 1, 4, (some [.int .i32 0])⟩,
  some ⟨.int .i32, 1, 4, (some [.int .i32 0])⟩,
  some ⟨.st [(12, 0, 1, false), (12, 1, 1, false), (184, 2, 1, false), (202, 3, 1, false), (5, 4, 1, false), (5, 5, 1, false), (203, 6, 1, false), (204, 7, 1, false), (205, 8, 1, false), (206, 9, 1, false), (207, 10, 1, false)], 11, 48, (some [.int .u64 0, .int .u64 0, .int .u32 0, .int .u8 0, .int .u8 0, .int .u8 0, .int .u8 0, .nilf, .nilp, .int .i32 0, .int .i32 0])⟩,
  some ⟨.st [(12, 0, 1, false), (12, 1, 1, false), (184, 2, 1, false), (202, 3, 1, false), (5, 4, 1, false), (5, 5, 1, false), (203, 6, 1, false), (204, 7, 1, false), (205, 8, 1, false), (206, 9, 1, false), (207, 10, 1, false)], 11, 48, (some [.int .u64 0, .int .u64 0, .int .u32 0, .int .u8 0, .int .u8 0, .int .u8 0, .int .u8 0, .nilf, .nilp, .int .i32 0, .int .i32 0])⟩,
  some ⟨.other, 1, 8, (some [.nilp])⟩]
theorem Tryz.tl_ok : (List.range 211).map (tiOf Tryz.prog) = Tryz.tl := by kernel_rfl
def Tryz.T (t : TypeId) : Option TI := match lget Tryz.tl t with
  | some x => x
  | none => none
theorem Tryz.T_ok : TOk Tryz.prog Tryz.T := by
  intro t ti h
  unfold Tryz.T at h
  rw [lget_eq] at h
  cases hx : Tryz.tl[t]? with
  | none => simp [hx] at h
  | some x =>
    simp only [hx] at h
    subst h
    rw [← Tryz.tl_ok] at hx
    simp only [List.getElem?_map, Option.map_eq_some_iff] at hx
    obtain ⟨j, h1, h2⟩ := hx
    have : j = t := by
      have hl := (List.getElem?_eq_some_iff.1 h1).1
      rw [List.getElem?_range (by simpa using hl)] at h1
      simpa using h1.symm
    subst this
    exact h2
def Tryz.eqs : List Nat := [60, 58]
def memB (t : Nat) : List Nat → Bool
  | [] => false
  | x :: l => match Nat.beq x t with
    | true => true
    | false => memB t l
theorem memB_mem {t : Nat} : ∀ {l : List Nat}, memB t l = true → t ∈ l
  | [], h => by cases h
  | x :: l, h => by
    simp only [memB] at h
    split at h
    · rename_i hb; rw [Nat.eq_of_beq_eq_true hb]; simp
    · exact List.mem_cons_of_mem _ (memB_mem h)
theorem Tryz.kn_all : (List.range 211).all (fieldsKnown Tryz.prog) = true := by kernel_rfl
theorem Tryz.zr_all : (List.range 211).all (zeroShape Tryz.prog) = true := by kernel_rfl
theorem Tryz.eq_all : Tryz.eqs.all (fun t => !Tryz.prog.stoodInHeld t && !Tryz.prog.eqGuardType Tryz.prog.depth t) = true := by kernel_rfl
def Tryz.kn (t : TypeId) : Nat := match memB t Tryz.eqs with
  | true => 2
  | false => match Nat.blt t 211 with
    | true => 1
    | false => 0
theorem Tryz.E0 : Env0 Tryz.prog Tryz.T Tryz.kn := ⟨(fun t ti h => by
  have h1 := Tryz.zr_all
  rw [List.all_eq_true] at h1
  refine h1 t (List.mem_range.2 ?_)
  unfold Tryz.T at h
  rw [lget_eq] at h
  rcases Nat.lt_or_ge t 211 with hl | hl
  · exact hl
  · rw [List.getElem?_eq_none (Nat.le_trans (Nat.le_of_ble_eq_true (by kernel_rfl)) hl)] at h
    cases h), Tryz.T_ok, (fun t n h => by
  have h1 := Tryz.kn_all
  rw [List.all_eq_true] at h1
  unfold Tryz.kn at h
  refine h1 t (List.mem_range.2 ?_)
  split at h
  · rename_i hm
    have : ∀ x ∈ Tryz.eqs, x < 211 := by decide
    exact this t (memB_mem hm)
  · split at h
    · rename_i hb; simp [Nat.blt] at hb; omega
    · cases h), (fun t n h => by
  have h1 := Tryz.eq_all
  rw [List.all_eq_true] at h1
  unfold Tryz.kn at h
  split at h
  · rename_i hm
    have := h1 t (memB_mem hm)
    simpa using this
  · split at h <;> omega)⟩
theorem Tryz.mx : Tryz.prog.follows .mixedOrders = true := by kernel_rfl
end Go.Proofs.YtjflngchbeegcaaGreatDoor
/-! text A13z -/
namespace Go.Proofs.YtjflngchbeegcaaGreatDoor
open Go.Vsi
attribute [local irreducible] VW VCall VO

/-! ### names of one letter -/
def nm (c : UInt8) : ByteArray := ⟨#[c]⟩
theorem nm_list (c : UInt8) : (nm c).toList = [c] := by rw [ByteArray.toList_eq]; rfl
theorem nm_ne (c : UInt8) (l : Array UInt8) (h : l.size ≠ 1) : ((nm c).toList == (ByteArray.mk l).toList) = false := by
  rw [nm_list, ByteArray.toList_eq]
  simp only [beq_eq_false_iff_ne, ne_eq]
  intro e
  apply h
  have := congrArg List.length e
  simpa using this.symm
theorem nm_eq (c d : UInt8) : ((nm c).toList == (nm d).toList) = (c == d) := by
  rw [nm_list, nm_list]
  simp [List.beq, BEq.beq]
theorem nm_lt (c d : UInt8) : Op.bytesLess (nm c).toList (nm d).toList = decide (c.toNat < d.toNat) := by
  rw [nm_list, nm_list]
  simp only [Op.bytesLess, Bool.and_false, Bool.or_false]
  rfl

theorem capital_c (c : UInt8) (h : 65 ≤ c.toNat ∧ c.toNat ≤ 90) (H : Heap) : VDet Tryz.prog 91 [.int .u8 c.toNat] H (.bool true) := by
  refine fn_det Tryz.E0 Tryz.mx Tryz.func91 (by kernel_rfl) rfl (Nat.le_of_ble_eq_true rfl) rfl fun hcl hbl => ?_
  (repeat' ((conv => whnf); (first | (refine IfN.id ?_; first | refine IfN.dT (by omega) ?_ | fail) | refine DrawN.mk' [] ?_ | fail))); all_goals (conv => whnf)
  exact EndN.det trivial (Wk.of_eq (by simp; omega))
theorem reserved_c (c : UInt8) (H : Heap) : VDet Tryz.prog 130 [.str (nm c)] H (.bool false) := by
  refine fn_det Tryz.E0 Tryz.mx Tryz.func130 (by kernel_rfl) rfl (Nat.le_of_ble_eq_true rfl) rfl fun hcl hbl => ?_
  (repeat' ((conv => whnf); (first | (refine IfN.id ?_; first | refine IfN.ff (nm_ne _ _ (by decide)) ?_ | fail) | refine DrawN.mk' [] ?_ | fail))); all_goals (conv => whnf)
  exact EndN.det trivial (Wk.refl _)
theorem checker_c (H : Heap) : VDet Tryz.prog 90 [.clo (.func 91) [] [], .clo (.func 92) [] []] H (.clo (.func 129) [] [.rptr [.clo (.func 91) [] []], .rptr [.clo (.func 92) [] []]]) := by
  refine fn_det Tryz.E0 Tryz.mx Tryz.func90 (by kernel_rfl) rfl (Nat.le_of_ble_eq_true rfl) rfl fun hcl hbl => ?_
  (repeat' ((conv => whnf); (first | refine DrawN.mk' [] ?_ | fail))); all_goals (conv => whnf)
  refine EndN.detF ?_ ?_ (Wk.refl _)
  · simp [below, belowL, fnBelow]
  · repeat' (first | exact FrzL.nil | refine FrzL.cons ?_ ?_ | refine Frz.sx ?_ | refine Frz.clo ?_ ?_ | refine Frz.agg ?_ | refine Frz.tup ?_ | refine Frz.ptr rfl rfl (FrzL.refl _) | refine Frz.ms (by exact rfl) (by exact rfl) (FrzL.refl _) | exact Frz.refl _ | fail)
theorem check_c (c : UInt8) (h : 65 ≤ c.toNat ∧ c.toNat ≤ 90) (H : Heap) : VDet Tryz.prog 129 [.str (nm c), .rptr [.clo (.func 91) [] []], .rptr [.clo (.func 92) [] []]] H (.bool true) := by
  refine fn_det Tryz.E0 Tryz.mx Tryz.func129 (by kernel_rfl) rfl (Nat.le_of_ble_eq_true rfl) rfl fun hcl hbl => ?_
  (repeat' ((conv => whnf); (first | (refine IfN.id ?_; first | refine IfN.not ?_ | refine IfN.tt rfl ?_ | refine IfN.ff rfl ?_ | fail) | (refine SideN.mk ?_ ?_; · first | kernel_rfl | omega | exact List.cons_ne_nil _ _ | (simp; done) | (simp; omega) | exact trivial | assumption | fail) | (refine CallD.id ?_; first | refine CallD.det _ (fun _ hq X => reserved_c _ _) ?_ | refine CallD.det _ (fun _ hq X => capital_c c h _) ?_ | fail) | refine ByteN.mk c rfl ?_ | refine DrawN.mk' [] ?_ | fail))); all_goals (conv => whnf)
  refine LoopN.rounds Tryz.E0 Tryz.mx 2 rfl ?_
  (repeat' ((conv => whnf); (first | (refine IfN.id ?_; first | refine IfN.ff rfl ?_ | fail) | refine DrawN.mk' [] ?_ | fail))); all_goals (conv => whnf)
  exact EndN.det trivial (Wk.refl _)
theorem predicate_c (c : UInt8) (h : 65 ≤ c.toNat ∧ c.toNat ≤ 90) (H : Heap) : VDet Tryz.prog 48 [.str (nm c)] H (.bool true) := by
  refine fn_det Tryz.E0 Tryz.mx Tryz.func48 (by kernel_rfl) rfl (Nat.le_of_ble_eq_true rfl) rfl fun hcl hbl => ?_
  (repeat' ((conv => whnf); (first | (refine CallN.id ?_; first | refine CallN.det _ (checker_c _) ?_ | refine CallN.det _ (check_c c h _) ?_ | fail) | refine DrawN.mk' [] ?_ | fail))); all_goals (conv => whnf)
  exact EndN.det trivial (Wk.refl _)
end Go.Proofs.YtjflngchbeegcaaGreatDoor
/-! text B13z -/
namespace Go.Proofs.YtjflngchbeegcaaGreatDoor
open Go.Vsi
set_option maxHeartbeats 1000000
attribute [local irreducible] VW VCall VO
/-! ### models whose facts have names of one letter -/
structure Fa where
  c : UInt8
  a : Int
  m : Int
instance : Inhabited Fa := ⟨⟨0, 0, 0⟩⟩
structure Md where
  k : Int
  n : Int
  lp : Int
  fs : List Fa
def encF (f : Fa) : List AV := [.str (nm f.c), .int .i64 f.a, .int .i64 f.m]
theorem encF_below (n : Nat) (l : List Fa) : belowL n (l.flatMap encF) := belowL_flat _ fun x => by simp [encF, belowL, below]
def Md.cells (t : Md) : List AV := [.int .u8 t.k, .int .i64 t.n, .sl none 0 [], .int .i64 t.lp, .sl none t.fs.length (t.fs.flatMap encF), .sl none 0 [], .sl none 0 []]
def cap (c : UInt8) : Prop := 65 ≤ c.toNat ∧ c.toNat ≤ 90
def fa (l : List Fa) (i : Nat) : Fa := l.getD i default
def okAt (n : Int) (l : List Fa) (i : Nat) : Bool :=
  (i == 0 || decide ((fa l (i - 1)).c.toNat < (fa l i).c.toNat)) && (decide ((fa l i).a = 0) && (decide (0 ≤ (fa l i).m) && decide ((fa l i).m < 2 ^ n.toNat)))
def rowsOK (n : Int) (l : List Fa) : Bool := (List.range l.length).all (okAt n l)
theorem rows_no {n : Int} {l : List Fa} {k : Nat} (hk : k < l.length) (h : okAt n l k = false) : rowsOK n l = false := by
  unfold rowsOK
  rw [List.all_eq_false]
  exact ⟨k, List.mem_range.2 hk, by simp [h]⟩
theorem rows_yes {n : Int} {l : List Fa} (h : ∀ i, i < l.length → okAt n l i = true) : rowsOK n l = true := by
  unfold rowsOK
  rw [List.all_eq_true]
  exact fun x hx => h x (List.mem_range.1 hx)
def validB (t : Md) : Bool :=
  decide (t.k = 5) && (decide (1 ≤ t.n) && (decide (t.n ≤ 5) && (decide (0 ≤ t.lp) && (decide (t.lp < t.n) && rowsOK t.n t.fs))))
theorem EqN.shl1 {n : Int} {k : Int → Prop} (h : 1 ≤ n ∧ n ≤ 5) (a : k (2 ^ n.toNat)) : EqN (IntKind.i64.wrap (1 * 2 ^ min n.toNat IntKind.i64.bits)) k := by
  refine ⟨_, ?_, a⟩
  obtain ⟨m, rfl⟩ : ∃ m : Nat, n = m := ⟨n.toNat, by omega⟩
  have : m = 1 ∨ m = 2 ∨ m = 3 ∨ m = 4 ∨ m = 5 := by omega
  rcases this with rfl | rfl | rfl | rfl | rfl <;> decide

theorem valid_c (t : Md) (hl : t.fs.length ≤ 1000) (hc : ∀ i, i < t.fs.length → cap (fa t.fs i).c) (H : Heap) : VDet Tryz.prog 43 [.agg t.cells] H (.bool (validB t)) := by
  obtain ⟨k, n, lp, fs⟩ := t
  unfold Md.cells
  simp only at hc hl ⊢
  refine fn_det Tryz.E0 Tryz.mx Tryz.func43 (by kernel_rfl) rfl (Nat.le_of_ble_eq_true rfl) rfl fun hcl hbl => ?_
  (repeat' ((conv => whnf); (first | (refine IfN.id ?_; first | refine IfN.not ?_ | refine IfN.ff rfl ?_ | refine IfN.dec (fun _ => ?_) (fun _ => ?_) | fail) | refine DrawN.mk' [] ?_ | fail))); all_goals (conv => whnf)
  all_goals try (refine EndN.det trivial (Wk.of_eq (congrArg AV.bool ?_)); simp_all [validB]; done)
  all_goals try (refine EndN.det trivial (Wk.of_eq (congrArg AV.bool ?_)); simp_all [validB]; try omega)
  refine loop_R Tryz.E0 Tryz.mx (σ := Nat) (fun k => k ≤ fs.length ∧ ∀ i, i < k → okAt n fs i = true) (fun k => fs.length - k) (fun k => [(49, .v (.int .i64 k))]) (fun _ => _) _ 0 rfl hcl [1, 47, 48] rfl ⟨Nat.zero_le _, fun i hi => absurd hi (Nat.not_lt_zero i)⟩ ⟨⟨_, rfl, Wk.refl _⟩, trivial⟩ rfl (fun _ _ => rfl) ?_
  rintro j ⟨hj, hok⟩
  clear hbl
  (repeat' ((conv => whnf); (first | (refine IfN.id ?_; first | refine IfN.not ?_ | refine IfN.tt rfl ?_ | refine IfN.dec (fun _ => ?_) (fun _ => ?_) | (refine IfN.mk ?_ ?_ <;> intro _) | fail) | (refine EqN.id ?_; first | refine EqN.shl1 (by omega) ?_ | (refine EqN.addN _ _ (by first | with_reducible rfl | with_reducible exact cst1 | with_reducible exact cst0 | with_reducible exact cst2 | with_reducible exact cst3 | with_reducible exact cst4 | with_reducible exact cst5 | with_reducible exact cst6 | with_reducible exact cst7 | with_reducible exact cst8 | with_reducible exact cst14 | with_reducible exact cst15 | with_reducible exact cst25 | with_reducible exact cst30 | with_reducible exact cst31 | fail) (by first | with_reducible rfl | with_reducible exact cst1 | with_reducible exact cst0 | with_reducible exact cst2 | with_reducible exact cst3 | with_reducible exact cst4 | with_reducible exact cst5 | with_reducible exact cst6 | with_reducible exact cst7 | with_reducible exact cst8 | with_reducible exact cst14 | with_reducible exact cst15 | with_reducible exact cst25 | with_reducible exact cst30 | with_reducible exact cst31 | fail) ?_ ?_; · (repeat' (first | omega | refine And.intro ?_ ?_ | exact bnd_andl (by omega) | exact bnd_andr (by omega) | refine bnd_or ?_ ?_ | refine bnd_or31 ?_ ?_ | refine bnd_xor ?_ ?_ | refine bnd_xor31 ?_ ?_ | refine bnd_shr ?_ | refine bnd_shl ?_ ?_ | refine bnd_mod ?_ | refine bnd_andl ?_ | fail))) | (refine EqN.subN _ _ (by first | with_reducible rfl | with_reducible exact cst1 | with_reducible exact cst0 | with_reducible exact cst2 | with_reducible exact cst3 | with_reducible exact cst4 | with_reducible exact cst5 | with_reducible exact cst6 | with_reducible exact cst7 | with_reducible exact cst8 | with_reducible exact cst14 | with_reducible exact cst15 | with_reducible exact cst25 | with_reducible exact cst30 | with_reducible exact cst31 | fail) (by first | with_reducible rfl | with_reducible exact cst1 | with_reducible exact cst0 | with_reducible exact cst2 | with_reducible exact cst3 | with_reducible exact cst4 | with_reducible exact cst5 | with_reducible exact cst6 | with_reducible exact cst7 | with_reducible exact cst8 | with_reducible exact cst14 | with_reducible exact cst15 | with_reducible exact cst25 | with_reducible exact cst30 | with_reducible exact cst31 | fail) ?_ ?_; · (repeat' (first | omega | refine And.intro ?_ ?_ | exact bnd_andl (by omega) | exact bnd_andr (by omega) | refine bnd_or ?_ ?_ | refine bnd_or31 ?_ ?_ | refine bnd_xor ?_ ?_ | refine bnd_xor31 ?_ ?_ | refine bnd_shr ?_ | refine bnd_shl ?_ ?_ | refine bnd_mod ?_ | refine bnd_andl ?_ | fail))) | fail) | (refine SideN.mk ?_ ?_; · first | kernel_rfl | omega | exact List.cons_ne_nil _ _ | (simp; done) | (simp; omega) | exact trivial | assumption | fail) | (refine CallD.id ?_; first | refine CallD.det _ (fun _ hq X => predicate_c _ (hc j (by omega)) _) ?_ | fail) | refine SegN.nth default j rfl (by omega) (fun _ => rfl) ?_ | refine SegN.nth default (j - 1) (by omega) (by omega) (fun _ => rfl) ?_ | refine DrawN.mk' [] ?_ | fail))); all_goals (conv => whnf)
  all_goals try refine EndN.det trivial (Wk.of_eq (congrArg AV.bool ?_))
  all_goals first
    | (have hno : okAt n fs j = false := by simp_all [okAt, fa, nm_lt]; try omega
       have := rows_no (by omega) hno
       simp_all [validB]; done)
    | (have := rows_yes (n := n) (l := fs) (fun i hi => hok i (by omega))
       simp_all [validB]; try omega)
    | (have hyes : okAt n fs j = true := by
        have h0 : j = 0 ∨ ¬ (0 < (j : Int)) ∨ ((fa fs (j - 1)).c.toNat < (fa fs j).c.toNat) := by simp_all [fa, nm_lt]
        simp_all [okAt, fa, nm_lt]; try omega
       (refine ⟨⟨j + 1, ⟨by omega, fun i hi => by
        rcases Nat.lt_or_ge i j with h | h
        · exact hok i h
        · have : i = j := by omega
          exact this ▸ hyes⟩, by omega, ?_, .inl ⟨rfl, rfl⟩, rfl, _, rfl, ?_⟩⟩; rotate_left 1; (first | exact .inl rfl | exact .inr ⟨by simp [belowRE, below, belowL, tr, encF_below], by simp [belowH, Blk.below, belowL, below, encF_below]⟩ | fail); (repeat' (first | exact trivial | refine ⟨⟨_, rfl, ?_⟩, ?_⟩ | fail)); all_goals try (first | exact Wk.refl _ | exact Wk.of_eq (congrArg (AV.int _) (by omega)) | fail)))
    | skip
end Go.Proofs.YtjflngchbeegcaaGreatDoor
/-! text C13z -/
namespace Go.Proofs.YtjflngchbeegcaaGreatDoor
open Go.Vsi
set_option maxHeartbeats 1000000
attribute [local irreducible] VW VCall VO
/-! ### traces -/
structure Tr where
  n : Nat
  lp : Nat
  fs : List (UInt8 × Nat)
def encT (f : UInt8 × Nat) : List AV := [.str (nm f.1), .int .i64 0, .int .i64 f.2]
theorem encT_below (n : Nat) (l : List (UInt8 × Nat)) : belowL n (l.flatMap encT) := belowL_flat _ fun x => by simp [encT, belowL, below]
def Tr.cells (t : Tr) : List AV := [.int .u8 5, .int .i64 t.n, .sl none 0 [], .int .i64 t.lp, .sl none t.fs.length (t.fs.flatMap encT), .sl none 0 [], .sl none 0 []]
def Tr.md (t : Tr) : Md := ⟨5, t.n, t.lp, t.fs.map fun p => ⟨p.1, 0, p.2⟩⟩
theorem Tr.md_cells (t : Tr) : t.md.cells = t.cells := by
  obtain ⟨n, lp, fs⟩ := t
  simp only [Tr.md, Md.cells, Tr.cells, List.length_map, List.flatMap_map]
  rfl
def ft (l : List (UInt8 × Nat)) (i : Nat) : UInt8 × Nat := l.getD i (0, 0)
structure Tr.Ok (t : Tr) : Prop where
  n1 : 1 ≤ t.n
  n5 : t.n ≤ 5
  lp : t.lp < t.n
  len : t.fs.length ≤ 26
  cap : ∀ i, i < t.fs.length → cap (ft t.fs i).1
  inc : ∀ i, i + 1 < t.fs.length → (ft t.fs i).1.toNat < (ft t.fs (i + 1)).1.toNat
  mask : ∀ i, i < t.fs.length → (ft t.fs i).2 < 2 ^ t.n
theorem Tr.Ok.small {t : Tr} (h : t.Ok) (i : Nat) (hi : i < t.fs.length) : (ft t.fs i).2 < 32 :=
  Nat.lt_of_lt_of_le (h.mask i hi) (Nat.pow_le_pow_right (n := 2) (by decide) h.n5)
theorem fa_md (t : Tr) (i : Nat) (hi : i < t.fs.length) : fa t.md.fs i = ⟨(ft t.fs i).1, 0, (ft t.fs i).2⟩ := by
  simp [fa, ft, Tr.md, List.getD, hi]
theorem Tr.Ok.valid {t : Tr} (h : t.Ok) : validB t.md = true := by
  have hl : t.md.fs.length = t.fs.length := by simp [Tr.md]
  have hr : rowsOK t.n t.md.fs = true := rows_yes fun i hi => by
    rw [hl] at hi
    have hm : ((ft t.fs i).2 : Int) < 2 ^ t.n := by
      have := h.mask i hi
      rw [show ((2 : Int) ^ t.n) = ((2 ^ t.n : Nat) : Int) by simp]
      omega
    unfold okAt
    rw [fa_md t i hi]
    rcases i with _ | i
    · simp [hm]
    · have hc := h.inc i hi
      simp only [Nat.add_sub_cancel, fa_md t i (by omega)]
      simp [hc, hm]
  have h1 := h.n1
  have h2 := h.n5
  have h3 := h.lp
  have e : validB t.md = (decide ((5 : Int) = 5) && (decide (1 ≤ (t.n : Int)) && (decide ((t.n : Int) ≤ 5) && (decide (0 ≤ (t.lp : Int)) && (decide ((t.lp : Int) < t.n) && rowsOK t.n t.md.fs))))) := rfl
  rw [e, hr, decide_eq_true (rfl : (5 : Int) = 5), decide_eq_true (show (1 : Int) ≤ t.n by omega), decide_eq_true (show (t.n : Int) ≤ 5 by omega), decide_eq_true (show (0 : Int) ≤ t.lp by omega), decide_eq_true (show (t.lp : Int) < t.n by omega)]
  rfl
theorem valid_t {t : Tr} (h : t.Ok) (H : Heap) : VDet Tryz.prog 43 [.agg t.cells] H (.bool true) := by
  have hl : t.md.fs.length = t.fs.length := by simp [Tr.md]
  have := valid_c t.md (by have := h.len; omega) (fun i hi => by rw [hl] at hi; rw [fa_md t i hi]; exact h.cap i hi) H
  rwa [h.valid, t.md_cells] at this

def posN (n lp x : Nat) : Nat := if x < n then x else lp + (x - lp) % (n - lp)
theorem posN_lt {n lp x : Nat} (h : lp < n) : posN n lp x < n := by
  unfold posN
  split
  · assumption
  · have := Nat.mod_lt (x - lp) (show 0 < n - lp by omega)
    omega
theorem position_c (t : Tr) (ht : t.Ok) (x : Nat) (hx : x < 9223372036854775808) (H : Heap) : VDet Tryz.prog 78 [.agg t.cells, .int .i64 x] H (.int .i64 (posN t.n t.lp x)) := by
  obtain ⟨n, lp, fs⟩ := t
  have h1 := ht.n1
  have h2 := ht.n5
  have h3 := ht.lp
  unfold Tr.cells
  simp only at h1 h2 h3 ⊢
  have hm : 1 ≤ n - lp → (x - lp) % (n - lp) < 5 := fun h => Nat.lt_of_lt_of_le (Nat.mod_lt _ h) (by omega)
  refine fn_det Tryz.E0 Tryz.mx Tryz.func78 (by kernel_rfl) rfl (Nat.le_of_ble_eq_true rfl) rfl fun hcl hbl => ?_
  (repeat' ((conv => whnf); (first | (refine IfN.id ?_; first | refine IfN.dec (fun _ => ?_) (fun _ => ?_) | fail) | (refine EqN.id ?_; first | (refine EqN.addN _ _ (by first | with_reducible rfl | with_reducible exact cst1 | with_reducible exact cst0 | with_reducible exact cst2 | with_reducible exact cst3 | with_reducible exact cst4 | with_reducible exact cst5 | with_reducible exact cst6 | with_reducible exact cst7 | with_reducible exact cst8 | with_reducible exact cst14 | with_reducible exact cst15 | with_reducible exact cst25 | with_reducible exact cst30 | with_reducible exact cst31 | fail) (by first | with_reducible rfl | with_reducible exact cst1 | with_reducible exact cst0 | with_reducible exact cst2 | with_reducible exact cst3 | with_reducible exact cst4 | with_reducible exact cst5 | with_reducible exact cst6 | with_reducible exact cst7 | with_reducible exact cst8 | with_reducible exact cst14 | with_reducible exact cst15 | with_reducible exact cst25 | with_reducible exact cst30 | with_reducible exact cst31 | fail) ?_ ?_; · (repeat' (first | omega | refine And.intro ?_ ?_ | exact bnd_andl (by omega) | exact bnd_andr (by omega) | refine bnd_or ?_ ?_ | refine bnd_or31 ?_ ?_ | refine bnd_xor ?_ ?_ | refine bnd_xor31 ?_ ?_ | refine bnd_shr ?_ | refine bnd_shl ?_ ?_ | refine bnd_mod ?_ | refine bnd_andl ?_ | fail))) | (refine EqN.subN _ _ (by first | with_reducible rfl | with_reducible exact cst1 | with_reducible exact cst0 | with_reducible exact cst2 | with_reducible exact cst3 | with_reducible exact cst4 | with_reducible exact cst5 | with_reducible exact cst6 | with_reducible exact cst7 | with_reducible exact cst8 | with_reducible exact cst14 | with_reducible exact cst15 | with_reducible exact cst25 | with_reducible exact cst30 | with_reducible exact cst31 | fail) (by first | with_reducible rfl | with_reducible exact cst1 | with_reducible exact cst0 | with_reducible exact cst2 | with_reducible exact cst3 | with_reducible exact cst4 | with_reducible exact cst5 | with_reducible exact cst6 | with_reducible exact cst7 | with_reducible exact cst8 | with_reducible exact cst14 | with_reducible exact cst15 | with_reducible exact cst25 | with_reducible exact cst30 | with_reducible exact cst31 | fail) ?_ ?_; · (repeat' (first | omega | refine And.intro ?_ ?_ | exact bnd_andl (by omega) | exact bnd_andr (by omega) | refine bnd_or ?_ ?_ | refine bnd_or31 ?_ ?_ | refine bnd_xor ?_ ?_ | refine bnd_xor31 ?_ ?_ | refine bnd_shr ?_ | refine bnd_shl ?_ ?_ | refine bnd_mod ?_ | refine bnd_andl ?_ | fail))) | refine EqN.remN _ _ (by first | with_reducible rfl | with_reducible exact cst1 | with_reducible exact cst0 | with_reducible exact cst2 | with_reducible exact cst3 | with_reducible exact cst4 | with_reducible exact cst5 | with_reducible exact cst6 | with_reducible exact cst7 | with_reducible exact cst8 | with_reducible exact cst14 | with_reducible exact cst15 | with_reducible exact cst25 | with_reducible exact cst30 | with_reducible exact cst31 | fail) (by first | with_reducible rfl | with_reducible exact cst1 | with_reducible exact cst0 | with_reducible exact cst2 | with_reducible exact cst3 | with_reducible exact cst4 | with_reducible exact cst5 | with_reducible exact cst6 | with_reducible exact cst7 | with_reducible exact cst8 | with_reducible exact cst14 | with_reducible exact cst15 | with_reducible exact cst25 | with_reducible exact cst30 | with_reducible exact cst31 | fail) ?_ | fail) | (refine SideN.mk ?_ ?_; · first | kernel_rfl | omega | exact List.cons_ne_nil _ _ | (simp; done) | (simp; omega) | exact trivial | assumption | fail) | refine DrawN.mk' [] ?_ | fail))); all_goals (conv => whnf)
  · exact EndN.det trivial (Wk.of_eq (by rw [posN, if_pos (by omega)]))
  · exact EndN.det trivial (Wk.of_eq (by rw [posN, if_neg (by omega)]))
theorem Position_c (t : Tr) (ht : t.Ok) (x : Nat) (hx : x < 9223372036854775808) (H : Heap) : VDet Tryz.prog 33 [.agg t.cells, .int .i64 x] H (.tup [.int .i64 (posN t.n t.lp x), .int .i64 0]) := by
  have hv := fun H => valid_t ht H
  have hp := fun H => position_c t ht x hx H
  obtain ⟨n, lp, fs⟩ := t
  unfold Tr.cells at hv hp ⊢
  simp only at hv hp ⊢
  refine fn_det Tryz.E0 Tryz.mx Tryz.func33 (by kernel_rfl) rfl (Nat.le_of_ble_eq_true rfl) rfl fun hcl hbl => ?_
  (repeat' ((conv => whnf); (first | (refine IfN.id ?_; first | refine IfN.not ?_ | refine IfN.tt rfl ?_ | refine IfN.ff rfl ?_ | fail) | (refine CallN.id ?_; first | refine CallN.det _ (hv _) ?_ | refine CallN.det _ (hp _) ?_ | fail) | refine DrawN.mk' [] ?_ | fail))); all_goals (conv => whnf)
  exact EndN.det (by simp [below, belowL]) (Wk.refl _)
end Go.Proofs.YtjflngchbeegcaaGreatDoor
/-! text D13z -/
namespace Go.Proofs.YtjflngchbeegcaaGreatDoor
open Go.Vsi
set_option maxHeartbeats 1000000
attribute [local irreducible] VW VCall VO
/-! ### the operators -/
def befK (n lp mask : Nat) : Nat → Nat
  | 0 => 0
  | k + 1 => befK n lp mask k ||| ((mask >>> posN n lp (k + 1)) &&& 1) <<< k
def befN (n lp mask : Nat) : Nat := befK n lp mask n
theorem bit_lt {b k : Nat} : (b &&& 1) <<< k < 2 ^ (k + 1) := by
  have : b &&& 1 ≤ 1 := Nat.and_le_right
  rw [Nat.shiftLeft_eq, Nat.pow_succ]
  have h2 : (b &&& 1) * 2 ^ k ≤ 1 * 2 ^ k := Nat.mul_le_mul_right _ this
  have : 0 < 2 ^ k := Nat.two_pow_pos k
  omega
theorem befK_lt (n lp mask : Nat) : ∀ k, befK n lp mask k < 2 ^ k
  | 0 => by simp [befK]
  | k + 1 => Nat.or_lt_two_pow (Nat.lt_trans (befK_lt n lp mask k) (Nat.pow_lt_pow_right (by decide) (by omega))) bit_lt
theorem p2_32 {n m : Nat} (h : m < 2 ^ n) (hn : n ≤ 5) : m < 32 := Nat.lt_of_lt_of_le h (Nat.pow_le_pow_right (n := 2) (by decide) hn)
theorem befN_lt (n lp mask : Nat) : befN n lp mask < 2 ^ n := befK_lt n lp mask n

theorem before_c (t : Tr) (ht : t.Ok) (mask : Nat) (hm : mask < 32) (H : Heap) : VDet Tryz.prog 118 [.agg t.cells, .int .i64 mask] H (.int .i64 (befN t.n t.lp mask : Nat)) := by
  have hp := fun x hx H => position_c t ht x hx H
  obtain ⟨n, lp, fs⟩ := t
  have h1 := ht.n1
  have h2 := ht.n5
  have h3 := ht.lp
  unfold Tr.cells at hp ⊢
  simp only at h1 h2 h3 hp ⊢
  refine fn_det Tryz.E0 Tryz.mx Tryz.func118 (by kernel_rfl) rfl (Nat.le_of_ble_eq_true rfl) rfl fun hcl hbl => ?_
  (repeat' ((conv => whnf); (first | refine DrawN.mk' [] ?_ | fail))); all_goals (conv => whnf)
  refine loop_R Tryz.E0 Tryz.mx (σ := Nat) (fun k => k ≤ n) (fun k => n - k) (fun k => [(5, .v (.int .i64 (befK n lp mask k : Nat))), (9, .v (.int .i64 k))]) (fun _ => _) _ 0 rfl hcl [1, 2, 8] rfl (Nat.zero_le _) ⟨⟨_, rfl, Wk.refl _⟩, ⟨_, rfl, Wk.refl _⟩, trivial⟩ rfl (fun _ _ => rfl) ?_
  intro k hk
  have hb : befK n lp mask k < 32 := p2_32 (befK_lt n lp mask k) (by omega)
  have hq : posN n lp (k + 1) < 5 := Nat.lt_of_lt_of_le (posN_lt h3) h2
  clear hbl
  (repeat' ((conv => whnf); (first | (refine IfN.id ?_; first | refine IfN.dec (fun _ => ?_) (fun _ => ?_) | fail) | (refine EqN.id ?_; first | (refine EqN.and _ _ (by first | with_reducible rfl | with_reducible exact cst1 | with_reducible exact cst0 | with_reducible exact cst2 | with_reducible exact cst3 | with_reducible exact cst4 | with_reducible exact cst5 | with_reducible exact cst6 | with_reducible exact cst7 | with_reducible exact cst8 | with_reducible exact cst14 | with_reducible exact cst15 | with_reducible exact cst25 | with_reducible exact cst30 | with_reducible exact cst31 | fail) (by first | with_reducible rfl | with_reducible exact cst1 | with_reducible exact cst0 | with_reducible exact cst2 | with_reducible exact cst3 | with_reducible exact cst4 | with_reducible exact cst5 | with_reducible exact cst6 | with_reducible exact cst7 | with_reducible exact cst8 | with_reducible exact cst14 | with_reducible exact cst15 | with_reducible exact cst25 | with_reducible exact cst30 | with_reducible exact cst31 | fail) ?_ ?_; · (repeat' (first | omega | refine And.intro ?_ ?_ | exact bnd_andl (by omega) | exact bnd_andr (by omega) | refine bnd_or ?_ ?_ | refine bnd_or31 ?_ ?_ | refine bnd_xor ?_ ?_ | refine bnd_xor31 ?_ ?_ | refine bnd_shr ?_ | refine bnd_shl ?_ ?_ | refine bnd_mod ?_ | refine bnd_andl ?_ | fail))) | (refine EqN.or _ _ (by first | with_reducible rfl | with_reducible exact cst1 | with_reducible exact cst0 | with_reducible exact cst2 | with_reducible exact cst3 | with_reducible exact cst4 | with_reducible exact cst5 | with_reducible exact cst6 | with_reducible exact cst7 | with_reducible exact cst8 | with_reducible exact cst14 | with_reducible exact cst15 | with_reducible exact cst25 | with_reducible exact cst30 | with_reducible exact cst31 | fail) (by first | with_reducible rfl | with_reducible exact cst1 | with_reducible exact cst0 | with_reducible exact cst2 | with_reducible exact cst3 | with_reducible exact cst4 | with_reducible exact cst5 | with_reducible exact cst6 | with_reducible exact cst7 | with_reducible exact cst8 | with_reducible exact cst14 | with_reducible exact cst15 | with_reducible exact cst25 | with_reducible exact cst30 | with_reducible exact cst31 | fail) ?_ ?_; · (repeat' (first | omega | refine And.intro ?_ ?_ | exact bnd_andl (by omega) | exact bnd_andr (by omega) | refine bnd_or ?_ ?_ | refine bnd_or31 ?_ ?_ | refine bnd_xor ?_ ?_ | refine bnd_xor31 ?_ ?_ | refine bnd_shr ?_ | refine bnd_shl ?_ ?_ | refine bnd_mod ?_ | refine bnd_andl ?_ | fail))) | (refine EqN.shrN _ _ (by first | with_reducible rfl | with_reducible exact cst1 | with_reducible exact cst0 | with_reducible exact cst2 | with_reducible exact cst3 | with_reducible exact cst4 | with_reducible exact cst5 | with_reducible exact cst6 | with_reducible exact cst7 | with_reducible exact cst8 | with_reducible exact cst14 | with_reducible exact cst15 | with_reducible exact cst25 | with_reducible exact cst30 | with_reducible exact cst31 | fail) (by first | with_reducible rfl | with_reducible exact cst1 | with_reducible exact cst0 | with_reducible exact cst2 | with_reducible exact cst3 | with_reducible exact cst4 | with_reducible exact cst5 | with_reducible exact cst6 | with_reducible exact cst7 | with_reducible exact cst8 | with_reducible exact cst14 | with_reducible exact cst15 | with_reducible exact cst25 | with_reducible exact cst30 | with_reducible exact cst31 | fail) rfl ?_ ?_; · (repeat' (first | omega | refine And.intro ?_ ?_ | exact bnd_andl (by omega) | exact bnd_andr (by omega) | refine bnd_or ?_ ?_ | refine bnd_or31 ?_ ?_ | refine bnd_xor ?_ ?_ | refine bnd_xor31 ?_ ?_ | refine bnd_shr ?_ | refine bnd_shl ?_ ?_ | refine bnd_mod ?_ | refine bnd_andl ?_ | fail))) | (refine EqN.shlN _ _ (by first | with_reducible rfl | with_reducible exact cst1 | with_reducible exact cst0 | with_reducible exact cst2 | with_reducible exact cst3 | with_reducible exact cst4 | with_reducible exact cst5 | with_reducible exact cst6 | with_reducible exact cst7 | with_reducible exact cst8 | with_reducible exact cst14 | with_reducible exact cst15 | with_reducible exact cst25 | with_reducible exact cst30 | with_reducible exact cst31 | fail) (by first | with_reducible rfl | with_reducible exact cst1 | with_reducible exact cst0 | with_reducible exact cst2 | with_reducible exact cst3 | with_reducible exact cst4 | with_reducible exact cst5 | with_reducible exact cst6 | with_reducible exact cst7 | with_reducible exact cst8 | with_reducible exact cst14 | with_reducible exact cst15 | with_reducible exact cst25 | with_reducible exact cst30 | with_reducible exact cst31 | fail) rfl ?_ ?_ ?_; (· (repeat' (first | omega | refine And.intro ?_ ?_ | exact bnd_andl (by omega) | exact bnd_andr (by omega) | refine bnd_or ?_ ?_ | refine bnd_or31 ?_ ?_ | refine bnd_xor ?_ ?_ | refine bnd_xor31 ?_ ?_ | refine bnd_shr ?_ | refine bnd_shl ?_ ?_ | refine bnd_mod ?_ | refine bnd_andl ?_ | fail))); (· (repeat' (first | omega | refine And.intro ?_ ?_ | exact bnd_andl (by omega) | exact bnd_andr (by omega) | refine bnd_or ?_ ?_ | refine bnd_or31 ?_ ?_ | refine bnd_xor ?_ ?_ | refine bnd_xor31 ?_ ?_ | refine bnd_shr ?_ | refine bnd_shl ?_ ?_ | refine bnd_mod ?_ | refine bnd_andl ?_ | fail)))) | (refine EqN.addN _ _ (by first | with_reducible rfl | with_reducible exact cst1 | with_reducible exact cst0 | with_reducible exact cst2 | with_reducible exact cst3 | with_reducible exact cst4 | with_reducible exact cst5 | with_reducible exact cst6 | with_reducible exact cst7 | with_reducible exact cst8 | with_reducible exact cst14 | with_reducible exact cst15 | with_reducible exact cst25 | with_reducible exact cst30 | with_reducible exact cst31 | fail) (by first | with_reducible rfl | with_reducible exact cst1 | with_reducible exact cst0 | with_reducible exact cst2 | with_reducible exact cst3 | with_reducible exact cst4 | with_reducible exact cst5 | with_reducible exact cst6 | with_reducible exact cst7 | with_reducible exact cst8 | with_reducible exact cst14 | with_reducible exact cst15 | with_reducible exact cst25 | with_reducible exact cst30 | with_reducible exact cst31 | fail) ?_ ?_; · (repeat' (first | omega | refine And.intro ?_ ?_ | exact bnd_andl (by omega) | exact bnd_andr (by omega) | refine bnd_or ?_ ?_ | refine bnd_or31 ?_ ?_ | refine bnd_xor ?_ ?_ | refine bnd_xor31 ?_ ?_ | refine bnd_shr ?_ | refine bnd_shl ?_ ?_ | refine bnd_mod ?_ | refine bnd_andl ?_ | fail))) | fail) | (refine SideN.mk ?_ ?_; · first | kernel_rfl | omega | exact List.cons_ne_nil _ _ | (simp; done) | (simp; omega) | exact trivial | assumption | fail) | (refine CallN.id ?_; first | refine CallN.det _ (hp (k + 1) (by omega) _) ?_ | fail) | refine DrawN.mk' [] ?_ | fail))); all_goals (conv => whnf)
  · (refine ⟨⟨k + 1, by omega, by omega, ?_, .inl ⟨rfl, rfl⟩, rfl, _, rfl, ?_⟩⟩; rotate_left 1; (first | exact .inl rfl | exact .inr ⟨by simp [belowRE, below, belowL, tr, encT_below], by simp [belowH, Blk.below, belowL, below, encT_below]⟩ | fail); (repeat' (first | exact trivial | refine ⟨⟨_, rfl, ?_⟩, ?_⟩ | fail)); all_goals try (first | exact Wk.refl _ | exact Wk.of_eq (congrArg (AV.int _) (by omega)) | fail))
  · have : k = n := by omega
    subst this
    exact EndN.det trivial (Wk.refl _)
end Go.Proofs.YtjflngchbeegcaaGreatDoor
/-! text F13z -/
namespace Go.Proofs.YtjflngchbeegcaaGreatDoor
open Go.Vsi
set_option maxHeartbeats 1000000
attribute [local irreducible] VW VCall VO
def itN (F : Nat → Nat) : Nat → Nat → Nat
  | 0, x => x
  | k + 1, x => F (itN F k x)
theorem itN_fix {F : Nat → Nat} {x j : Nat} (h : F (itN F j x) = itN F j x) : ∀ k, itN F (j + k) x = itN F j x
  | 0 => rfl
  | k + 1 => by
    have := itN_fix h k
    show F (itN F (j + k) x) = _
    rw [this, h]
theorem settle_c (fn : FuncId) (cs : List AV) (F : Nat → Nat) (K x : Nat) (H : Heap) (hF : ∀ j, j ≤ K → itN F j x < 32) (hK : F (itN F K x) = itN F K x)
    (hc : ∀ y, y < 32 → ∀ X : Heap, VDet Tryz.prog fn (appL [.int .i64 (y : Nat)] cs) (H ++ X) (.int .i64 (F y : Nat))) :
    VDet Tryz.prog 120 [.int .i64 x, .clo (.func fn) [] cs] H (.int .i64 (itN F K x : Nat)) := by
  refine fn_det Tryz.E0 Tryz.mx Tryz.func120 (by kernel_rfl) rfl (Nat.le_of_ble_eq_true rfl) rfl fun hcl hbl => ?_
  (repeat' ((conv => whnf); (first | refine DrawN.mk' [] ?_ | fail))); all_goals (conv => whnf)
  refine loop_R Tryz.E0 Tryz.mx (σ := Nat) (fun j => j ≤ K) (fun j => K - j) (fun j => [(0, .v (.int .i64 (itN F j x : Nat)))]) (fun _ => _) _ 0 rfl hcl [1] rfl (Nat.zero_le _) ⟨⟨_, rfl, Wk.refl _⟩, trivial⟩ rfl (fun _ _ => rfl) ?_
  intro j hj
  have h32 := hF j hj
  clear hbl
  (repeat' ((conv => whnf); (first | (refine IfN.id ?_; first | refine IfN.dec (fun _ => ?_) (fun _ => ?_) | fail) | (refine CallN.id ?_; first | refine CallN.det _ (hc (itN F j x) h32 []) ?_ | fail) | refine DrawN.mk' [] ?_ | fail))); all_goals (conv => whnf)
  · rename_i he
    have he : F (itN F j x) = itN F j x := by omega
    have := itN_fix he (K - j)
    rw [show j + (K - j) = K by omega] at this
    exact EndN.det trivial (Wk.of_eq (by rw [this]))
  · rename_i he
    have hjK : j < K := by
      rcases Nat.lt_or_ge j K with h | h
      · exact h
      · have : j = K := by omega
        subst this
        exact absurd (by omega) he
    (refine ⟨⟨j + 1, hjK, by omega, ?_, .inl ⟨rfl, rfl⟩, rfl, _, rfl, ?_⟩⟩; rotate_left 1; (first | exact .inl rfl | exact .inr ⟨by simp [belowRE, below, belowL, tr, encT_below], by simp [belowH, Blk.below, belowL, below, encT_below]⟩ | fail); (repeat' (first | exact trivial | refine ⟨⟨_, rfl, ?_⟩, ?_⟩ | fail)); all_goals try (first | exact Wk.refl _ | exact Wk.of_eq (congrArg (AV.int _) (by omega)) | fail))
end Go.Proofs.YtjflngchbeegcaaGreatDoor
/-! text G13z -/
namespace Go.Proofs.YtjflngchbeegcaaGreatDoor
open Go.Vsi
set_option maxHeartbeats 1000000
attribute [local irreducible] VW VCall VO bits
def every (n : Nat) : Nat := 1 <<< n - 1
theorem every_lt {n : Nat} (h : n ≤ 5) : every n < 32 := by
  have : n = 0 ∨ n = 1 ∨ n = 2 ∨ n = 3 ∨ n = 4 ∨ n = 5 := by omega
  rcases this with rfl | rfl | rfl | rfl | rfl | rfl <;> decide
def nt (e a : Nat) : Nat := e ^^^ (e &&& a)
theorem op1_c (a b : Nat) (H : Heap) : VDet Tryz.prog 111 [.int .i64 a, .int .i64 b] H (.int .i64 0) := by
  refine fn_det Tryz.E0 Tryz.mx Tryz.func111 (by kernel_rfl) rfl (Nat.le_of_ble_eq_true rfl) rfl fun hcl hbl => ?_
  (repeat' ((conv => whnf); (first | refine DrawN.mk' [] ?_ | fail))); all_goals (conv => whnf)
  exact EndN.det trivial (Wk.refl _)
theorem op2_c (e a b : Nat) (he : e < 32) (ha : a < 32) (H : Heap) : VDet Tryz.prog 112 [.int .i64 a, .int .i64 b, .rptr [.int .i64 e]] H (.int .i64 (nt e a : Nat)) := by
  refine fn_det Tryz.E0 Tryz.mx Tryz.func112 (by kernel_rfl) rfl (Nat.le_of_ble_eq_true rfl) rfl fun hcl hbl => ?_
  (repeat' ((conv => whnf); (first | (refine EqN.id ?_; first | (refine EqN.andNot _ _ (by first | with_reducible rfl | with_reducible exact cst1 | with_reducible exact cst0 | with_reducible exact cst2 | with_reducible exact cst3 | with_reducible exact cst4 | with_reducible exact cst5 | with_reducible exact cst6 | with_reducible exact cst7 | with_reducible exact cst8 | with_reducible exact cst14 | with_reducible exact cst15 | with_reducible exact cst25 | with_reducible exact cst30 | with_reducible exact cst31 | fail) (by first | with_reducible rfl | with_reducible exact cst1 | with_reducible exact cst0 | with_reducible exact cst2 | with_reducible exact cst3 | with_reducible exact cst4 | with_reducible exact cst5 | with_reducible exact cst6 | with_reducible exact cst7 | with_reducible exact cst8 | with_reducible exact cst14 | with_reducible exact cst15 | with_reducible exact cst25 | with_reducible exact cst30 | with_reducible exact cst31 | fail) ?_ ?_; · (repeat' (first | omega | refine And.intro ?_ ?_ | exact bnd_andl (by omega) | exact bnd_andr (by omega) | refine bnd_or ?_ ?_ | refine bnd_or31 ?_ ?_ | refine bnd_xor ?_ ?_ | refine bnd_xor31 ?_ ?_ | refine bnd_shr ?_ | refine bnd_shl ?_ ?_ | refine bnd_mod ?_ | refine bnd_andl ?_ | fail))) | fail) | refine DrawN.mk' [] ?_ | fail))); all_goals (conv => whnf)
  exact EndN.det trivial (Wk.refl _)
theorem op3_c (a b : Nat) (ha : a < 32) (hb : b < 32) (H : Heap) : VDet Tryz.prog 113 [.int .i64 a, .int .i64 b] H (.int .i64 (a &&& b : Nat)) := by
  refine fn_det Tryz.E0 Tryz.mx Tryz.func113 (by kernel_rfl) rfl (Nat.le_of_ble_eq_true rfl) rfl fun hcl hbl => ?_
  (repeat' ((conv => whnf); (first | (refine EqN.id ?_; first | (refine EqN.and _ _ (by first | with_reducible rfl | with_reducible exact cst1 | with_reducible exact cst0 | with_reducible exact cst2 | with_reducible exact cst3 | with_reducible exact cst4 | with_reducible exact cst5 | with_reducible exact cst6 | with_reducible exact cst7 | with_reducible exact cst8 | with_reducible exact cst14 | with_reducible exact cst15 | with_reducible exact cst25 | with_reducible exact cst30 | with_reducible exact cst31 | fail) (by first | with_reducible rfl | with_reducible exact cst1 | with_reducible exact cst0 | with_reducible exact cst2 | with_reducible exact cst3 | with_reducible exact cst4 | with_reducible exact cst5 | with_reducible exact cst6 | with_reducible exact cst7 | with_reducible exact cst8 | with_reducible exact cst14 | with_reducible exact cst15 | with_reducible exact cst25 | with_reducible exact cst30 | with_reducible exact cst31 | fail) ?_ ?_; · (repeat' (first | omega | refine And.intro ?_ ?_ | exact bnd_andl (by omega) | exact bnd_andr (by omega) | refine bnd_or ?_ ?_ | refine bnd_or31 ?_ ?_ | refine bnd_xor ?_ ?_ | refine bnd_xor31 ?_ ?_ | refine bnd_shr ?_ | refine bnd_shl ?_ ?_ | refine bnd_mod ?_ | refine bnd_andl ?_ | fail))) | fail) | refine DrawN.mk' [] ?_ | fail))); all_goals (conv => whnf)
  exact EndN.det trivial (Wk.refl _)
theorem op4_c (a b : Nat) (ha : a < 32) (hb : b < 32) (H : Heap) : VDet Tryz.prog 114 [.int .i64 a, .int .i64 b] H (.int .i64 (a ||| b : Nat)) := by
  refine fn_det Tryz.E0 Tryz.mx Tryz.func114 (by kernel_rfl) rfl (Nat.le_of_ble_eq_true rfl) rfl fun hcl hbl => ?_
  (repeat' ((conv => whnf); (first | (refine EqN.id ?_; first | (refine EqN.or _ _ (by first | with_reducible rfl | with_reducible exact cst1 | with_reducible exact cst0 | with_reducible exact cst2 | with_reducible exact cst3 | with_reducible exact cst4 | with_reducible exact cst5 | with_reducible exact cst6 | with_reducible exact cst7 | with_reducible exact cst8 | with_reducible exact cst14 | with_reducible exact cst15 | with_reducible exact cst25 | with_reducible exact cst30 | with_reducible exact cst31 | fail) (by first | with_reducible rfl | with_reducible exact cst1 | with_reducible exact cst0 | with_reducible exact cst2 | with_reducible exact cst3 | with_reducible exact cst4 | with_reducible exact cst5 | with_reducible exact cst6 | with_reducible exact cst7 | with_reducible exact cst8 | with_reducible exact cst14 | with_reducible exact cst15 | with_reducible exact cst25 | with_reducible exact cst30 | with_reducible exact cst31 | fail) ?_ ?_; · (repeat' (first | omega | refine And.intro ?_ ?_ | exact bnd_andl (by omega) | exact bnd_andr (by omega) | refine bnd_or ?_ ?_ | refine bnd_or31 ?_ ?_ | refine bnd_xor ?_ ?_ | refine bnd_xor31 ?_ ?_ | refine bnd_shr ?_ | refine bnd_shl ?_ ?_ | refine bnd_mod ?_ | refine bnd_andl ?_ | fail))) | fail) | refine DrawN.mk' [] ?_ | fail))); all_goals (conv => whnf)
  exact EndN.det trivial (Wk.refl _)
theorem op5_c (e a b : Nat) (he : e < 32) (ha : a < 32) (hb : b < 32) (H : Heap) : VDet Tryz.prog 115 [.int .i64 a, .int .i64 b, .rptr [.int .i64 e]] H (.int .i64 (nt e a ||| b : Nat)) := by
  refine fn_det Tryz.E0 Tryz.mx Tryz.func115 (by kernel_rfl) rfl (Nat.le_of_ble_eq_true rfl) rfl fun hcl hbl => ?_
  (repeat' ((conv => whnf); (first | (refine EqN.id ?_; first | (refine EqN.or _ _ (by first | with_reducible rfl | with_reducible exact cst1 | with_reducible exact cst0 | with_reducible exact cst2 | with_reducible exact cst3 | with_reducible exact cst4 | with_reducible exact cst5 | with_reducible exact cst6 | with_reducible exact cst7 | with_reducible exact cst8 | with_reducible exact cst14 | with_reducible exact cst15 | with_reducible exact cst25 | with_reducible exact cst30 | with_reducible exact cst31 | fail) (by first | with_reducible rfl | with_reducible exact cst1 | with_reducible exact cst0 | with_reducible exact cst2 | with_reducible exact cst3 | with_reducible exact cst4 | with_reducible exact cst5 | with_reducible exact cst6 | with_reducible exact cst7 | with_reducible exact cst8 | with_reducible exact cst14 | with_reducible exact cst15 | with_reducible exact cst25 | with_reducible exact cst30 | with_reducible exact cst31 | fail) ?_ ?_; · (repeat' (first | omega | refine And.intro ?_ ?_ | exact bnd_andl (by omega) | exact bnd_andr (by omega) | refine bnd_or ?_ ?_ | refine bnd_or31 ?_ ?_ | refine bnd_xor ?_ ?_ | refine bnd_xor31 ?_ ?_ | refine bnd_shr ?_ | refine bnd_shl ?_ ?_ | refine bnd_mod ?_ | refine bnd_andl ?_ | fail))) | (refine EqN.andNot _ _ (by first | with_reducible rfl | with_reducible exact cst1 | with_reducible exact cst0 | with_reducible exact cst2 | with_reducible exact cst3 | with_reducible exact cst4 | with_reducible exact cst5 | with_reducible exact cst6 | with_reducible exact cst7 | with_reducible exact cst8 | with_reducible exact cst14 | with_reducible exact cst15 | with_reducible exact cst25 | with_reducible exact cst30 | with_reducible exact cst31 | fail) (by first | with_reducible rfl | with_reducible exact cst1 | with_reducible exact cst0 | with_reducible exact cst2 | with_reducible exact cst3 | with_reducible exact cst4 | with_reducible exact cst5 | with_reducible exact cst6 | with_reducible exact cst7 | with_reducible exact cst8 | with_reducible exact cst14 | with_reducible exact cst15 | with_reducible exact cst25 | with_reducible exact cst30 | with_reducible exact cst31 | fail) ?_ ?_; · (repeat' (first | omega | refine And.intro ?_ ?_ | exact bnd_andl (by omega) | exact bnd_andr (by omega) | refine bnd_or ?_ ?_ | refine bnd_or31 ?_ ?_ | refine bnd_xor ?_ ?_ | refine bnd_xor31 ?_ ?_ | refine bnd_shr ?_ | refine bnd_shl ?_ ?_ | refine bnd_mod ?_ | refine bnd_andl ?_ | fail))) | fail) | refine DrawN.mk' [] ?_ | fail))); all_goals (conv => whnf)
  exact EndN.det trivial (Wk.refl _)
theorem op6_c (e a b : Nat) (he : e < 32) (ha : a < 32) (hb : b < 32) (H : Heap) : VDet Tryz.prog 116 [.int .i64 a, .int .i64 b, .rptr [.int .i64 e]] H (.int .i64 (nt e (a ^^^ b) : Nat)) := by
  refine fn_det Tryz.E0 Tryz.mx Tryz.func116 (by kernel_rfl) rfl (Nat.le_of_ble_eq_true rfl) rfl fun hcl hbl => ?_
  (repeat' ((conv => whnf); (first | (refine EqN.id ?_; first | (refine EqN.xor _ _ (by first | with_reducible rfl | with_reducible exact cst1 | with_reducible exact cst0 | with_reducible exact cst2 | with_reducible exact cst3 | with_reducible exact cst4 | with_reducible exact cst5 | with_reducible exact cst6 | with_reducible exact cst7 | with_reducible exact cst8 | with_reducible exact cst14 | with_reducible exact cst15 | with_reducible exact cst25 | with_reducible exact cst30 | with_reducible exact cst31 | fail) (by first | with_reducible rfl | with_reducible exact cst1 | with_reducible exact cst0 | with_reducible exact cst2 | with_reducible exact cst3 | with_reducible exact cst4 | with_reducible exact cst5 | with_reducible exact cst6 | with_reducible exact cst7 | with_reducible exact cst8 | with_reducible exact cst14 | with_reducible exact cst15 | with_reducible exact cst25 | with_reducible exact cst30 | with_reducible exact cst31 | fail) ?_ ?_; · (repeat' (first | omega | refine And.intro ?_ ?_ | exact bnd_andl (by omega) | exact bnd_andr (by omega) | refine bnd_or ?_ ?_ | refine bnd_or31 ?_ ?_ | refine bnd_xor ?_ ?_ | refine bnd_xor31 ?_ ?_ | refine bnd_shr ?_ | refine bnd_shl ?_ ?_ | refine bnd_mod ?_ | refine bnd_andl ?_ | fail))) | (refine EqN.andNot _ _ (by first | with_reducible rfl | with_reducible exact cst1 | with_reducible exact cst0 | with_reducible exact cst2 | with_reducible exact cst3 | with_reducible exact cst4 | with_reducible exact cst5 | with_reducible exact cst6 | with_reducible exact cst7 | with_reducible exact cst8 | with_reducible exact cst14 | with_reducible exact cst15 | with_reducible exact cst25 | with_reducible exact cst30 | with_reducible exact cst31 | fail) (by first | with_reducible rfl | with_reducible exact cst1 | with_reducible exact cst0 | with_reducible exact cst2 | with_reducible exact cst3 | with_reducible exact cst4 | with_reducible exact cst5 | with_reducible exact cst6 | with_reducible exact cst7 | with_reducible exact cst8 | with_reducible exact cst14 | with_reducible exact cst15 | with_reducible exact cst25 | with_reducible exact cst30 | with_reducible exact cst31 | fail) ?_ ?_; · (repeat' (first | omega | refine And.intro ?_ ?_ | exact bnd_andl (by omega) | exact bnd_andr (by omega) | refine bnd_or ?_ ?_ | refine bnd_or31 ?_ ?_ | refine bnd_xor ?_ ?_ | refine bnd_xor31 ?_ ?_ | refine bnd_shr ?_ | refine bnd_shl ?_ ?_ | refine bnd_mod ?_ | refine bnd_andl ?_ | fail))) | fail) | refine DrawN.mk' [] ?_ | fail))); all_goals (conv => whnf)
  exact EndN.det trivial (Wk.refl _)
theorem op7_c (t : Tr) (ht : t.Ok) (a b : Nat) (ha : a < 32) (H : Heap) : VDet Tryz.prog 117 [.int .i64 a, .int .i64 b, .rptr t.cells] H (.int .i64 (befN t.n t.lp a : Nat)) := by
  have hb := before_c t ht a ha
  obtain ⟨n, lp, fs⟩ := t
  unfold Tr.cells at hb ⊢
  simp only at hb ⊢
  refine fn_det Tryz.E0 Tryz.mx Tryz.func117 (by kernel_rfl) rfl (Nat.le_of_ble_eq_true rfl) rfl fun hcl hbl => ?_
  (repeat' ((conv => whnf); (first | (refine CallN.id ?_; first | refine CallN.det _ (hb _) ?_ | fail) | refine DrawN.mk' [] ?_ | fail))); all_goals (conv => whnf)
  exact EndN.det trivial (Wk.refl _)
theorem op8i_c (t : Tr) (ht : t.Ok) (a x : Nat) (ha : a < 32) (hx : x < 32) (H : Heap) (i : Nat) (hi : H[i]? = some (.box 3 [.int .i64 a])) : VDet Tryz.prog 121 [.int .i64 x, .ptr i 0, .rptr t.cells] H (.int .i64 (a &&& befN t.n t.lp x : Nat)) := by
  have hb := before_c t ht x hx
  have hl := p2_32 (befN_lt t.n t.lp x) ht.n5
  obtain ⟨n, lp, fs⟩ := t
  unfold Tr.cells at hb ⊢
  simp only at hb hl ⊢
  refine fn_det Tryz.E0 Tryz.mx Tryz.func121 (by kernel_rfl) rfl (Nat.le_of_ble_eq_true rfl) rfl fun hcl hbl => ?_
  (repeat' ((conv => whnf); (first | (refine EqN.id ?_; first | (refine EqN.and _ _ (by first | with_reducible rfl | with_reducible exact cst1 | with_reducible exact cst0 | with_reducible exact cst2 | with_reducible exact cst3 | with_reducible exact cst4 | with_reducible exact cst5 | with_reducible exact cst6 | with_reducible exact cst7 | with_reducible exact cst8 | with_reducible exact cst14 | with_reducible exact cst15 | with_reducible exact cst25 | with_reducible exact cst30 | with_reducible exact cst31 | fail) (by first | with_reducible rfl | with_reducible exact cst1 | with_reducible exact cst0 | with_reducible exact cst2 | with_reducible exact cst3 | with_reducible exact cst4 | with_reducible exact cst5 | with_reducible exact cst6 | with_reducible exact cst7 | with_reducible exact cst8 | with_reducible exact cst14 | with_reducible exact cst15 | with_reducible exact cst25 | with_reducible exact cst30 | with_reducible exact cst31 | fail) ?_ ?_; · (repeat' (first | omega | refine And.intro ?_ ?_ | exact bnd_andl (by omega) | exact bnd_andr (by omega) | refine bnd_or ?_ ?_ | refine bnd_or31 ?_ ?_ | refine bnd_xor ?_ ?_ | refine bnd_xor31 ?_ ?_ | refine bnd_shr ?_ | refine bnd_shl ?_ ?_ | refine bnd_mod ?_ | refine bnd_andl ?_ | fail))) | fail) | (refine SideN.mk ?_ ?_; · first | kernel_rfl | omega | exact List.cons_ne_nil _ _ | (simp; done) | (simp; omega) | exact trivial | assumption | fail) | (refine CallD.id ?_; first | refine CallD.det _ (fun _ hq X => hb _) ?_ | fail) | (refine PtrN.id ?_; first | refine PtrN.base _ (by (repeat' (first | assumption | exact at_loc' _ rfl | exact at_loc0 rfl | refine at_set (B' := ?_) ?_ | refine at_base' ?_ | fail))) ?_ | fail) | refine DrawN.mk' [] ?_ | fail))); all_goals (conv => whnf)
  exact EndN.det trivial (Wk.refl _)
theorem op9i_c (t : Tr) (ht : t.Ok) (a b x : Nat) (ha : a < 32) (hbb : b < 32) (hx : x < 32) (H : Heap) (i j : Nat) (hi : H[i]? = some (.box 3 [.int .i64 a])) (hj : H[j]? = some (.box 3 [.int .i64 b])) : VDet Tryz.prog 123 [.int .i64 x, .ptr j 0, .ptr i 0, .rptr t.cells] H (.int .i64 (b ||| (a &&& befN t.n t.lp x) : Nat)) := by
  have hb := before_c t ht x hx
  have hl := p2_32 (befN_lt t.n t.lp x) ht.n5
  obtain ⟨n, lp, fs⟩ := t
  unfold Tr.cells at hb ⊢
  simp only at hb hl ⊢
  refine fn_det Tryz.E0 Tryz.mx Tryz.func123 (by kernel_rfl) rfl (Nat.le_of_ble_eq_true rfl) rfl fun hcl hbl => ?_
  (repeat' ((conv => whnf); (first | (refine EqN.id ?_; first | (refine EqN.and _ _ (by first | with_reducible rfl | with_reducible exact cst1 | with_reducible exact cst0 | with_reducible exact cst2 | with_reducible exact cst3 | with_reducible exact cst4 | with_reducible exact cst5 | with_reducible exact cst6 | with_reducible exact cst7 | with_reducible exact cst8 | with_reducible exact cst14 | with_reducible exact cst15 | with_reducible exact cst25 | with_reducible exact cst30 | with_reducible exact cst31 | fail) (by first | with_reducible rfl | with_reducible exact cst1 | with_reducible exact cst0 | with_reducible exact cst2 | with_reducible exact cst3 | with_reducible exact cst4 | with_reducible exact cst5 | with_reducible exact cst6 | with_reducible exact cst7 | with_reducible exact cst8 | with_reducible exact cst14 | with_reducible exact cst15 | with_reducible exact cst25 | with_reducible exact cst30 | with_reducible exact cst31 | fail) ?_ ?_; · (repeat' (first | omega | refine And.intro ?_ ?_ | exact bnd_andl (by omega) | exact bnd_andr (by omega) | refine bnd_or ?_ ?_ | refine bnd_or31 ?_ ?_ | refine bnd_xor ?_ ?_ | refine bnd_xor31 ?_ ?_ | refine bnd_shr ?_ | refine bnd_shl ?_ ?_ | refine bnd_mod ?_ | refine bnd_andl ?_ | fail))) | (refine EqN.or _ _ (by first | with_reducible rfl | with_reducible exact cst1 | with_reducible exact cst0 | with_reducible exact cst2 | with_reducible exact cst3 | with_reducible exact cst4 | with_reducible exact cst5 | with_reducible exact cst6 | with_reducible exact cst7 | with_reducible exact cst8 | with_reducible exact cst14 | with_reducible exact cst15 | with_reducible exact cst25 | with_reducible exact cst30 | with_reducible exact cst31 | fail) (by first | with_reducible rfl | with_reducible exact cst1 | with_reducible exact cst0 | with_reducible exact cst2 | with_reducible exact cst3 | with_reducible exact cst4 | with_reducible exact cst5 | with_reducible exact cst6 | with_reducible exact cst7 | with_reducible exact cst8 | with_reducible exact cst14 | with_reducible exact cst15 | with_reducible exact cst25 | with_reducible exact cst30 | with_reducible exact cst31 | fail) ?_ ?_; · (repeat' (first | omega | refine And.intro ?_ ?_ | exact bnd_andl (by omega) | exact bnd_andr (by omega) | refine bnd_or ?_ ?_ | refine bnd_or31 ?_ ?_ | refine bnd_xor ?_ ?_ | refine bnd_xor31 ?_ ?_ | refine bnd_shr ?_ | refine bnd_shl ?_ ?_ | refine bnd_mod ?_ | refine bnd_andl ?_ | fail))) | fail) | (refine SideN.mk ?_ ?_; · first | kernel_rfl | omega | exact List.cons_ne_nil _ _ | (simp; done) | (simp; omega) | exact trivial | assumption | fail) | (refine CallD.id ?_; first | refine CallD.det _ (fun _ hq X => hb _) ?_ | fail) | (refine PtrN.id ?_; first | refine PtrN.base _ (by (repeat' (first | assumption | exact at_loc' _ rfl | exact at_loc0 rfl | refine at_set (B' := ?_) ?_ | refine at_base' ?_ | fail))) ?_ | fail) | refine DrawN.mk' [] ?_ | fail))); all_goals (conv => whnf)
  exact EndN.det trivial (Wk.refl _)
end Go.Proofs.YtjflngchbeegcaaGreatDoor
/-! text H13z -/
namespace Go.Proofs.YtjflngchbeegcaaGreatDoor
open Go.Vsi
set_option maxHeartbeats 1000000
attribute [local irreducible] VW VCall VO bits
/-! ### always and until: at most five rounds -/
def alF (n lp a : Nat) (x : Nat) : Nat := a &&& befN n lp x
def unF (n lp a b : Nat) (x : Nat) : Nat := b ||| (a &&& befN n lp x)
def alN (n lp a : Nat) : Nat := itN (alF n lp a) 5 (every n)
def unN (n lp a b : Nat) : Nat := itN (unF n lp a b) 5 0
def allM (p : Nat → Nat → Nat → Bool) : Bool := (List.range 6).all fun n => (List.range n).all fun lp => (List.range (2 ^ n)).all fun a => p n lp a
theorem allM_get {p : Nat → Nat → Nat → Bool} (h : allM p = true) {n lp a : Nat} (hn : n ≤ 5) (hl : lp < n) (ha : a < 2 ^ n) : p n lp a = true := by
  unfold allM at h
  rw [List.all_eq_true] at h
  have h1 := h n (List.mem_range.2 (by omega))
  rw [List.all_eq_true] at h1
  have h2 := h1 lp (List.mem_range.2 hl)
  rw [List.all_eq_true] at h2
  exact h2 a (List.mem_range.2 ha)
def allM2 (p : Nat → Nat → Nat → Nat → Bool) : Bool := allM fun n lp a => (List.range (2 ^ n)).all fun b => p n lp a b
theorem allM2_get {p : Nat → Nat → Nat → Nat → Bool} (h : allM2 p = true) {n lp a b : Nat} (hn : n ≤ 5) (hl : lp < n) (ha : a < 2 ^ n) (hb : b < 2 ^ n) : p n lp a b = true := by
  have h1 := allM_get h hn hl ha
  rw [List.all_eq_true] at h1
  exact h1 b (List.mem_range.2 hb)
theorem al_chk : allM (fun n lp a => Nat.beq (alF n lp a (alN n lp a)) (alN n lp a)) = true := by kernel_rfl
theorem un_chk : allM2 (fun n lp a b => Nat.beq (unF n lp a b (unN n lp a b)) (unN n lp a b)) = true := by kernel_rfl
theorem al_fix {n lp a : Nat} (hn : n ≤ 5) (hl : lp < n) (ha : a < 2 ^ n) : alF n lp a (alN n lp a) = alN n lp a := Nat.eq_of_beq_eq_true (allM_get al_chk hn hl ha)
theorem un_fix {n lp a b : Nat} (hn : n ≤ 5) (hl : lp < n) (ha : a < 2 ^ n) (hb : b < 2 ^ n) : unF n lp a b (unN n lp a b) = unN n lp a b := Nat.eq_of_beq_eq_true (allM2_get un_chk hn hl ha hb)
end Go.Proofs.YtjflngchbeegcaaGreatDoor
/-! text I13z -/
namespace Go.Proofs.YtjflngchbeegcaaGreatDoor
open Go.Vsi
set_option maxHeartbeats 1000000
attribute [local irreducible] VW VCall VO bits
theorem al_lt (n lp a : Nat) (hn : n ≤ 5) (ha : a < 32) : ∀ j, itN (alF n lp a) j (every n) < 32
  | 0 => every_lt hn
  | _ + 1 => bnd_andl ha
theorem un_lt (n lp a b : Nat) (ha : a < 32) (hb : b < 32) : ∀ j, itN (unF n lp a b) j 0 < 32
  | 0 => Nat.zero_lt_succ 31
  | _ + 1 => Nat.or_lt_two_pow (n := 5) hb (bnd_andl ha)
theorem op8_c (t : Tr) (ht : t.Ok) (a b : Nat) (ha : a < 2 ^ t.n) (H : Heap) : VDet Tryz.prog 119 [.int .i64 a, .int .i64 b, .rptr [.int .i64 (every t.n : Nat)], .rptr t.cells] H (.int .i64 (alN t.n t.lp a : Nat)) := by
  have h32 := p2_32 ha ht.n5
  have hs := settle_c 121 [.ptr (H.length + 0) 0, .rptr t.cells] (alF t.n t.lp a) 5 (every t.n) (H ++ [.box 3 [.int .i64 a]]) (fun j _ => al_lt _ _ _ ht.n5 h32 j) (al_fix ht.n5 ht.lp ha) (fun y hy X => op8i_c t ht a y h32 hy _ _ (at_loc' X rfl))
  obtain ⟨n, lp, fs⟩ := t
  unfold Tr.cells at hs ⊢
  simp only at hs ⊢
  refine fn_det Tryz.E0 Tryz.mx Tryz.func119 (by kernel_rfl) rfl (Nat.le_of_ble_eq_true rfl) rfl fun hcl hbl => ?_
  (repeat' ((conv => whnf); (first | (refine CallN.id ?_; first | refine CallN.det _ (hs) ?_ | fail) | refine DrawN.mk' [] ?_ | fail))); all_goals (conv => whnf)
  exact EndN.det trivial (Wk.refl _)
theorem op9_c (t : Tr) (ht : t.Ok) (a b : Nat) (ha : a < 2 ^ t.n) (hb : b < 2 ^ t.n) (H : Heap) : VDet Tryz.prog 122 [.int .i64 a, .int .i64 b, .rptr t.cells] H (.int .i64 (unN t.n t.lp a b : Nat)) := by
  have h32 := p2_32 ha ht.n5
  have h32b := p2_32 hb ht.n5
  have hs := settle_c 123 [.ptr (H.length + 1) 0, .ptr (H.length + 0) 0, .rptr t.cells] (unF t.n t.lp a b) 5 0 (H ++ [.box 3 [.int .i64 a], .box 3 [.int .i64 b]]) (fun j _ => un_lt _ _ _ _ h32 h32b j) (un_fix ht.n5 ht.lp ha hb) (fun y hy X => op9i_c t ht a b y h32 h32b hy _ _ _ (at_loc' X rfl) (at_loc' X rfl))
  obtain ⟨n, lp, fs⟩ := t
  unfold Tr.cells at hs ⊢
  simp only at hs ⊢
  refine fn_det Tryz.E0 Tryz.mx Tryz.func122 (by kernel_rfl) rfl (Nat.le_of_ble_eq_true rfl) rfl fun hcl hbl => ?_
  (repeat' ((conv => whnf); (first | (refine CallN.id ?_; first | refine CallN.det _ (hs) ?_ | fail) | refine DrawN.mk' [] ?_ | fail))); all_goals (conv => whnf)
  exact EndN.det trivial (Wk.refl _)

def opK : List AV := [.int .u8 2, .int .u8 3, .int .u8 4, .int .u8 5, .int .u8 6, .int .u8 7, .int .u8 12, .int .u8 13, .int .u8 14]
def opV (t : Tr) : List AV := [.clo (.func 111) [] [], .clo (.func 112) [] [.rptr [.int .i64 (every t.n : Nat)]], .clo (.func 113) [] [], .clo (.func 114) [] [], .clo (.func 115) [] [.rptr [.int .i64 (every t.n : Nat)]], .clo (.func 116) [] [.rptr [.int .i64 (every t.n : Nat)]],
  .clo (.func 117) [] [.rptr t.cells], .clo (.func 119) [] [.rptr [.int .i64 (every t.n : Nat)], .rptr t.cells], .clo (.func 122) [] [.rptr t.cells]]
theorem operators_c (t : Tr) (ht : t.Ok) (H : Heap) : VDet Tryz.prog 79 [.agg t.cells] H (.rmp opK (opV t)) := by
  have h1 := ht.n1
  have h2 := ht.n5
  have h3 := every_lt h2
  have h4 : 1 ≤ 1 <<< t.n := by rw [Nat.shiftLeft_eq]; have := Nat.two_pow_pos t.n; omega
  have h5 : 1 <<< t.n < 64 := by unfold every at h3; omega
  obtain ⟨n, lp, fs⟩ := t
  unfold opV
  unfold Tr.cells
  simp only at h1 h2 h3 h4 h5 ⊢
  refine fn_det Tryz.E0 Tryz.mx Tryz.func79 (by kernel_rfl) rfl (Nat.le_of_ble_eq_true rfl) rfl fun hcl hbl => ?_
  (repeat' ((conv => whnf); (first | (refine EqN.id ?_; first | (refine EqN.shlN _ _ (by first | with_reducible rfl | with_reducible exact cst1 | with_reducible exact cst0 | with_reducible exact cst2 | with_reducible exact cst3 | with_reducible exact cst4 | with_reducible exact cst5 | with_reducible exact cst6 | with_reducible exact cst7 | with_reducible exact cst8 | with_reducible exact cst14 | with_reducible exact cst15 | with_reducible exact cst25 | with_reducible exact cst30 | with_reducible exact cst31 | fail) (by first | with_reducible rfl | with_reducible exact cst1 | with_reducible exact cst0 | with_reducible exact cst2 | with_reducible exact cst3 | with_reducible exact cst4 | with_reducible exact cst5 | with_reducible exact cst6 | with_reducible exact cst7 | with_reducible exact cst8 | with_reducible exact cst14 | with_reducible exact cst15 | with_reducible exact cst25 | with_reducible exact cst30 | with_reducible exact cst31 | fail) rfl ?_ ?_ ?_; (· (repeat' (first | omega | refine And.intro ?_ ?_ | exact bnd_andl (by omega) | exact bnd_andr (by omega) | refine bnd_or ?_ ?_ | refine bnd_or31 ?_ ?_ | refine bnd_xor ?_ ?_ | refine bnd_xor31 ?_ ?_ | refine bnd_shr ?_ | refine bnd_shl ?_ ?_ | refine bnd_mod ?_ | refine bnd_andl ?_ | fail))); (· (repeat' (first | omega | refine And.intro ?_ ?_ | exact bnd_andl (by omega) | exact bnd_andr (by omega) | refine bnd_or ?_ ?_ | refine bnd_or31 ?_ ?_ | refine bnd_xor ?_ ?_ | refine bnd_xor31 ?_ ?_ | refine bnd_shr ?_ | refine bnd_shl ?_ ?_ | refine bnd_mod ?_ | refine bnd_andl ?_ | fail)))) | (refine EqN.subN _ _ (by first | with_reducible rfl | with_reducible exact cst1 | with_reducible exact cst0 | with_reducible exact cst2 | with_reducible exact cst3 | with_reducible exact cst4 | with_reducible exact cst5 | with_reducible exact cst6 | with_reducible exact cst7 | with_reducible exact cst8 | with_reducible exact cst14 | with_reducible exact cst15 | with_reducible exact cst25 | with_reducible exact cst30 | with_reducible exact cst31 | fail) (by first | with_reducible rfl | with_reducible exact cst1 | with_reducible exact cst0 | with_reducible exact cst2 | with_reducible exact cst3 | with_reducible exact cst4 | with_reducible exact cst5 | with_reducible exact cst6 | with_reducible exact cst7 | with_reducible exact cst8 | with_reducible exact cst14 | with_reducible exact cst15 | with_reducible exact cst25 | with_reducible exact cst30 | with_reducible exact cst31 | fail) ?_ ?_; · (repeat' (first | omega | refine And.intro ?_ ?_ | exact bnd_andl (by omega) | exact bnd_andr (by omega) | refine bnd_or ?_ ?_ | refine bnd_or31 ?_ ?_ | refine bnd_xor ?_ ?_ | refine bnd_xor31 ?_ ?_ | refine bnd_shr ?_ | refine bnd_shl ?_ ?_ | refine bnd_mod ?_ | refine bnd_andl ?_ | fail))) | fail) | (refine SideN.mk ?_ ?_; · first | kernel_rfl | omega | exact List.cons_ne_nil _ _ | (simp; done) | (simp; omega) | exact trivial | assumption | fail) | refine RelN.mk _ _ ⟨⟨_, rfl⟩, .new (by kernel_rfl)⟩ ?_ | (refine PtrN.id ?_; first | refine PtrN.loc _ rfl ?_ | fail) | refine DrawN.mk' [] ?_ | fail))); all_goals (conv => whnf)
  refine EndN.detF ?_ ?_ (Wk.refl _)
  · simp [below, belowL, fnBelow, opK, encT_below]
  · refine Frz.mp rfl ?_ ?_
    · repeat' (first | exact FrzL.nil | refine FrzL.cons ?_ ?_ | refine Frz.sx ?_ | refine Frz.clo ?_ ?_ | refine Frz.agg ?_ | refine Frz.tup ?_ | refine Frz.ptr rfl rfl (FrzL.refl _) | refine Frz.ms (by exact rfl) (by exact rfl) (FrzL.refl _) | exact Frz.refl _ | fail)
    · repeat' (first | exact FrzL.nil | refine FrzL.cons ?_ ?_ | refine Frz.sx ?_ | refine Frz.clo ?_ ?_ | refine Frz.agg ?_ | refine Frz.tup ?_ | refine Frz.ptr rfl rfl (FrzL.refl _) | refine Frz.ms (by exact rfl) (by exact rfl) (FrzL.refl _) | exact Frz.refl _ | fail)
end Go.Proofs.YtjflngchbeegcaaGreatDoor
/-! text J13z -/
namespace Go.Proofs.YtjflngchbeegcaaGreatDoor
open Go.Vsi
set_option maxHeartbeats 1000000
attribute [local irreducible] VW VCall VO bits

/-! ### formulas -/
inductive Fm where
  | at (c : UInt8)
  | fa
  | f1 (k : Nat) (a : Fm)
  | f2 (k : Nat) (a b : Fm)
def Fm.op : Fm → Nat
  | .at _ => 1
  | .fa => 2
  | .f1 k _ => k
  | .f2 k _ _ => k
def Fm.nmB : Fm → ByteArray
  | .at c => nm c
  | _ => .empty
def Fm.sn : Fm → Nat
  | .at _ => 0
  | .fa => 0
  | .f1 _ _ => 1
  | .f2 _ _ _ => 2
def Fm.sc : Fm → List AV
  | .at _ => []
  | .fa => []
  | .f1 _ a => [.int .u8 a.op, .str a.nmB, .sl none 0 [], .sl none a.sn a.sc]
  | .f2 _ a b => [.int .u8 a.op, .str a.nmB, .sl none 0 [], .sl none a.sn a.sc, .int .u8 b.op, .str b.nmB, .sl none 0 [], .sl none b.sn b.sc]
def Fm.cells (f : Fm) : List AV := [.int .u8 f.op, .str f.nmB, .sl none 0 [], .sl none f.sn f.sc]
theorem Fm.sc_below (n : Nat) : ∀ f : Fm, belowL n f.sc
  | .at _ => by simp [Fm.sc, belowL]
  | .fa => by simp [Fm.sc, belowL]
  | .f1 _ a => by simp [Fm.sc, below, belowL, a.sc_below n]
  | .f2 _ a b => by simp [Fm.sc, below, belowL, a.sc_below n, b.sc_below n]
def is1 (k : Nat) : Prop := k = 3 ∨ k = 10 ∨ k = 11 ∨ k = 12 ∨ k = 13
def is2 (k : Nat) : Prop := k = 4 ∨ k = 5 ∨ k = 6 ∨ k = 7 ∨ k = 14
def Fm.Ok : Fm → Prop
  | .at c => cap c
  | .fa => True
  | .f1 k a => is1 k ∧ a.Ok
  | .f2 k a b => is2 k ∧ a.Ok ∧ b.Ok
def Fm.nodes : Fm → Nat
  | .at _ => 1
  | .fa => 1
  | .f1 _ a => a.nodes + 1
  | .f2 _ a b => a.nodes + b.nodes + 1
theorem Fm.nodes_pos : ∀ f : Fm, 1 ≤ f.nodes
  | .at _ => Nat.le_refl _
  | .fa => Nat.le_refl _
  | .f1 _ _ => by simp [Fm.nodes]
  | .f2 _ _ _ => by simp [Fm.nodes]

def Fm.depth : Fm → Nat
  | .at _ => 1
  | .fa => 1
  | .f1 _ a => a.depth + 1
  | .f2 _ a b => max a.depth b.depth + 1
theorem Fm.depth_pos : ∀ f : Fm, 1 ≤ f.depth
  | .at _ => Nat.le_refl _
  | .fa => Nat.le_refl _
  | .f1 _ _ => by simp [Fm.depth]
  | .f2 _ _ _ => by simp [Fm.depth]
theorem Fm.depth_le : ∀ f : Fm, f.depth ≤ f.nodes
  | .at _ => Nat.le_refl _
  | .fa => Nat.le_refl _
  | .f1 _ a => by have := a.depth_le; simp only [Fm.depth, Fm.nodes]; omega
  | .f2 _ a b => by have := a.depth_le; have := b.depth_le; simp only [Fm.depth, Fm.nodes]; omega
/-- small enough for syntax.Right -/
def Fm.Small (f : Fm) : Prop := f.nodes ≤ 400 ∧ f.depth ≤ 40
theorem Fm.small_of {f : Fm} (h : f.nodes ≤ 40) : f.Small := ⟨by omega, Nat.le_trans f.depth_le h⟩

/-! ### syntax.Right -/
def jb (L : Nat) : Blk := .box 150 [.bool false, .int .i64 L, .int .i64 40]
theorem node_c (H : Heap) (i L d : Nat) (hi : H[i]? = some (jb L)) (hL : 1 ≤ L ∧ L ≤ 400) (hd : d ≤ 40) : VCall Tryz.prog 159 [.ptr i 0, .int .i64 d] H (setR H i (jb (L - 1)) (.bool true)) := by
  unfold jb at hi ⊢
  refine fn_gen Tryz.E0 Tryz.mx Tryz.func159 (by kernel_rfl) rfl (Nat.le_of_ble_eq_true rfl) rfl fun hcl hbl => ?_
  (repeat' ((conv => whnf); (first | (refine IfN.id ?_; first | refine IfN.tt rfl ?_ | fail) | (refine EqN.id ?_; first | (refine EqN.subN _ _ (by first | with_reducible rfl | with_reducible exact cst1 | with_reducible exact cst0 | with_reducible exact cst2 | with_reducible exact cst3 | with_reducible exact cst4 | with_reducible exact cst5 | with_reducible exact cst6 | with_reducible exact cst7 | with_reducible exact cst8 | with_reducible exact cst14 | with_reducible exact cst15 | with_reducible exact cst25 | with_reducible exact cst30 | with_reducible exact cst31 | fail) (by first | with_reducible rfl | with_reducible exact cst1 | with_reducible exact cst0 | with_reducible exact cst2 | with_reducible exact cst3 | with_reducible exact cst4 | with_reducible exact cst5 | with_reducible exact cst6 | with_reducible exact cst7 | with_reducible exact cst8 | with_reducible exact cst14 | with_reducible exact cst15 | with_reducible exact cst25 | with_reducible exact cst30 | with_reducible exact cst31 | fail) ?_ ?_; · (repeat' (first | omega | refine And.intro ?_ ?_ | exact bnd_andl (by omega) | exact bnd_andr (by omega) | refine bnd_or ?_ ?_ | refine bnd_or31 ?_ ?_ | refine bnd_xor ?_ ?_ | refine bnd_xor31 ?_ ?_ | refine bnd_shr ?_ | refine bnd_shl ?_ ?_ | refine bnd_mod ?_ | refine bnd_andl ?_ | fail))) | fail) | refine SetN.mk _ rfl ?_ | (refine PtrN.id ?_; first | refine PtrN.base _ (by (repeat' (first | assumption | exact at_loc' _ rfl | exact at_loc0 rfl | refine at_set (B' := ?_) ?_ | refine at_base' ?_ | fail))) ?_ | fail) | refine DrawN.mk' [] ?_ | fail))); all_goals (conv => whnf)
  exact EndN.setB (by simp [Blk.below, belowL, below]) trivial (Wk.of_eq (by simp; omega))
theorem terms_c (H : Heap) (i d : Nat) : VDet Tryz.prog 162 [.ptr i 0, .sl none 0 [], .int .i64 d] H (.bool true) := by
  refine fn_det Tryz.E0 Tryz.mx Tryz.func162 (by kernel_rfl) rfl (Nat.le_of_ble_eq_true rfl) rfl fun hcl hbl => ?_
  (repeat' ((conv => whnf); (first | refine DrawN.mk' [] ?_ | fail))); all_goals (conv => whnf)
  refine LoopN.rounds Tryz.E0 Tryz.mx 1 rfl ?_
  (repeat' ((conv => whnf); (first | (refine IfN.id ?_; first | refine IfN.ff rfl ?_ | fail) | refine DrawN.mk' [] ?_ | fail))); all_goals (conv => whnf)
  exact EndN.det trivial (Wk.refl _)
theorem named1_c (c : UInt8) (h : cap c) (H : Heap) : VDet Tryz.prog 160 [.int .u8 1, .str (nm c)] H (.bool true) := by
  refine fn_det Tryz.E0 Tryz.mx Tryz.func160 (by kernel_rfl) rfl (Nat.le_of_ble_eq_true rfl) rfl fun hcl hbl => ?_
  (repeat' ((conv => whnf); (first | (refine IfN.id ?_; first | refine IfN.tt rfl ?_ | fail) | (refine CallN.id ?_; first | refine CallN.det _ (predicate_c c h _) ?_ | fail) | refine DrawN.mk' [] ?_ | fail))); all_goals (conv => whnf)
  exact EndN.det trivial (Wk.refl _)
theorem named0_c (H : Heap) : VDet Tryz.prog 160 [.int .u8 0, .str .empty] H (.bool true) := by
  refine fn_det Tryz.E0 Tryz.mx Tryz.func160 (by kernel_rfl) rfl (Nat.le_of_ble_eq_true rfl) rfl fun hcl hbl => ?_
  (repeat' ((conv => whnf); (first | (refine IfN.id ?_; first | refine IfN.ff rfl ?_ | fail) | refine DrawN.mk' [] ?_ | fail))); all_goals (conv => whnf)
  exact EndN.det trivial (Wk.of_eq (by simp))
end Go.Proofs.YtjflngchbeegcaaGreatDoor
/-! text K13z -/
namespace Go.Proofs.YtjflngchbeegcaaGreatDoor
open Go.Vsi
set_option maxHeartbeats 1000000
attribute [local irreducible] VW VCall VO bits

theorem form_at (c : UInt8) (hc : cap c) (H : Heap) (i L d : Nat) (hi : H[i]? = some (jb L)) (hL : 1 ≤ L ∧ L ≤ 400) (hd : d ≤ 40) : VCall Tryz.prog 139 [.ptr i 0, .agg (Fm.at c).cells, .int .i64 d] H (setR H i (jb (L - 1)) (.bool true)) := by
  have hn := fun X => node_c (H ++ X) i L d (at_base' hi) hL hd
  unfold jb at hi hn ⊢
  unfold Fm.cells
  simp only [Fm.op, Fm.nmB, Fm.sn, Fm.sc]
  refine fn_gen Tryz.E0 Tryz.mx Tryz.func139 (by kernel_rfl) rfl (Nat.le_of_ble_eq_true rfl) rfl fun hcl hbl => ?_
  (repeat' ((conv => whnf); (first | (refine IfN.id ?_; first | refine IfN.not ?_ | refine IfN.tt rfl ?_ | refine IfN.ff rfl ?_ | fail) | (refine EqN.id ?_; first | (refine EqN.addN _ _ (by first | with_reducible rfl | with_reducible exact cst1 | with_reducible exact cst0 | with_reducible exact cst2 | with_reducible exact cst3 | with_reducible exact cst4 | with_reducible exact cst5 | with_reducible exact cst6 | with_reducible exact cst7 | with_reducible exact cst8 | with_reducible exact cst14 | with_reducible exact cst15 | with_reducible exact cst25 | with_reducible exact cst30 | with_reducible exact cst31 | fail) (by first | with_reducible rfl | with_reducible exact cst1 | with_reducible exact cst0 | with_reducible exact cst2 | with_reducible exact cst3 | with_reducible exact cst4 | with_reducible exact cst5 | with_reducible exact cst6 | with_reducible exact cst7 | with_reducible exact cst8 | with_reducible exact cst14 | with_reducible exact cst15 | with_reducible exact cst25 | with_reducible exact cst30 | with_reducible exact cst31 | fail) ?_ ?_; · (repeat' (first | omega | refine And.intro ?_ ?_ | exact bnd_andl (by omega) | exact bnd_andr (by omega) | refine bnd_or ?_ ?_ | refine bnd_or31 ?_ ?_ | refine bnd_xor ?_ ?_ | refine bnd_xor31 ?_ ?_ | refine bnd_shr ?_ | refine bnd_shl ?_ ?_ | refine bnd_mod ?_ | refine bnd_andl ?_ | fail))) | refine EqN.remN _ _ (by first | with_reducible rfl | with_reducible exact cst1 | with_reducible exact cst0 | with_reducible exact cst2 | with_reducible exact cst3 | with_reducible exact cst4 | with_reducible exact cst5 | with_reducible exact cst6 | with_reducible exact cst7 | with_reducible exact cst8 | with_reducible exact cst14 | with_reducible exact cst15 | with_reducible exact cst25 | with_reducible exact cst30 | with_reducible exact cst31 | fail) (by first | with_reducible rfl | with_reducible exact cst1 | with_reducible exact cst0 | with_reducible exact cst2 | with_reducible exact cst3 | with_reducible exact cst4 | with_reducible exact cst5 | with_reducible exact cst6 | with_reducible exact cst7 | with_reducible exact cst8 | with_reducible exact cst14 | with_reducible exact cst15 | with_reducible exact cst25 | with_reducible exact cst30 | with_reducible exact cst31 | fail) ?_ | fail) | (refine SideN.mk ?_ ?_; · first | kernel_rfl | omega | exact List.cons_ne_nil _ _ | (simp; done) | (simp; omega) | exact trivial | assumption | fail) | (refine CallN.id ?_; first | refine CallN.det _ (named1_c c hc _) ?_ | refine CallN.det _ (terms_c _ _ _) ?_ | fail) | refine CallN.setB i _ _ _ _ hi rfl rfl (hn _) rfl ?_ | refine SegN.mk _ (seg_rfl rfl) ?_ | refine DrawN.mk' [] ?_ | fail))); all_goals (conv => whnf)
  refine LoopN.rounds Tryz.E0 Tryz.mx 1 (by simp) ?_
  (repeat' ((conv => whnf); (first | (refine IfN.id ?_; first | refine IfN.ff rfl ?_ | fail) | refine DrawN.mk' [] ?_ | fail))); all_goals (conv => whnf)
  exact EndN.setB (by simp [Blk.below, belowL, below]) trivial (Wk.refl _)
theorem form_fa (H : Heap) (i L d : Nat) (hi : H[i]? = some (jb L)) (hL : 1 ≤ L ∧ L ≤ 400) (hd : d ≤ 40) : VCall Tryz.prog 139 [.ptr i 0, .agg Fm.fa.cells, .int .i64 d] H (setR H i (jb (L - 1)) (.bool true)) := by
  have hn := fun X => node_c (H ++ X) i L d (at_base' hi) hL hd
  unfold jb at hi hn ⊢
  unfold Fm.cells
  simp only [Fm.op, Fm.nmB, Fm.sn, Fm.sc]
  refine fn_gen Tryz.E0 Tryz.mx Tryz.func139 (by kernel_rfl) rfl (Nat.le_of_ble_eq_true rfl) rfl fun hcl hbl => ?_
  (repeat' ((conv => whnf); (first | (refine IfN.id ?_; first | refine IfN.not ?_ | refine IfN.tt rfl ?_ | refine IfN.ff rfl ?_ | fail) | (refine EqN.id ?_; first | (refine EqN.addN _ _ (by first | with_reducible rfl | with_reducible exact cst1 | with_reducible exact cst0 | with_reducible exact cst2 | with_reducible exact cst3 | with_reducible exact cst4 | with_reducible exact cst5 | with_reducible exact cst6 | with_reducible exact cst7 | with_reducible exact cst8 | with_reducible exact cst14 | with_reducible exact cst15 | with_reducible exact cst25 | with_reducible exact cst30 | with_reducible exact cst31 | fail) (by first | with_reducible rfl | with_reducible exact cst1 | with_reducible exact cst0 | with_reducible exact cst2 | with_reducible exact cst3 | with_reducible exact cst4 | with_reducible exact cst5 | with_reducible exact cst6 | with_reducible exact cst7 | with_reducible exact cst8 | with_reducible exact cst14 | with_reducible exact cst15 | with_reducible exact cst25 | with_reducible exact cst30 | with_reducible exact cst31 | fail) ?_ ?_; · (repeat' (first | omega | refine And.intro ?_ ?_ | exact bnd_andl (by omega) | exact bnd_andr (by omega) | refine bnd_or ?_ ?_ | refine bnd_or31 ?_ ?_ | refine bnd_xor ?_ ?_ | refine bnd_xor31 ?_ ?_ | refine bnd_shr ?_ | refine bnd_shl ?_ ?_ | refine bnd_mod ?_ | refine bnd_andl ?_ | fail))) | refine EqN.remN _ _ (by first | with_reducible rfl | with_reducible exact cst1 | with_reducible exact cst0 | with_reducible exact cst2 | with_reducible exact cst3 | with_reducible exact cst4 | with_reducible exact cst5 | with_reducible exact cst6 | with_reducible exact cst7 | with_reducible exact cst8 | with_reducible exact cst14 | with_reducible exact cst15 | with_reducible exact cst25 | with_reducible exact cst30 | with_reducible exact cst31 | fail) (by first | with_reducible rfl | with_reducible exact cst1 | with_reducible exact cst0 | with_reducible exact cst2 | with_reducible exact cst3 | with_reducible exact cst4 | with_reducible exact cst5 | with_reducible exact cst6 | with_reducible exact cst7 | with_reducible exact cst8 | with_reducible exact cst14 | with_reducible exact cst15 | with_reducible exact cst25 | with_reducible exact cst30 | with_reducible exact cst31 | fail) ?_ | fail) | (refine SideN.mk ?_ ?_; · first | kernel_rfl | omega | exact List.cons_ne_nil _ _ | (simp; done) | (simp; omega) | exact trivial | assumption | fail) | (refine CallN.id ?_; first | refine CallN.det _ (named0_c _) ?_ | refine CallN.det _ (terms_c _ _ _) ?_ | fail) | refine CallN.setB i _ _ _ _ hi rfl rfl (hn _) rfl ?_ | refine SegN.mk _ (seg_rfl rfl) ?_ | refine DrawN.mk' [] ?_ | fail))); all_goals (conv => whnf)
  refine LoopN.rounds Tryz.E0 Tryz.mx 1 (by simp) ?_
  (repeat' ((conv => whnf); (first | (refine IfN.id ?_; first | refine IfN.ff rfl ?_ | fail) | refine DrawN.mk' [] ?_ | fail))); all_goals (conv => whnf)
  exact EndN.setB (by simp [Blk.below, belowL, below]) trivial (Wk.refl _)
/-- what is known of a part -/
def FormIH (a : Fm) : Prop := ∀ (H : Heap) (i L d : Nat), H[i]? = some (jb L) → a.nodes ≤ L ∧ L ≤ 400 → d + a.depth ≤ 41 → VCall Tryz.prog 139 [.ptr i 0, .agg a.cells, .int .i64 d] H (setR H i (jb (L - a.nodes)) (.bool true))
theorem form_f1_3 (a : Fm) (ih : FormIH a) (H : Heap) (i L d : Nat) (hi : H[i]? = some (jb L)) (hL : a.nodes + 1 ≤ L ∧ L ≤ 400) (hd : d + (a.depth + 1) ≤ 41) : VCall Tryz.prog 139 [.ptr i 0, .agg (Fm.f1 3 a).cells, .int .i64 d] H (setR H i (jb (L - (a.nodes + 1))) (.bool true)) := by
  have hp := a.nodes_pos
  have hpd := a.depth_pos
  have hn := fun X => node_c (H ++ X) i L d (at_base' hi) (by omega) (by omega)
  have h1 := fun X => ih (H.set i (jb (L - 1)) ++ X) i (L - 1) (d + 1) (at_base' (at_set hi)) (by omega) (by omega)
  rw [show L - 1 - a.nodes = L - (a.nodes + 1) by omega] at h1
  unfold jb at hi hn h1 ⊢
  rw [show (Fm.f1 3 a).cells = [.int .u8 (3 : Nat), .str .empty, .sl none 0 [], .sl none 1 [.int .u8 a.op, .str a.nmB, .sl none 0 [], .sl none a.sn a.sc]] from rfl]
  unfold Fm.cells at h1
  generalize a.op = ao at h1 ⊢
  generalize a.nmB = an at h1 ⊢
  generalize a.sn = asn at h1 ⊢
  generalize a.sc = asc at h1 ⊢
  refine fn_gen Tryz.E0 Tryz.mx Tryz.func139 (by kernel_rfl) rfl (Nat.le_of_ble_eq_true rfl) rfl fun hcl hbl => ?_
  (repeat' ((conv => whnf); (first | (refine IfN.id ?_; first | refine IfN.not ?_ | refine IfN.tt rfl ?_ | refine IfN.ff rfl ?_ | fail) | (refine EqN.id ?_; first | (refine EqN.addN _ _ (by first | with_reducible rfl | with_reducible exact cst1 | with_reducible exact cst0 | with_reducible exact cst2 | with_reducible exact cst3 | with_reducible exact cst4 | with_reducible exact cst5 | with_reducible exact cst6 | with_reducible exact cst7 | with_reducible exact cst8 | with_reducible exact cst14 | with_reducible exact cst15 | with_reducible exact cst25 | with_reducible exact cst30 | with_reducible exact cst31 | fail) (by first | with_reducible rfl | with_reducible exact cst1 | with_reducible exact cst0 | with_reducible exact cst2 | with_reducible exact cst3 | with_reducible exact cst4 | with_reducible exact cst5 | with_reducible exact cst6 | with_reducible exact cst7 | with_reducible exact cst8 | with_reducible exact cst14 | with_reducible exact cst15 | with_reducible exact cst25 | with_reducible exact cst30 | with_reducible exact cst31 | fail) ?_ ?_; · (repeat' (first | omega | refine And.intro ?_ ?_ | exact bnd_andl (by omega) | exact bnd_andr (by omega) | refine bnd_or ?_ ?_ | refine bnd_or31 ?_ ?_ | refine bnd_xor ?_ ?_ | refine bnd_xor31 ?_ ?_ | refine bnd_shr ?_ | refine bnd_shl ?_ ?_ | refine bnd_mod ?_ | refine bnd_andl ?_ | fail))) | refine EqN.remN _ _ (by first | with_reducible rfl | with_reducible exact cst1 | with_reducible exact cst0 | with_reducible exact cst2 | with_reducible exact cst3 | with_reducible exact cst4 | with_reducible exact cst5 | with_reducible exact cst6 | with_reducible exact cst7 | with_reducible exact cst8 | with_reducible exact cst14 | with_reducible exact cst15 | with_reducible exact cst25 | with_reducible exact cst30 | with_reducible exact cst31 | fail) (by first | with_reducible rfl | with_reducible exact cst1 | with_reducible exact cst0 | with_reducible exact cst2 | with_reducible exact cst3 | with_reducible exact cst4 | with_reducible exact cst5 | with_reducible exact cst6 | with_reducible exact cst7 | with_reducible exact cst8 | with_reducible exact cst14 | with_reducible exact cst15 | with_reducible exact cst25 | with_reducible exact cst30 | with_reducible exact cst31 | fail) ?_ | fail) | (refine SideN.mk ?_ ?_; · first | kernel_rfl | omega | exact List.cons_ne_nil _ _ | (simp; done) | (simp; omega) | exact trivial | assumption | fail) | (refine CallN.id ?_; first | refine CallN.det _ (named0_c _) ?_ | refine CallN.det _ (terms_c _ _ _) ?_ | fail) | refine CallN.setB i _ _ _ _ hi rfl rfl (hn _) rfl ?_ | refine SegN.mk _ (seg_rfl rfl) ?_ | refine DrawN.mk' [] ?_ | fail))); all_goals (conv => whnf)
  refine LoopN.rounds Tryz.E0 Tryz.mx 2 (by simp) ?_
  (repeat' ((conv => whnf); (first | (refine IfN.id ?_; first | refine IfN.not ?_ | refine IfN.tt rfl ?_ | refine IfN.ff rfl ?_ | fail) | (refine EqN.id ?_; first | (refine EqN.addN _ _ (by first | with_reducible rfl | with_reducible exact cst1 | with_reducible exact cst0 | with_reducible exact cst2 | with_reducible exact cst3 | with_reducible exact cst4 | with_reducible exact cst5 | with_reducible exact cst6 | with_reducible exact cst7 | with_reducible exact cst8 | with_reducible exact cst14 | with_reducible exact cst15 | with_reducible exact cst25 | with_reducible exact cst30 | with_reducible exact cst31 | fail) (by first | with_reducible rfl | with_reducible exact cst1 | with_reducible exact cst0 | with_reducible exact cst2 | with_reducible exact cst3 | with_reducible exact cst4 | with_reducible exact cst5 | with_reducible exact cst6 | with_reducible exact cst7 | with_reducible exact cst8 | with_reducible exact cst14 | with_reducible exact cst15 | with_reducible exact cst25 | with_reducible exact cst30 | with_reducible exact cst31 | fail) ?_ ?_; · (repeat' (first | omega | refine And.intro ?_ ?_ | exact bnd_andl (by omega) | exact bnd_andr (by omega) | refine bnd_or ?_ ?_ | refine bnd_or31 ?_ ?_ | refine bnd_xor ?_ ?_ | refine bnd_xor31 ?_ ?_ | refine bnd_shr ?_ | refine bnd_shl ?_ ?_ | refine bnd_mod ?_ | refine bnd_andl ?_ | fail))) | fail) | (refine SideN.mk ?_ ?_; · first | kernel_rfl | omega | exact List.cons_ne_nil _ _ | (simp; done) | (simp; omega) | exact trivial | assumption | fail) | refine CallN.setB i _ _ _ _ (at_set hi) (by simp) rfl (h1 _) (List.set_set ..) ?_ | refine SegN.mk _ (seg_rfl rfl) ?_ | refine DrawN.mk' [] ?_ | fail))); all_goals (conv => whnf)
  exact EndN.setB (by simp [Blk.below, belowL, below]) trivial (Wk.refl _)
theorem form_f1_10 (a : Fm) (ih : FormIH a) (H : Heap) (i L d : Nat) (hi : H[i]? = some (jb L)) (hL : a.nodes + 1 ≤ L ∧ L ≤ 400) (hd : d + (a.depth + 1) ≤ 41) : VCall Tryz.prog 139 [.ptr i 0, .agg (Fm.f1 10 a).cells, .int .i64 d] H (setR H i (jb (L - (a.nodes + 1))) (.bool true)) := by
  have hp := a.nodes_pos
  have hpd := a.depth_pos
  have hn := fun X => node_c (H ++ X) i L d (at_base' hi) (by omega) (by omega)
  have h1 := fun X => ih (H.set i (jb (L - 1)) ++ X) i (L - 1) (d + 1) (at_base' (at_set hi)) (by omega) (by omega)
  rw [show L - 1 - a.nodes = L - (a.nodes + 1) by omega] at h1
  unfold jb at hi hn h1 ⊢
  rw [show (Fm.f1 10 a).cells = [.int .u8 (10 : Nat), .str .empty, .sl none 0 [], .sl none 1 [.int .u8 a.op, .str a.nmB, .sl none 0 [], .sl none a.sn a.sc]] from rfl]
  unfold Fm.cells at h1
  generalize a.op = ao at h1 ⊢
  generalize a.nmB = an at h1 ⊢
  generalize a.sn = asn at h1 ⊢
  generalize a.sc = asc at h1 ⊢
  refine fn_gen Tryz.E0 Tryz.mx Tryz.func139 (by kernel_rfl) rfl (Nat.le_of_ble_eq_true rfl) rfl fun hcl hbl => ?_
  (repeat' ((conv => whnf); (first | (refine IfN.id ?_; first | refine IfN.not ?_ | refine IfN.tt rfl ?_ | refine IfN.ff rfl ?_ | fail) | (refine EqN.id ?_; first | (refine EqN.addN _ _ (by first | with_reducible rfl | with_reducible exact cst1 | with_reducible exact cst0 | with_reducible exact cst2 | with_reducible exact cst3 | with_reducible exact cst4 | with_reducible exact cst5 | with_reducible exact cst6 | with_reducible exact cst7 | with_reducible exact cst8 | with_reducible exact cst14 | with_reducible exact cst15 | with_reducible exact cst25 | with_reducible exact cst30 | with_reducible exact cst31 | fail) (by first | with_reducible rfl | with_reducible exact cst1 | with_reducible exact cst0 | with_reducible exact cst2 | with_reducible exact cst3 | with_reducible exact cst4 | with_reducible exact cst5 | with_reducible exact cst6 | with_reducible exact cst7 | with_reducible exact cst8 | with_reducible exact cst14 | with_reducible exact cst15 | with_reducible exact cst25 | with_reducible exact cst30 | with_reducible exact cst31 | fail) ?_ ?_; · (repeat' (first | omega | refine And.intro ?_ ?_ | exact bnd_andl (by omega) | exact bnd_andr (by omega) | refine bnd_or ?_ ?_ | refine bnd_or31 ?_ ?_ | refine bnd_xor ?_ ?_ | refine bnd_xor31 ?_ ?_ | refine bnd_shr ?_ | refine bnd_shl ?_ ?_ | refine bnd_mod ?_ | refine bnd_andl ?_ | fail))) | refine EqN.remN _ _ (by first | with_reducible rfl | with_reducible exact cst1 | with_reducible exact cst0 | with_reducible exact cst2 | with_reducible exact cst3 | with_reducible exact cst4 | with_reducible exact cst5 | with_reducible exact cst6 | with_reducible exact cst7 | with_reducible exact cst8 | with_reducible exact cst14 | with_reducible exact cst15 | with_reducible exact cst25 | with_reducible exact cst30 | with_reducible exact cst31 | fail) (by first | with_reducible rfl | with_reducible exact cst1 | with_reducible exact cst0 | with_reducible exact cst2 | with_reducible exact cst3 | with_reducible exact cst4 | with_reducible exact cst5 | with_reducible exact cst6 | with_reducible exact cst7 | with_reducible exact cst8 | with_reducible exact cst14 | with_reducible exact cst15 | with_reducible exact cst25 | with_reducible exact cst30 | with_reducible exact cst31 | fail) ?_ | fail) | (refine SideN.mk ?_ ?_; · first | kernel_rfl | omega | exact List.cons_ne_nil _ _ | (simp; done) | (simp; omega) | exact trivial | assumption | fail) | (refine CallN.id ?_; first | refine CallN.det _ (named0_c _) ?_ | refine CallN.det _ (terms_c _ _ _) ?_ | fail) | refine CallN.setB i _ _ _ _ hi rfl rfl (hn _) rfl ?_ | refine SegN.mk _ (seg_rfl rfl) ?_ | refine DrawN.mk' [] ?_ | fail))); all_goals (conv => whnf)
  refine LoopN.rounds Tryz.E0 Tryz.mx 2 (by simp) ?_
  (repeat' ((conv => whnf); (first | (refine IfN.id ?_; first | refine IfN.not ?_ | refine IfN.tt rfl ?_ | refine IfN.ff rfl ?_ | fail) | (refine EqN.id ?_; first | (refine EqN.addN _ _ (by first | with_reducible rfl | with_reducible exact cst1 | with_reducible exact cst0 | with_reducible exact cst2 | with_reducible exact cst3 | with_reducible exact cst4 | with_reducible exact cst5 | with_reducible exact cst6 | with_reducible exact cst7 | with_reducible exact cst8 | with_reducible exact cst14 | with_reducible exact cst15 | with_reducible exact cst25 | with_reducible exact cst30 | with_reducible exact cst31 | fail) (by first | with_reducible rfl | with_reducible exact cst1 | with_reducible exact cst0 | with_reducible exact cst2 | with_reducible exact cst3 | with_reducible exact cst4 | with_reducible exact cst5 | with_reducible exact cst6 | with_reducible exact cst7 | with_reducible exact cst8 | with_reducible exact cst14 | with_reducible exact cst15 | with_reducible exact cst25 | with_reducible exact cst30 | with_reducible exact cst31 | fail) ?_ ?_; · (repeat' (first | omega | refine And.intro ?_ ?_ | exact bnd_andl (by omega) | exact bnd_andr (by omega) | refine bnd_or ?_ ?_ | refine bnd_or31 ?_ ?_ | refine bnd_xor ?_ ?_ | refine bnd_xor31 ?_ ?_ | refine bnd_shr ?_ | refine bnd_shl ?_ ?_ | refine bnd_mod ?_ | refine bnd_andl ?_ | fail))) | fail) | (refine SideN.mk ?_ ?_; · first | kernel_rfl | omega | exact List.cons_ne_nil _ _ | (simp; done) | (simp; omega) | exact trivial | assumption | fail) | refine CallN.setB i _ _ _ _ (at_set hi) (by simp) rfl (h1 _) (List.set_set ..) ?_ | refine SegN.mk _ (seg_rfl rfl) ?_ | refine DrawN.mk' [] ?_ | fail))); all_goals (conv => whnf)
  exact EndN.setB (by simp [Blk.below, belowL, below]) trivial (Wk.refl _)
theorem form_f1_11 (a : Fm) (ih : FormIH a) (H : Heap) (i L d : Nat) (hi : H[i]? = some (jb L)) (hL : a.nodes + 1 ≤ L ∧ L ≤ 400) (hd : d + (a.depth + 1) ≤ 41) : VCall Tryz.prog 139 [.ptr i 0, .agg (Fm.f1 11 a).cells, .int .i64 d] H (setR H i (jb (L - (a.nodes + 1))) (.bool true)) := by
  have hp := a.nodes_pos
  have hpd := a.depth_pos
  have hn := fun X => node_c (H ++ X) i L d (at_base' hi) (by omega) (by omega)
  have h1 := fun X => ih (H.set i (jb (L - 1)) ++ X) i (L - 1) (d + 1) (at_base' (at_set hi)) (by omega) (by omega)
  rw [show L - 1 - a.nodes = L - (a.nodes + 1) by omega] at h1
  unfold jb at hi hn h1 ⊢
  rw [show (Fm.f1 11 a).cells = [.int .u8 (11 : Nat), .str .empty, .sl none 0 [], .sl none 1 [.int .u8 a.op, .str a.nmB, .sl none 0 [], .sl none a.sn a.sc]] from rfl]
  unfold Fm.cells at h1
  generalize a.op = ao at h1 ⊢
  generalize a.nmB = an at h1 ⊢
  generalize a.sn = asn at h1 ⊢
  generalize a.sc = asc at h1 ⊢
  refine fn_gen Tryz.E0 Tryz.mx Tryz.func139 (by kernel_rfl) rfl (Nat.le_of_ble_eq_true rfl) rfl fun hcl hbl => ?_
  (repeat' ((conv => whnf); (first | (refine IfN.id ?_; first | refine IfN.not ?_ | refine IfN.tt rfl ?_ | refine IfN.ff rfl ?_ | fail) | (refine EqN.id ?_; first | (refine EqN.addN _ _ (by first | with_reducible rfl | with_reducible exact cst1 | with_reducible exact cst0 | with_reducible exact cst2 | with_reducible exact cst3 | with_reducible exact cst4 | with_reducible exact cst5 | with_reducible exact cst6 | with_reducible exact cst7 | with_reducible exact cst8 | with_reducible exact cst14 | with_reducible exact cst15 | with_reducible exact cst25 | with_reducible exact cst30 | with_reducible exact cst31 | fail) (by first | with_reducible rfl | with_reducible exact cst1 | with_reducible exact cst0 | with_reducible exact cst2 | with_reducible exact cst3 | with_reducible exact cst4 | with_reducible exact cst5 | with_reducible exact cst6 | with_reducible exact cst7 | with_reducible exact cst8 | with_reducible exact cst14 | with_reducible exact cst15 | with_reducible exact cst25 | with_reducible exact cst30 | with_reducible exact cst31 | fail) ?_ ?_; · (repeat' (first | omega | refine And.intro ?_ ?_ | exact bnd_andl (by omega) | exact bnd_andr (by omega) | refine bnd_or ?_ ?_ | refine bnd_or31 ?_ ?_ | refine bnd_xor ?_ ?_ | refine bnd_xor31 ?_ ?_ | refine bnd_shr ?_ | refine bnd_shl ?_ ?_ | refine bnd_mod ?_ | refine bnd_andl ?_ | fail))) | refine EqN.remN _ _ (by first | with_reducible rfl | with_reducible exact cst1 | with_reducible exact cst0 | with_reducible exact cst2 | with_reducible exact cst3 | with_reducible exact cst4 | with_reducible exact cst5 | with_reducible exact cst6 | with_reducible exact cst7 | with_reducible exact cst8 | with_reducible exact cst14 | with_reducible exact cst15 | with_reducible exact cst25 | with_reducible exact cst30 | with_reducible exact cst31 | fail) (by first | with_reducible rfl | with_reducible exact cst1 | with_reducible exact cst0 | with_reducible exact cst2 | with_reducible exact cst3 | with_reducible exact cst4 | with_reducible exact cst5 | with_reducible exact cst6 | with_reducible exact cst7 | with_reducible exact cst8 | with_reducible exact cst14 | with_reducible exact cst15 | with_reducible exact cst25 | with_reducible exact cst30 | with_reducible exact cst31 | fail) ?_ | fail) | (refine SideN.mk ?_ ?_; · first | kernel_rfl | omega | exact List.cons_ne_nil _ _ | (simp; done) | (simp; omega) | exact trivial | assumption | fail) | (refine CallN.id ?_; first | refine CallN.det _ (named0_c _) ?_ | refine CallN.det _ (terms_c _ _ _) ?_ | fail) | refine CallN.setB i _ _ _ _ hi rfl rfl (hn _) rfl ?_ | refine SegN.mk _ (seg_rfl rfl) ?_ | refine DrawN.mk' [] ?_ | fail))); all_goals (conv => whnf)
  refine LoopN.rounds Tryz.E0 Tryz.mx 2 (by simp) ?_
  (repeat' ((conv => whnf); (first | (refine IfN.id ?_; first | refine IfN.not ?_ | refine IfN.tt rfl ?_ | refine IfN.ff rfl ?_ | fail) | (refine EqN.id ?_; first | (refine EqN.addN _ _ (by first | with_reducible rfl | with_reducible exact cst1 | with_reducible exact cst0 | with_reducible exact cst2 | with_reducible exact cst3 | with_reducible exact cst4 | with_reducible exact cst5 | with_reducible exact cst6 | with_reducible exact cst7 | with_reducible exact cst8 | with_reducible exact cst14 | with_reducible exact cst15 | with_reducible exact cst25 | with_reducible exact cst30 | with_reducible exact cst31 | fail) (by first | with_reducible rfl | with_reducible exact cst1 | with_reducible exact cst0 | with_reducible exact cst2 | with_reducible exact cst3 | with_reducible exact cst4 | with_reducible exact cst5 | with_reducible exact cst6 | with_reducible exact cst7 | with_reducible exact cst8 | with_reducible exact cst14 | with_reducible exact cst15 | with_reducible exact cst25 | with_reducible exact cst30 | with_reducible exact cst31 | fail) ?_ ?_; · (repeat' (first | omega | refine And.intro ?_ ?_ | exact bnd_andl (by omega) | exact bnd_andr (by omega) | refine bnd_or ?_ ?_ | refine bnd_or31 ?_ ?_ | refine bnd_xor ?_ ?_ | refine bnd_xor31 ?_ ?_ | refine bnd_shr ?_ | refine bnd_shl ?_ ?_ | refine bnd_mod ?_ | refine bnd_andl ?_ | fail))) | fail) | (refine SideN.mk ?_ ?_; · first | kernel_rfl | omega | exact List.cons_ne_nil _ _ | (simp; done) | (simp; omega) | exact trivial | assumption | fail) | refine CallN.setB i _ _ _ _ (at_set hi) (by simp) rfl (h1 _) (List.set_set ..) ?_ | refine SegN.mk _ (seg_rfl rfl) ?_ | refine DrawN.mk' [] ?_ | fail))); all_goals (conv => whnf)
  exact EndN.setB (by simp [Blk.below, belowL, below]) trivial (Wk.refl _)
theorem form_f1_12 (a : Fm) (ih : FormIH a) (H : Heap) (i L d : Nat) (hi : H[i]? = some (jb L)) (hL : a.nodes + 1 ≤ L ∧ L ≤ 400) (hd : d + (a.depth + 1) ≤ 41) : VCall Tryz.prog 139 [.ptr i 0, .agg (Fm.f1 12 a).cells, .int .i64 d] H (setR H i (jb (L - (a.nodes + 1))) (.bool true)) := by
  have hp := a.nodes_pos
  have hpd := a.depth_pos
  have hn := fun X => node_c (H ++ X) i L d (at_base' hi) (by omega) (by omega)
  have h1 := fun X => ih (H.set i (jb (L - 1)) ++ X) i (L - 1) (d + 1) (at_base' (at_set hi)) (by omega) (by omega)
  rw [show L - 1 - a.nodes = L - (a.nodes + 1) by omega] at h1
  unfold jb at hi hn h1 ⊢
  rw [show (Fm.f1 12 a).cells = [.int .u8 (12 : Nat), .str .empty, .sl none 0 [], .sl none 1 [.int .u8 a.op, .str a.nmB, .sl none 0 [], .sl none a.sn a.sc]] from rfl]
  unfold Fm.cells at h1
  generalize a.op = ao at h1 ⊢
  generalize a.nmB = an at h1 ⊢
  generalize a.sn = asn at h1 ⊢
  generalize a.sc = asc at h1 ⊢
  refine fn_gen Tryz.E0 Tryz.mx Tryz.func139 (by kernel_rfl) rfl (Nat.le_of_ble_eq_true rfl) rfl fun hcl hbl => ?_
  (repeat' ((conv => whnf); (first | (refine IfN.id ?_; first | refine IfN.not ?_ | refine IfN.tt rfl ?_ | refine IfN.ff rfl ?_ | fail) | (refine EqN.id ?_; first | (refine EqN.addN _ _ (by first | with_reducible rfl | with_reducible exact cst1 | with_reducible exact cst0 | with_reducible exact cst2 | with_reducible exact cst3 | with_reducible exact cst4 | with_reducible exact cst5 | with_reducible exact cst6 | with_reducible exact cst7 | with_reducible exact cst8 | with_reducible exact cst14 | with_reducible exact cst15 | with_reducible exact cst25 | with_reducible exact cst30 | with_reducible exact cst31 | fail) (by first | with_reducible rfl | with_reducible exact cst1 | with_reducible exact cst0 | with_reducible exact cst2 | with_reducible exact cst3 | with_reducible exact cst4 | with_reducible exact cst5 | with_reducible exact cst6 | with_reducible exact cst7 | with_reducible exact cst8 | with_reducible exact cst14 | with_reducible exact cst15 | with_reducible exact cst25 | with_reducible exact cst30 | with_reducible exact cst31 | fail) ?_ ?_; · (repeat' (first | omega | refine And.intro ?_ ?_ | exact bnd_andl (by omega) | exact bnd_andr (by omega) | refine bnd_or ?_ ?_ | refine bnd_or31 ?_ ?_ | refine bnd_xor ?_ ?_ | refine bnd_xor31 ?_ ?_ | refine bnd_shr ?_ | refine bnd_shl ?_ ?_ | refine bnd_mod ?_ | refine bnd_andl ?_ | fail))) | refine EqN.remN _ _ (by first | with_reducible rfl | with_reducible exact cst1 | with_reducible exact cst0 | with_reducible exact cst2 | with_reducible exact cst3 | with_reducible exact cst4 | with_reducible exact cst5 | with_reducible exact cst6 | with_reducible exact cst7 | with_reducible exact cst8 | with_reducible exact cst14 | with_reducible exact cst15 | with_reducible exact cst25 | with_reducible exact cst30 | with_reducible exact cst31 | fail) (by first | with_reducible rfl | with_reducible exact cst1 | with_reducible exact cst0 | with_reducible exact cst2 | with_reducible exact cst3 | with_reducible exact cst4 | with_reducible exact cst5 | with_reducible exact cst6 | with_reducible exact cst7 | with_reducible exact cst8 | with_reducible exact cst14 | with_reducible exact cst15 | with_reducible exact cst25 | with_reducible exact cst30 | with_reducible exact cst31 | fail) ?_ | fail) | (refine SideN.mk ?_ ?_; · first | kernel_rfl | omega | exact List.cons_ne_nil _ _ | (simp; done) | (simp; omega) | exact trivial | assumption | fail) | (refine CallN.id ?_; first | refine CallN.det _ (named0_c _) ?_ | refine CallN.det _ (terms_c _ _ _) ?_ | fail) | refine CallN.setB i _ _ _ _ hi rfl rfl (hn _) rfl ?_ | refine SegN.mk _ (seg_rfl rfl) ?_ | refine DrawN.mk' [] ?_ | fail))); all_goals (conv => whnf)
  refine LoopN.rounds Tryz.E0 Tryz.mx 2 (by simp) ?_
  (repeat' ((conv => whnf); (first | (refine IfN.id ?_; first | refine IfN.not ?_ | refine IfN.tt rfl ?_ | refine IfN.ff rfl ?_ | fail) | (refine EqN.id ?_; first | (refine EqN.addN _ _ (by first | with_reducible rfl | with_reducible exact cst1 | with_reducible exact cst0 | with_reducible exact cst2 | with_reducible exact cst3 | with_reducible exact cst4 | with_reducible exact cst5 | with_reducible exact cst6 | with_reducible exact cst7 | with_reducible exact cst8 | with_reducible exact cst14 | with_reducible exact cst15 | with_reducible exact cst25 | with_reducible exact cst30 | with_reducible exact cst31 | fail) (by first | with_reducible rfl | with_reducible exact cst1 | with_reducible exact cst0 | with_reducible exact cst2 | with_reducible exact cst3 | with_reducible exact cst4 | with_reducible exact cst5 | with_reducible exact cst6 | with_reducible exact cst7 | with_reducible exact cst8 | with_reducible exact cst14 | with_reducible exact cst15 | with_reducible exact cst25 | with_reducible exact cst30 | with_reducible exact cst31 | fail) ?_ ?_; · (repeat' (first | omega | refine And.intro ?_ ?_ | exact bnd_andl (by omega) | exact bnd_andr (by omega) | refine bnd_or ?_ ?_ | refine bnd_or31 ?_ ?_ | refine bnd_xor ?_ ?_ | refine bnd_xor31 ?_ ?_ | refine bnd_shr ?_ | refine bnd_shl ?_ ?_ | refine bnd_mod ?_ | refine bnd_andl ?_ | fail))) | fail) | (refine SideN.mk ?_ ?_; · first | kernel_rfl | omega | exact List.cons_ne_nil _ _ | (simp; done) | (simp; omega) | exact trivial | assumption | fail) | refine CallN.setB i _ _ _ _ (at_set hi) (by simp) rfl (h1 _) (List.set_set ..) ?_ | refine SegN.mk _ (seg_rfl rfl) ?_ | refine DrawN.mk' [] ?_ | fail))); all_goals (conv => whnf)
  exact EndN.setB (by simp [Blk.below, belowL, below]) trivial (Wk.refl _)
theorem form_f1_13 (a : Fm) (ih : FormIH a) (H : Heap) (i L d : Nat) (hi : H[i]? = some (jb L)) (hL : a.nodes + 1 ≤ L ∧ L ≤ 400) (hd : d + (a.depth + 1) ≤ 41) : VCall Tryz.prog 139 [.ptr i 0, .agg (Fm.f1 13 a).cells, .int .i64 d] H (setR H i (jb (L - (a.nodes + 1))) (.bool true)) := by
  have hp := a.nodes_pos
  have hpd := a.depth_pos
  have hn := fun X => node_c (H ++ X) i L d (at_base' hi) (by omega) (by omega)
  have h1 := fun X => ih (H.set i (jb (L - 1)) ++ X) i (L - 1) (d + 1) (at_base' (at_set hi)) (by omega) (by omega)
  rw [show L - 1 - a.nodes = L - (a.nodes + 1) by omega] at h1
  unfold jb at hi hn h1 ⊢
  rw [show (Fm.f1 13 a).cells = [.int .u8 (13 : Nat), .str .empty, .sl none 0 [], .sl none 1 [.int .u8 a.op, .str a.nmB, .sl none 0 [], .sl none a.sn a.sc]] from rfl]
  unfold Fm.cells at h1
  generalize a.op = ao at h1 ⊢
  generalize a.nmB = an at h1 ⊢
  generalize a.sn = asn at h1 ⊢
  generalize a.sc = asc at h1 ⊢
  refine fn_gen Tryz.E0 Tryz.mx Tryz.func139 (by kernel_rfl) rfl (Nat.le_of_ble_eq_true rfl) rfl fun hcl hbl => ?_
  (repeat' ((conv => whnf); (first | (refine IfN.id ?_; first | refine IfN.not ?_ | refine IfN.tt rfl ?_ | refine IfN.ff rfl ?_ | fail) | (refine EqN.id ?_; first | (refine EqN.addN _ _ (by first | with_reducible rfl | with_reducible exact cst1 | with_reducible exact cst0 | with_reducible exact cst2 | with_reducible exact cst3 | with_reducible exact cst4 | with_reducible exact cst5 | with_reducible exact cst6 | with_reducible exact cst7 | with_reducible exact cst8 | with_reducible exact cst14 | with_reducible exact cst15 | with_reducible exact cst25 | with_reducible exact cst30 | with_reducible exact cst31 | fail) (by first | with_reducible rfl | with_reducible exact cst1 | with_reducible exact cst0 | with_reducible exact cst2 | with_reducible exact cst3 | with_reducible exact cst4 | with_reducible exact cst5 | with_reducible exact cst6 | with_reducible exact cst7 | with_reducible exact cst8 | with_reducible exact cst14 | with_reducible exact cst15 | with_reducible exact cst25 | with_reducible exact cst30 | with_reducible exact cst31 | fail) ?_ ?_; · (repeat' (first | omega | refine And.intro ?_ ?_ | exact bnd_andl (by omega) | exact bnd_andr (by omega) | refine bnd_or ?_ ?_ | refine bnd_or31 ?_ ?_ | refine bnd_xor ?_ ?_ | refine bnd_xor31 ?_ ?_ | refine bnd_shr ?_ | refine bnd_shl ?_ ?_ | refine bnd_mod ?_ | refine bnd_andl ?_ | fail))) | refine EqN.remN _ _ (by first | with_reducible rfl | with_reducible exact cst1 | with_reducible exact cst0 | with_reducible exact cst2 | with_reducible exact cst3 | with_reducible exact cst4 | with_reducible exact cst5 | with_reducible exact cst6 | with_reducible exact cst7 | with_reducible exact cst8 | with_reducible exact cst14 | with_reducible exact cst15 | with_reducible exact cst25 | with_reducible exact cst30 | with_reducible exact cst31 | fail) (by first | with_reducible rfl | with_reducible exact cst1 | with_reducible exact cst0 | with_reducible exact cst2 | with_reducible exact cst3 | with_reducible exact cst4 | with_reducible exact cst5 | with_reducible exact cst6 | with_reducible exact cst7 | with_reducible exact cst8 | with_reducible exact cst14 | with_reducible exact cst15 | with_reducible exact cst25 | with_reducible exact cst30 | with_reducible exact cst31 | fail) ?_ | fail) | (refine SideN.mk ?_ ?_; · first | kernel_rfl | omega | exact List.cons_ne_nil _ _ | (simp; done) | (simp; omega) | exact trivial | assumption | fail) | (refine CallN.id ?_; first | refine CallN.det _ (named0_c _) ?_ | refine CallN.det _ (terms_c _ _ _) ?_ | fail) | refine CallN.setB i _ _ _ _ hi rfl rfl (hn _) rfl ?_ | refine SegN.mk _ (seg_rfl rfl) ?_ | refine DrawN.mk' [] ?_ | fail))); all_goals (conv => whnf)
  refine LoopN.rounds Tryz.E0 Tryz.mx 2 (by simp) ?_
  (repeat' ((conv => whnf); (first | (refine IfN.id ?_; first | refine IfN.not ?_ | refine IfN.tt rfl ?_ | refine IfN.ff rfl ?_ | fail) | (refine EqN.id ?_; first | (refine EqN.addN _ _ (by first | with_reducible rfl | with_reducible exact cst1 | with_reducible exact cst0 | with_reducible exact cst2 | with_reducible exact cst3 | with_reducible exact cst4 | with_reducible exact cst5 | with_reducible exact cst6 | with_reducible exact cst7 | with_reducible exact cst8 | with_reducible exact cst14 | with_reducible exact cst15 | with_reducible exact cst25 | with_reducible exact cst30 | with_reducible exact cst31 | fail) (by first | with_reducible rfl | with_reducible exact cst1 | with_reducible exact cst0 | with_reducible exact cst2 | with_reducible exact cst3 | with_reducible exact cst4 | with_reducible exact cst5 | with_reducible exact cst6 | with_reducible exact cst7 | with_reducible exact cst8 | with_reducible exact cst14 | with_reducible exact cst15 | with_reducible exact cst25 | with_reducible exact cst30 | with_reducible exact cst31 | fail) ?_ ?_; · (repeat' (first | omega | refine And.intro ?_ ?_ | exact bnd_andl (by omega) | exact bnd_andr (by omega) | refine bnd_or ?_ ?_ | refine bnd_or31 ?_ ?_ | refine bnd_xor ?_ ?_ | refine bnd_xor31 ?_ ?_ | refine bnd_shr ?_ | refine bnd_shl ?_ ?_ | refine bnd_mod ?_ | refine bnd_andl ?_ | fail))) | fail) | (refine SideN.mk ?_ ?_; · first | kernel_rfl | omega | exact List.cons_ne_nil _ _ | (simp; done) | (simp; omega) | exact trivial | assumption | fail) | refine CallN.setB i _ _ _ _ (at_set hi) (by simp) rfl (h1 _) (List.set_set ..) ?_ | refine SegN.mk _ (seg_rfl rfl) ?_ | refine DrawN.mk' [] ?_ | fail))); all_goals (conv => whnf)
  exact EndN.setB (by simp [Blk.below, belowL, below]) trivial (Wk.refl _)
theorem form_f2_4 (a b : Fm) (iha : FormIH a) (ihb : FormIH b) (H : Heap) (i L d : Nat) (hi : H[i]? = some (jb L)) (hL : a.nodes + b.nodes + 1 ≤ L ∧ L ≤ 400) (hd : d + (max a.depth b.depth + 1) ≤ 41) : VCall Tryz.prog 139 [.ptr i 0, .agg (Fm.f2 4 a b).cells, .int .i64 d] H (setR H i (jb (L - (a.nodes + b.nodes + 1))) (.bool true)) := by
  have hp := a.nodes_pos
  have hpd := a.depth_pos
  have hp2 := b.nodes_pos
  have hpd2 := b.depth_pos
  have hn := fun X => node_c (H ++ X) i L d (at_base' hi) (by omega) (by omega)
  have h1 := fun X => iha (H.set i (jb (L - 1)) ++ X) i (L - 1) (d + 1) (at_base' (at_set hi)) (by omega) (by omega)
  have h2 := fun X => ihb (H.set i (jb (L - 1 - a.nodes)) ++ X) i (L - 1 - a.nodes) (d + 1) (at_base' (at_set hi)) (by omega) (by omega)
  rw [show L - 1 - a.nodes - b.nodes = L - (a.nodes + b.nodes + 1) by omega] at h2
  unfold jb at hi hn h1 h2 ⊢
  rw [show (Fm.f2 4 a b).cells = [.int .u8 (4 : Nat), .str .empty, .sl none 0 [], .sl none 2 [.int .u8 a.op, .str a.nmB, .sl none 0 [], .sl none a.sn a.sc, .int .u8 b.op, .str b.nmB, .sl none 0 [], .sl none b.sn b.sc]] from rfl]
  unfold Fm.cells at h1 h2
  generalize a.op = ao at h1 ⊢
  generalize a.nmB = an at h1 ⊢
  generalize a.sn = asn at h1 ⊢
  generalize a.sc = asc at h1 ⊢
  generalize b.op = bo at h2 ⊢
  generalize b.nmB = bn at h2 ⊢
  generalize b.sn = bsn at h2 ⊢
  generalize b.sc = bsc at h2 ⊢
  refine fn_gen Tryz.E0 Tryz.mx Tryz.func139 (by kernel_rfl) rfl (Nat.le_of_ble_eq_true rfl) rfl fun hcl hbl => ?_
  (repeat' ((conv => whnf); (first | (refine IfN.id ?_; first | refine IfN.not ?_ | refine IfN.tt rfl ?_ | refine IfN.ff rfl ?_ | fail) | (refine EqN.id ?_; first | (refine EqN.addN _ _ (by first | with_reducible rfl | with_reducible exact cst1 | with_reducible exact cst0 | with_reducible exact cst2 | with_reducible exact cst3 | with_reducible exact cst4 | with_reducible exact cst5 | with_reducible exact cst6 | with_reducible exact cst7 | with_reducible exact cst8 | with_reducible exact cst14 | with_reducible exact cst15 | with_reducible exact cst25 | with_reducible exact cst30 | with_reducible exact cst31 | fail) (by first | with_reducible rfl | with_reducible exact cst1 | with_reducible exact cst0 | with_reducible exact cst2 | with_reducible exact cst3 | with_reducible exact cst4 | with_reducible exact cst5 | with_reducible exact cst6 | with_reducible exact cst7 | with_reducible exact cst8 | with_reducible exact cst14 | with_reducible exact cst15 | with_reducible exact cst25 | with_reducible exact cst30 | with_reducible exact cst31 | fail) ?_ ?_; · (repeat' (first | omega | refine And.intro ?_ ?_ | exact bnd_andl (by omega) | exact bnd_andr (by omega) | refine bnd_or ?_ ?_ | refine bnd_or31 ?_ ?_ | refine bnd_xor ?_ ?_ | refine bnd_xor31 ?_ ?_ | refine bnd_shr ?_ | refine bnd_shl ?_ ?_ | refine bnd_mod ?_ | refine bnd_andl ?_ | fail))) | refine EqN.remN _ _ (by first | with_reducible rfl | with_reducible exact cst1 | with_reducible exact cst0 | with_reducible exact cst2 | with_reducible exact cst3 | with_reducible exact cst4 | with_reducible exact cst5 | with_reducible exact cst6 | with_reducible exact cst7 | with_reducible exact cst8 | with_reducible exact cst14 | with_reducible exact cst15 | with_reducible exact cst25 | with_reducible exact cst30 | with_reducible exact cst31 | fail) (by first | with_reducible rfl | with_reducible exact cst1 | with_reducible exact cst0 | with_reducible exact cst2 | with_reducible exact cst3 | with_reducible exact cst4 | with_reducible exact cst5 | with_reducible exact cst6 | with_reducible exact cst7 | with_reducible exact cst8 | with_reducible exact cst14 | with_reducible exact cst15 | with_reducible exact cst25 | with_reducible exact cst30 | with_reducible exact cst31 | fail) ?_ | fail) | (refine SideN.mk ?_ ?_; · first | kernel_rfl | omega | exact List.cons_ne_nil _ _ | (simp; done) | (simp; omega) | exact trivial | assumption | fail) | (refine CallN.id ?_; first | refine CallN.det _ (named0_c _) ?_ | refine CallN.det _ (terms_c _ _ _) ?_ | fail) | refine CallN.setB i _ _ _ _ hi rfl rfl (hn _) rfl ?_ | refine SegN.mk _ (seg_rfl rfl) ?_ | refine DrawN.mk' [] ?_ | fail))); all_goals (conv => whnf)
  refine LoopN.rounds Tryz.E0 Tryz.mx 3 (by simp) ?_
  (repeat' ((conv => whnf); (first | (refine IfN.id ?_; first | refine IfN.not ?_ | refine IfN.tt rfl ?_ | refine IfN.ff rfl ?_ | fail) | (refine EqN.id ?_; first | (refine EqN.addN _ _ (by first | with_reducible rfl | with_reducible exact cst1 | with_reducible exact cst0 | with_reducible exact cst2 | with_reducible exact cst3 | with_reducible exact cst4 | with_reducible exact cst5 | with_reducible exact cst6 | with_reducible exact cst7 | with_reducible exact cst8 | with_reducible exact cst14 | with_reducible exact cst15 | with_reducible exact cst25 | with_reducible exact cst30 | with_reducible exact cst31 | fail) (by first | with_reducible rfl | with_reducible exact cst1 | with_reducible exact cst0 | with_reducible exact cst2 | with_reducible exact cst3 | with_reducible exact cst4 | with_reducible exact cst5 | with_reducible exact cst6 | with_reducible exact cst7 | with_reducible exact cst8 | with_reducible exact cst14 | with_reducible exact cst15 | with_reducible exact cst25 | with_reducible exact cst30 | with_reducible exact cst31 | fail) ?_ ?_; · (repeat' (first | omega | refine And.intro ?_ ?_ | exact bnd_andl (by omega) | exact bnd_andr (by omega) | refine bnd_or ?_ ?_ | refine bnd_or31 ?_ ?_ | refine bnd_xor ?_ ?_ | refine bnd_xor31 ?_ ?_ | refine bnd_shr ?_ | refine bnd_shl ?_ ?_ | refine bnd_mod ?_ | refine bnd_andl ?_ | fail))) | fail) | (refine SideN.mk ?_ ?_; · first | kernel_rfl | omega | exact List.cons_ne_nil _ _ | (simp; done) | (simp; omega) | exact trivial | assumption | fail) | refine CallN.setB i _ _ _ _ (at_set hi) (by simp) rfl (h1 _) (List.set_set ..) ?_ | refine CallN.setB i _ _ _ _ (at_set hi) (by simp) rfl (h2 _) (List.set_set ..) ?_ | refine SegN.mk _ (seg_rfl rfl) ?_ | refine DrawN.mk' [] ?_ | fail))); all_goals (conv => whnf)
  exact EndN.setB (by simp [Blk.below, belowL, below]) trivial (Wk.refl _)
theorem form_f2_5 (a b : Fm) (iha : FormIH a) (ihb : FormIH b) (H : Heap) (i L d : Nat) (hi : H[i]? = some (jb L)) (hL : a.nodes + b.nodes + 1 ≤ L ∧ L ≤ 400) (hd : d + (max a.depth b.depth + 1) ≤ 41) : VCall Tryz.prog 139 [.ptr i 0, .agg (Fm.f2 5 a b).cells, .int .i64 d] H (setR H i (jb (L - (a.nodes + b.nodes + 1))) (.bool true)) := by
  have hp := a.nodes_pos
  have hpd := a.depth_pos
  have hp2 := b.nodes_pos
  have hpd2 := b.depth_pos
  have hn := fun X => node_c (H ++ X) i L d (at_base' hi) (by omega) (by omega)
  have h1 := fun X => iha (H.set i (jb (L - 1)) ++ X) i (L - 1) (d + 1) (at_base' (at_set hi)) (by omega) (by omega)
  have h2 := fun X => ihb (H.set i (jb (L - 1 - a.nodes)) ++ X) i (L - 1 - a.nodes) (d + 1) (at_base' (at_set hi)) (by omega) (by omega)
  rw [show L - 1 - a.nodes - b.nodes = L - (a.nodes + b.nodes + 1) by omega] at h2
  unfold jb at hi hn h1 h2 ⊢
  rw [show (Fm.f2 5 a b).cells = [.int .u8 (5 : Nat), .str .empty, .sl none 0 [], .sl none 2 [.int .u8 a.op, .str a.nmB, .sl none 0 [], .sl none a.sn a.sc, .int .u8 b.op, .str b.nmB, .sl none 0 [], .sl none b.sn b.sc]] from rfl]
  unfold Fm.cells at h1 h2
  generalize a.op = ao at h1 ⊢
  generalize a.nmB = an at h1 ⊢
  generalize a.sn = asn at h1 ⊢
  generalize a.sc = asc at h1 ⊢
  generalize b.op = bo at h2 ⊢
  generalize b.nmB = bn at h2 ⊢
  generalize b.sn = bsn at h2 ⊢
  generalize b.sc = bsc at h2 ⊢
  refine fn_gen Tryz.E0 Tryz.mx Tryz.func139 (by kernel_rfl) rfl (Nat.le_of_ble_eq_true rfl) rfl fun hcl hbl => ?_
  (repeat' ((conv => whnf); (first | (refine IfN.id ?_; first | refine IfN.not ?_ | refine IfN.tt rfl ?_ | refine IfN.ff rfl ?_ | fail) | (refine EqN.id ?_; first | (refine EqN.addN _ _ (by first | with_reducible rfl | with_reducible exact cst1 | with_reducible exact cst0 | with_reducible exact cst2 | with_reducible exact cst3 | with_reducible exact cst4 | with_reducible exact cst5 | with_reducible exact cst6 | with_reducible exact cst7 | with_reducible exact cst8 | with_reducible exact cst14 | with_reducible exact cst15 | with_reducible exact cst25 | with_reducible exact cst30 | with_reducible exact cst31 | fail) (by first | with_reducible rfl | with_reducible exact cst1 | with_reducible exact cst0 | with_reducible exact cst2 | with_reducible exact cst3 | with_reducible exact cst4 | with_reducible exact cst5 | with_reducible exact cst6 | with_reducible exact cst7 | with_reducible exact cst8 | with_reducible exact cst14 | with_reducible exact cst15 | with_reducible exact cst25 | with_reducible exact cst30 | with_reducible exact cst31 | fail) ?_ ?_; · (repeat' (first | omega | refine And.intro ?_ ?_ | exact bnd_andl (by omega) | exact bnd_andr (by omega) | refine bnd_or ?_ ?_ | refine bnd_or31 ?_ ?_ | refine bnd_xor ?_ ?_ | refine bnd_xor31 ?_ ?_ | refine bnd_shr ?_ | refine bnd_shl ?_ ?_ | refine bnd_mod ?_ | refine bnd_andl ?_ | fail))) | refine EqN.remN _ _ (by first | with_reducible rfl | with_reducible exact cst1 | with_reducible exact cst0 | with_reducible exact cst2 | with_reducible exact cst3 | with_reducible exact cst4 | with_reducible exact cst5 | with_reducible exact cst6 | with_reducible exact cst7 | with_reducible exact cst8 | with_reducible exact cst14 | with_reducible exact cst15 | with_reducible exact cst25 | with_reducible exact cst30 | with_reducible exact cst31 | fail) (by first | with_reducible rfl | with_reducible exact cst1 | with_reducible exact cst0 | with_reducible exact cst2 | with_reducible exact cst3 | with_reducible exact cst4 | with_reducible exact cst5 | with_reducible exact cst6 | with_reducible exact cst7 | with_reducible exact cst8 | with_reducible exact cst14 | with_reducible exact cst15 | with_reducible exact cst25 | with_reducible exact cst30 | with_reducible exact cst31 | fail) ?_ | fail) | (refine SideN.mk ?_ ?_; · first | kernel_rfl | omega | exact List.cons_ne_nil _ _ | (simp; done) | (simp; omega) | exact trivial | assumption | fail) | (refine CallN.id ?_; first | refine CallN.det _ (named0_c _) ?_ | refine CallN.det _ (terms_c _ _ _) ?_ | fail) | refine CallN.setB i _ _ _ _ hi rfl rfl (hn _) rfl ?_ | refine SegN.mk _ (seg_rfl rfl) ?_ | refine DrawN.mk' [] ?_ | fail))); all_goals (conv => whnf)
  refine LoopN.rounds Tryz.E0 Tryz.mx 3 (by simp) ?_
  (repeat' ((conv => whnf); (first | (refine IfN.id ?_; first | refine IfN.not ?_ | refine IfN.tt rfl ?_ | refine IfN.ff rfl ?_ | fail) | (refine EqN.id ?_; first | (refine EqN.addN _ _ (by first | with_reducible rfl | with_reducible exact cst1 | with_reducible exact cst0 | with_reducible exact cst2 | with_reducible exact cst3 | with_reducible exact cst4 | with_reducible exact cst5 | with_reducible exact cst6 | with_reducible exact cst7 | with_reducible exact cst8 | with_reducible exact cst14 | with_reducible exact cst15 | with_reducible exact cst25 | with_reducible exact cst30 | with_reducible exact cst31 | fail) (by first | with_reducible rfl | with_reducible exact cst1 | with_reducible exact cst0 | with_reducible exact cst2 | with_reducible exact cst3 | with_reducible exact cst4 | with_reducible exact cst5 | with_reducible exact cst6 | with_reducible exact cst7 | with_reducible exact cst8 | with_reducible exact cst14 | with_reducible exact cst15 | with_reducible exact cst25 | with_reducible exact cst30 | with_reducible exact cst31 | fail) ?_ ?_; · (repeat' (first | omega | refine And.intro ?_ ?_ | exact bnd_andl (by omega) | exact bnd_andr (by omega) | refine bnd_or ?_ ?_ | refine bnd_or31 ?_ ?_ | refine bnd_xor ?_ ?_ | refine bnd_xor31 ?_ ?_ | refine bnd_shr ?_ | refine bnd_shl ?_ ?_ | refine bnd_mod ?_ | refine bnd_andl ?_ | fail))) | fail) | (refine SideN.mk ?_ ?_; · first | kernel_rfl | omega | exact List.cons_ne_nil _ _ | (simp; done) | (simp; omega) | exact trivial | assumption | fail) | refine CallN.setB i _ _ _ _ (at_set hi) (by simp) rfl (h1 _) (List.set_set ..) ?_ | refine CallN.setB i _ _ _ _ (at_set hi) (by simp) rfl (h2 _) (List.set_set ..) ?_ | refine SegN.mk _ (seg_rfl rfl) ?_ | refine DrawN.mk' [] ?_ | fail))); all_goals (conv => whnf)
  exact EndN.setB (by simp [Blk.below, belowL, below]) trivial (Wk.refl _)
theorem form_f2_6 (a b : Fm) (iha : FormIH a) (ihb : FormIH b) (H : Heap) (i L d : Nat) (hi : H[i]? = some (jb L)) (hL : a.nodes + b.nodes + 1 ≤ L ∧ L ≤ 400) (hd : d + (max a.depth b.depth + 1) ≤ 41) : VCall Tryz.prog 139 [.ptr i 0, .agg (Fm.f2 6 a b).cells, .int .i64 d] H (setR H i (jb (L - (a.nodes + b.nodes + 1))) (.bool true)) := by
  have hp := a.nodes_pos
  have hpd := a.depth_pos
  have hp2 := b.nodes_pos
  have hpd2 := b.depth_pos
  have hn := fun X => node_c (H ++ X) i L d (at_base' hi) (by omega) (by omega)
  have h1 := fun X => iha (H.set i (jb (L - 1)) ++ X) i (L - 1) (d + 1) (at_base' (at_set hi)) (by omega) (by omega)
  have h2 := fun X => ihb (H.set i (jb (L - 1 - a.nodes)) ++ X) i (L - 1 - a.nodes) (d + 1) (at_base' (at_set hi)) (by omega) (by omega)
  rw [show L - 1 - a.nodes - b.nodes = L - (a.nodes + b.nodes + 1) by omega] at h2
  unfold jb at hi hn h1 h2 ⊢
  rw [show (Fm.f2 6 a b).cells = [.int .u8 (6 : Nat), .str .empty, .sl none 0 [], .sl none 2 [.int .u8 a.op, .str a.nmB, .sl none 0 [], .sl none a.sn a.sc, .int .u8 b.op, .str b.nmB, .sl none 0 [], .sl none b.sn b.sc]] from rfl]
  unfold Fm.cells at h1 h2
  generalize a.op = ao at h1 ⊢
  generalize a.nmB = an at h1 ⊢
  generalize a.sn = asn at h1 ⊢
  generalize a.sc = asc at h1 ⊢
  generalize b.op = bo at h2 ⊢
  generalize b.nmB = bn at h2 ⊢
  generalize b.sn = bsn at h2 ⊢
  generalize b.sc = bsc at h2 ⊢
  refine fn_gen Tryz.E0 Tryz.mx Tryz.func139 (by kernel_rfl) rfl (Nat.le_of_ble_eq_true rfl) rfl fun hcl hbl => ?_
  (repeat' ((conv => whnf); (first | (refine IfN.id ?_; first | refine IfN.not ?_ | refine IfN.tt rfl ?_ | refine IfN.ff rfl ?_ | fail) | (refine EqN.id ?_; first | (refine EqN.addN _ _ (by first | with_reducible rfl | with_reducible exact cst1 | with_reducible exact cst0 | with_reducible exact cst2 | with_reducible exact cst3 | with_reducible exact cst4 | with_reducible exact cst5 | with_reducible exact cst6 | with_reducible exact cst7 | with_reducible exact cst8 | with_reducible exact cst14 | with_reducible exact cst15 | with_reducible exact cst25 | with_reducible exact cst30 | with_reducible exact cst31 | fail) (by first | with_reducible rfl | with_reducible exact cst1 | with_reducible exact cst0 | with_reducible exact cst2 | with_reducible exact cst3 | with_reducible exact cst4 | with_reducible exact cst5 | with_reducible exact cst6 | with_reducible exact cst7 | with_reducible exact cst8 | with_reducible exact cst14 | with_reducible exact cst15 | with_reducible exact cst25 | with_reducible exact cst30 | with_reducible exact cst31 | fail) ?_ ?_; · (repeat' (first | omega | refine And.intro ?_ ?_ | exact bnd_andl (by omega) | exact bnd_andr (by omega) | refine bnd_or ?_ ?_ | refine bnd_or31 ?_ ?_ | refine bnd_xor ?_ ?_ | refine bnd_xor31 ?_ ?_ | refine bnd_shr ?_ | refine bnd_shl ?_ ?_ | refine bnd_mod ?_ | refine bnd_andl ?_ | fail))) | refine EqN.remN _ _ (by first | with_reducible rfl | with_reducible exact cst1 | with_reducible exact cst0 | with_reducible exact cst2 | with_reducible exact cst3 | with_reducible exact cst4 | with_reducible exact cst5 | with_reducible exact cst6 | with_reducible exact cst7 | with_reducible exact cst8 | with_reducible exact cst14 | with_reducible exact cst15 | with_reducible exact cst25 | with_reducible exact cst30 | with_reducible exact cst31 | fail) (by first | with_reducible rfl | with_reducible exact cst1 | with_reducible exact cst0 | with_reducible exact cst2 | with_reducible exact cst3 | with_reducible exact cst4 | with_reducible exact cst5 | with_reducible exact cst6 | with_reducible exact cst7 | with_reducible exact cst8 | with_reducible exact cst14 | with_reducible exact cst15 | with_reducible exact cst25 | with_reducible exact cst30 | with_reducible exact cst31 | fail) ?_ | fail) | (refine SideN.mk ?_ ?_; · first | kernel_rfl | omega | exact List.cons_ne_nil _ _ | (simp; done) | (simp; omega) | exact trivial | assumption | fail) | (refine CallN.id ?_; first | refine CallN.det _ (named0_c _) ?_ | refine CallN.det _ (terms_c _ _ _) ?_ | fail) | refine CallN.setB i _ _ _ _ hi rfl rfl (hn _) rfl ?_ | refine SegN.mk _ (seg_rfl rfl) ?_ | refine DrawN.mk' [] ?_ | fail))); all_goals (conv => whnf)
  refine LoopN.rounds Tryz.E0 Tryz.mx 3 (by simp) ?_
  (repeat' ((conv => whnf); (first | (refine IfN.id ?_; first | refine IfN.not ?_ | refine IfN.tt rfl ?_ | refine IfN.ff rfl ?_ | fail) | (refine EqN.id ?_; first | (refine EqN.addN _ _ (by first | with_reducible rfl | with_reducible exact cst1 | with_reducible exact cst0 | with_reducible exact cst2 | with_reducible exact cst3 | with_reducible exact cst4 | with_reducible exact cst5 | with_reducible exact cst6 | with_reducible exact cst7 | with_reducible exact cst8 | with_reducible exact cst14 | with_reducible exact cst15 | with_reducible exact cst25 | with_reducible exact cst30 | with_reducible exact cst31 | fail) (by first | with_reducible rfl | with_reducible exact cst1 | with_reducible exact cst0 | with_reducible exact cst2 | with_reducible exact cst3 | with_reducible exact cst4 | with_reducible exact cst5 | with_reducible exact cst6 | with_reducible exact cst7 | with_reducible exact cst8 | with_reducible exact cst14 | with_reducible exact cst15 | with_reducible exact cst25 | with_reducible exact cst30 | with_reducible exact cst31 | fail) ?_ ?_; · (repeat' (first | omega | refine And.intro ?_ ?_ | exact bnd_andl (by omega) | exact bnd_andr (by omega) | refine bnd_or ?_ ?_ | refine bnd_or31 ?_ ?_ | refine bnd_xor ?_ ?_ | refine bnd_xor31 ?_ ?_ | refine bnd_shr ?_ | refine bnd_shl ?_ ?_ | refine bnd_mod ?_ | refine bnd_andl ?_ | fail))) | fail) | (refine SideN.mk ?_ ?_; · first | kernel_rfl | omega | exact List.cons_ne_nil _ _ | (simp; done) | (simp; omega) | exact trivial | assumption | fail) | refine CallN.setB i _ _ _ _ (at_set hi) (by simp) rfl (h1 _) (List.set_set ..) ?_ | refine CallN.setB i _ _ _ _ (at_set hi) (by simp) rfl (h2 _) (List.set_set ..) ?_ | refine SegN.mk _ (seg_rfl rfl) ?_ | refine DrawN.mk' [] ?_ | fail))); all_goals (conv => whnf)
  exact EndN.setB (by simp [Blk.below, belowL, below]) trivial (Wk.refl _)
theorem form_f2_7 (a b : Fm) (iha : FormIH a) (ihb : FormIH b) (H : Heap) (i L d : Nat) (hi : H[i]? = some (jb L)) (hL : a.nodes + b.nodes + 1 ≤ L ∧ L ≤ 400) (hd : d + (max a.depth b.depth + 1) ≤ 41) : VCall Tryz.prog 139 [.ptr i 0, .agg (Fm.f2 7 a b).cells, .int .i64 d] H (setR H i (jb (L - (a.nodes + b.nodes + 1))) (.bool true)) := by
  have hp := a.nodes_pos
  have hpd := a.depth_pos
  have hp2 := b.nodes_pos
  have hpd2 := b.depth_pos
  have hn := fun X => node_c (H ++ X) i L d (at_base' hi) (by omega) (by omega)
  have h1 := fun X => iha (H.set i (jb (L - 1)) ++ X) i (L - 1) (d + 1) (at_base' (at_set hi)) (by omega) (by omega)
  have h2 := fun X => ihb (H.set i (jb (L - 1 - a.nodes)) ++ X) i (L - 1 - a.nodes) (d + 1) (at_base' (at_set hi)) (by omega) (by omega)
  rw [show L - 1 - a.nodes - b.nodes = L - (a.nodes + b.nodes + 1) by omega] at h2
  unfold jb at hi hn h1 h2 ⊢
  rw [show (Fm.f2 7 a b).cells = [.int .u8 (7 : Nat), .str .empty, .sl none 0 [], .sl none 2 [.int .u8 a.op, .str a.nmB, .sl none 0 [], .sl none a.sn a.sc, .int .u8 b.op, .str b.nmB, .sl none 0 [], .sl none b.sn b.sc]] from rfl]
  unfold Fm.cells at h1 h2
  generalize a.op = ao at h1 ⊢
  generalize a.nmB = an at h1 ⊢
  generalize a.sn = asn at h1 ⊢
  generalize a.sc = asc at h1 ⊢
  generalize b.op = bo at h2 ⊢
  generalize b.nmB = bn at h2 ⊢
  generalize b.sn = bsn at h2 ⊢
  generalize b.sc = bsc at h2 ⊢
  refine fn_gen Tryz.E0 Tryz.mx Tryz.func139 (by kernel_rfl) rfl (Nat.le_of_ble_eq_true rfl) rfl fun hcl hbl => ?_
  (repeat' ((conv => whnf); (first | (refine IfN.id ?_; first | refine IfN.not ?_ | refine IfN.tt rfl ?_ | refine IfN.ff rfl ?_ | fail) | (refine EqN.id ?_; first | (refine EqN.addN _ _ (by first | with_reducible rfl | with_reducible exact cst1 | with_reducible exact cst0 | with_reducible exact cst2 | with_reducible exact cst3 | with_reducible exact cst4 | with_reducible exact cst5 | with_reducible exact cst6 | with_reducible exact cst7 | with_reducible exact cst8 | with_reducible exact cst14 | with_reducible exact cst15 | with_reducible exact cst25 | with_reducible exact cst30 | with_reducible exact cst31 | fail) (by first | with_reducible rfl | with_reducible exact cst1 | with_reducible exact cst0 | with_reducible exact cst2 | with_reducible exact cst3 | with_reducible exact cst4 | with_reducible exact cst5 | with_reducible exact cst6 | with_reducible exact cst7 | with_reducible exact cst8 | with_reducible exact cst14 | with_reducible exact cst15 | with_reducible exact cst25 | with_reducible exact cst30 | with_reducible exact cst31 | fail) ?_ ?_; · (repeat' (first | omega | refine And.intro ?_ ?_ | exact bnd_andl (by omega) | exact bnd_andr (by omega) | refine bnd_or ?_ ?_ | refine bnd_or31 ?_ ?_ | refine bnd_xor ?_ ?_ | refine bnd_xor31 ?_ ?_ | refine bnd_shr ?_ | refine bnd_shl ?_ ?_ | refine bnd_mod ?_ | refine bnd_andl ?_ | fail))) | refine EqN.remN _ _ (by first | with_reducible rfl | with_reducible exact cst1 | with_reducible exact cst0 | with_reducible exact cst2 | with_reducible exact cst3 | with_reducible exact cst4 | with_reducible exact cst5 | with_reducible exact cst6 | with_reducible exact cst7 | with_reducible exact cst8 | with_reducible exact cst14 | with_reducible exact cst15 | with_reducible exact cst25 | with_reducible exact cst30 | with_reducible exact cst31 | fail) (by first | with_reducible rfl | with_reducible exact cst1 | with_reducible exact cst0 | with_reducible exact cst2 | with_reducible exact cst3 | with_reducible exact cst4 | with_reducible exact cst5 | with_reducible exact cst6 | with_reducible exact cst7 | with_reducible exact cst8 | with_reducible exact cst14 | with_reducible exact cst15 | with_reducible exact cst25 | with_reducible exact cst30 | with_reducible exact cst31 | fail) ?_ | fail) | (refine SideN.mk ?_ ?_; · first | kernel_rfl | omega | exact List.cons_ne_nil _ _ | (simp; done) | (simp; omega) | exact trivial | assumption | fail) | (refine CallN.id ?_; first | refine CallN.det _ (named0_c _) ?_ | refine CallN.det _ (terms_c _ _ _) ?_ | fail) | refine CallN.setB i _ _ _ _ hi rfl rfl (hn _) rfl ?_ | refine SegN.mk _ (seg_rfl rfl) ?_ | refine DrawN.mk' [] ?_ | fail))); all_goals (conv => whnf)
  refine LoopN.rounds Tryz.E0 Tryz.mx 3 (by simp) ?_
  (repeat' ((conv => whnf); (first | (refine IfN.id ?_; first | refine IfN.not ?_ | refine IfN.tt rfl ?_ | refine IfN.ff rfl ?_ | fail) | (refine EqN.id ?_; first | (refine EqN.addN _ _ (by first | with_reducible rfl | with_reducible exact cst1 | with_reducible exact cst0 | with_reducible exact cst2 | with_reducible exact cst3 | with_reducible exact cst4 | with_reducible exact cst5 | with_reducible exact cst6 | with_reducible exact cst7 | with_reducible exact cst8 | with_reducible exact cst14 | with_reducible exact cst15 | with_reducible exact cst25 | with_reducible exact cst30 | with_reducible exact cst31 | fail) (by first | with_reducible rfl | with_reducible exact cst1 | with_reducible exact cst0 | with_reducible exact cst2 | with_reducible exact cst3 | with_reducible exact cst4 | with_reducible exact cst5 | with_reducible exact cst6 | with_reducible exact cst7 | with_reducible exact cst8 | with_reducible exact cst14 | with_reducible exact cst15 | with_reducible exact cst25 | with_reducible exact cst30 | with_reducible exact cst31 | fail) ?_ ?_; · (repeat' (first | omega | refine And.intro ?_ ?_ | exact bnd_andl (by omega) | exact bnd_andr (by omega) | refine bnd_or ?_ ?_ | refine bnd_or31 ?_ ?_ | refine bnd_xor ?_ ?_ | refine bnd_xor31 ?_ ?_ | refine bnd_shr ?_ | refine bnd_shl ?_ ?_ | refine bnd_mod ?_ | refine bnd_andl ?_ | fail))) | fail) | (refine SideN.mk ?_ ?_; · first | kernel_rfl | omega | exact List.cons_ne_nil _ _ | (simp; done) | (simp; omega) | exact trivial | assumption | fail) | refine CallN.setB i _ _ _ _ (at_set hi) (by simp) rfl (h1 _) (List.set_set ..) ?_ | refine CallN.setB i _ _ _ _ (at_set hi) (by simp) rfl (h2 _) (List.set_set ..) ?_ | refine SegN.mk _ (seg_rfl rfl) ?_ | refine DrawN.mk' [] ?_ | fail))); all_goals (conv => whnf)
  exact EndN.setB (by simp [Blk.below, belowL, below]) trivial (Wk.refl _)
theorem form_f2_14 (a b : Fm) (iha : FormIH a) (ihb : FormIH b) (H : Heap) (i L d : Nat) (hi : H[i]? = some (jb L)) (hL : a.nodes + b.nodes + 1 ≤ L ∧ L ≤ 400) (hd : d + (max a.depth b.depth + 1) ≤ 41) : VCall Tryz.prog 139 [.ptr i 0, .agg (Fm.f2 14 a b).cells, .int .i64 d] H (setR H i (jb (L - (a.nodes + b.nodes + 1))) (.bool true)) := by
  have hp := a.nodes_pos
  have hpd := a.depth_pos
  have hp2 := b.nodes_pos
  have hpd2 := b.depth_pos
  have hn := fun X => node_c (H ++ X) i L d (at_base' hi) (by omega) (by omega)
  have h1 := fun X => iha (H.set i (jb (L - 1)) ++ X) i (L - 1) (d + 1) (at_base' (at_set hi)) (by omega) (by omega)
  have h2 := fun X => ihb (H.set i (jb (L - 1 - a.nodes)) ++ X) i (L - 1 - a.nodes) (d + 1) (at_base' (at_set hi)) (by omega) (by omega)
  rw [show L - 1 - a.nodes - b.nodes = L - (a.nodes + b.nodes + 1) by omega] at h2
  unfold jb at hi hn h1 h2 ⊢
  rw [show (Fm.f2 14 a b).cells = [.int .u8 (14 : Nat), .str .empty, .sl none 0 [], .sl none 2 [.int .u8 a.op, .str a.nmB, .sl none 0 [], .sl none a.sn a.sc, .int .u8 b.op, .str b.nmB, .sl none 0 [], .sl none b.sn b.sc]] from rfl]
  unfold Fm.cells at h1 h2
  generalize a.op = ao at h1 ⊢
  generalize a.nmB = an at h1 ⊢
  generalize a.sn = asn at h1 ⊢
  generalize a.sc = asc at h1 ⊢
  generalize b.op = bo at h2 ⊢
  generalize b.nmB = bn at h2 ⊢
  generalize b.sn = bsn at h2 ⊢
  generalize b.sc = bsc at h2 ⊢
  refine fn_gen Tryz.E0 Tryz.mx Tryz.func139 (by kernel_rfl) rfl (Nat.le_of_ble_eq_true rfl) rfl fun hcl hbl => ?_
  (repeat' ((conv => whnf); (first | (refine IfN.id ?_; first | refine IfN.not ?_ | refine IfN.tt rfl ?_ | refine IfN.ff rfl ?_ | fail) | (refine EqN.id ?_; first | (refine EqN.addN _ _ (by first | with_reducible rfl | with_reducible exact cst1 | with_reducible exact cst0 | with_reducible exact cst2 | with_reducible exact cst3 | with_reducible exact cst4 | with_reducible exact cst5 | with_reducible exact cst6 | with_reducible exact cst7 | with_reducible exact cst8 | with_reducible exact cst14 | with_reducible exact cst15 | with_reducible exact cst25 | with_reducible exact cst30 | with_reducible exact cst31 | fail) (by first | with_reducible rfl | with_reducible exact cst1 | with_reducible exact cst0 | with_reducible exact cst2 | with_reducible exact cst3 | with_reducible exact cst4 | with_reducible exact cst5 | with_reducible exact cst6 | with_reducible exact cst7 | with_reducible exact cst8 | with_reducible exact cst14 | with_reducible exact cst15 | with_reducible exact cst25 | with_reducible exact cst30 | with_reducible exact cst31 | fail) ?_ ?_; · (repeat' (first | omega | refine And.intro ?_ ?_ | exact bnd_andl (by omega) | exact bnd_andr (by omega) | refine bnd_or ?_ ?_ | refine bnd_or31 ?_ ?_ | refine bnd_xor ?_ ?_ | refine bnd_xor31 ?_ ?_ | refine bnd_shr ?_ | refine bnd_shl ?_ ?_ | refine bnd_mod ?_ | refine bnd_andl ?_ | fail))) | refine EqN.remN _ _ (by first | with_reducible rfl | with_reducible exact cst1 | with_reducible exact cst0 | with_reducible exact cst2 | with_reducible exact cst3 | with_reducible exact cst4 | with_reducible exact cst5 | with_reducible exact cst6 | with_reducible exact cst7 | with_reducible exact cst8 | with_reducible exact cst14 | with_reducible exact cst15 | with_reducible exact cst25 | with_reducible exact cst30 | with_reducible exact cst31 | fail) (by first | with_reducible rfl | with_reducible exact cst1 | with_reducible exact cst0 | with_reducible exact cst2 | with_reducible exact cst3 | with_reducible exact cst4 | with_reducible exact cst5 | with_reducible exact cst6 | with_reducible exact cst7 | with_reducible exact cst8 | with_reducible exact cst14 | with_reducible exact cst15 | with_reducible exact cst25 | with_reducible exact cst30 | with_reducible exact cst31 | fail) ?_ | fail) | (refine SideN.mk ?_ ?_; · first | kernel_rfl | omega | exact List.cons_ne_nil _ _ | (simp; done) | (simp; omega) | exact trivial | assumption | fail) | (refine CallN.id ?_; first | refine CallN.det _ (named0_c _) ?_ | refine CallN.det _ (terms_c _ _ _) ?_ | fail) | refine CallN.setB i _ _ _ _ hi rfl rfl (hn _) rfl ?_ | refine SegN.mk _ (seg_rfl rfl) ?_ | refine DrawN.mk' [] ?_ | fail))); all_goals (conv => whnf)
  refine LoopN.rounds Tryz.E0 Tryz.mx 3 (by simp) ?_
  (repeat' ((conv => whnf); (first | (refine IfN.id ?_; first | refine IfN.not ?_ | refine IfN.tt rfl ?_ | refine IfN.ff rfl ?_ | fail) | (refine EqN.id ?_; first | (refine EqN.addN _ _ (by first | with_reducible rfl | with_reducible exact cst1 | with_reducible exact cst0 | with_reducible exact cst2 | with_reducible exact cst3 | with_reducible exact cst4 | with_reducible exact cst5 | with_reducible exact cst6 | with_reducible exact cst7 | with_reducible exact cst8 | with_reducible exact cst14 | with_reducible exact cst15 | with_reducible exact cst25 | with_reducible exact cst30 | with_reducible exact cst31 | fail) (by first | with_reducible rfl | with_reducible exact cst1 | with_reducible exact cst0 | with_reducible exact cst2 | with_reducible exact cst3 | with_reducible exact cst4 | with_reducible exact cst5 | with_reducible exact cst6 | with_reducible exact cst7 | with_reducible exact cst8 | with_reducible exact cst14 | with_reducible exact cst15 | with_reducible exact cst25 | with_reducible exact cst30 | with_reducible exact cst31 | fail) ?_ ?_; · (repeat' (first | omega | refine And.intro ?_ ?_ | exact bnd_andl (by omega) | exact bnd_andr (by omega) | refine bnd_or ?_ ?_ | refine bnd_or31 ?_ ?_ | refine bnd_xor ?_ ?_ | refine bnd_xor31 ?_ ?_ | refine bnd_shr ?_ | refine bnd_shl ?_ ?_ | refine bnd_mod ?_ | refine bnd_andl ?_ | fail))) | fail) | (refine SideN.mk ?_ ?_; · first | kernel_rfl | omega | exact List.cons_ne_nil _ _ | (simp; done) | (simp; omega) | exact trivial | assumption | fail) | refine CallN.setB i _ _ _ _ (at_set hi) (by simp) rfl (h1 _) (List.set_set ..) ?_ | refine CallN.setB i _ _ _ _ (at_set hi) (by simp) rfl (h2 _) (List.set_set ..) ?_ | refine SegN.mk _ (seg_rfl rfl) ?_ | refine DrawN.mk' [] ?_ | fail))); all_goals (conv => whnf)
  exact EndN.setB (by simp [Blk.below, belowL, below]) trivial (Wk.refl _)
theorem form_c : ∀ f : Fm, f.Ok → FormIH f
  | .at c, h => fun H i L d hi hL hd => form_at c h H i L d hi hL (by simp only [Fm.depth] at hd; omega)
  | .fa, _ => fun H i L d hi hL hd => form_fa H i L d hi hL (by simp only [Fm.depth] at hd; omega)
  | .f1 k a, h => by
    have ih := form_c a h.2
    rcases h.1 with rfl | rfl | rfl | rfl | rfl
    · exact form_f1_3 a ih
    · exact form_f1_10 a ih
    · exact form_f1_11 a ih
    · exact form_f1_12 a ih
    · exact form_f1_13 a ih
  | .f2 k a b, h => by
    have iha := form_c a h.2.1
    have ihb := form_c b h.2.2
    rcases h.1 with rfl | rfl | rfl | rfl | rfl
    · exact form_f2_4 a b iha ihb
    · exact form_f2_5 a b iha ihb
    · exact form_f2_6 a b iha ihb
    · exact form_f2_7 a b iha ihb
    · exact form_f2_14 a b iha ihb
theorem synRight_c (f : Fm) (hf : f.Ok) (hn : f.Small) (H : Heap) : VDet Tryz.prog 100 [.agg f.cells] H (.bool true) := by
  have h1 := form_c f hf (H ++ [.box 50 f.cells, jb 400]) (H.length + 1) 400 1 (at_loc0 rfl) ⟨hn.1, Nat.le_refl _⟩ (by have := hn.2; omega)
  unfold jb at h1
  unfold Fm.cells at h1 ⊢
  refine fn_det Tryz.E0 Tryz.mx Tryz.func100 (by kernel_rfl) rfl (Nat.le_of_ble_eq_true rfl) rfl fun hcl hbl => ?_
  (repeat' ((conv => whnf); (first | refine CallN.setL 1 _ _ _ rfl rfl h1 rfl ?_ | refine DrawN.mk' [] ?_ | fail))); all_goals (conv => whnf)
  exact EndN.det trivial (Wk.refl _)
end Go.Proofs.YtjflngchbeegcaaGreatDoor
/-! text L13z -/
namespace Go.Proofs.YtjflngchbeegcaaGreatDoor
open Go.Vsi
set_option maxHeartbeats 1000000
attribute [local irreducible] VW VCall VO bits

def Fm.Temp : Fm → Prop
  | .at _ => True
  | .fa => True
  | .f1 k a => (k = 3 ∨ k = 12 ∨ k = 13) ∧ a.Temp
  | .f2 k a b => is2 k ∧ a.Temp ∧ b.Temp
theorem temp_at (c : UInt8) (H : Heap) : VDet Tryz.prog 101 [.agg (Fm.at c).cells] H (.bool true) := by
  unfold Fm.cells
  simp only [Fm.op, Fm.nmB, Fm.sn, Fm.sc]
  refine fn_det Tryz.E0 Tryz.mx Tryz.func101 (by kernel_rfl) rfl (Nat.le_of_ble_eq_true rfl) rfl fun hcl hbl => ?_
  (repeat' ((conv => whnf); (first | (refine IfN.id ?_; first | refine IfN.not ?_ | refine IfN.ff rfl ?_ | fail) | refine DrawN.mk' [] ?_ | fail))); all_goals (conv => whnf)
  refine LoopN.rounds Tryz.E0 Tryz.mx 1 rfl ?_
  (repeat' ((conv => whnf); (first | (refine IfN.id ?_; first | refine IfN.ff rfl ?_ | fail) | refine DrawN.mk' [] ?_ | fail))); all_goals (conv => whnf)
  exact EndN.det trivial (Wk.refl _)
theorem temp_fa (H : Heap) : VDet Tryz.prog 101 [.agg Fm.fa.cells] H (.bool true) := by
  unfold Fm.cells
  simp only [Fm.op, Fm.nmB, Fm.sn, Fm.sc]
  refine fn_det Tryz.E0 Tryz.mx Tryz.func101 (by kernel_rfl) rfl (Nat.le_of_ble_eq_true rfl) rfl fun hcl hbl => ?_
  (repeat' ((conv => whnf); (first | (refine IfN.id ?_; first | refine IfN.not ?_ | refine IfN.ff rfl ?_ | fail) | refine DrawN.mk' [] ?_ | fail))); all_goals (conv => whnf)
  refine LoopN.rounds Tryz.E0 Tryz.mx 1 rfl ?_
  (repeat' ((conv => whnf); (first | (refine IfN.id ?_; first | refine IfN.ff rfl ?_ | fail) | refine DrawN.mk' [] ?_ | fail))); all_goals (conv => whnf)
  exact EndN.det trivial (Wk.refl _)
theorem temp_f1_3 (a : Fm) (h1 : ∀ H, VDet Tryz.prog 101 [.agg a.cells] H (.bool true)) (H : Heap) : VDet Tryz.prog 101 [.agg (Fm.f1 3 a).cells] H (.bool true) := by
  rw [show (Fm.f1 3 a).cells = [.int .u8 (3 : Nat), .str .empty, .sl none 0 [], .sl none 1 [.int .u8 a.op, .str a.nmB, .sl none 0 [], .sl none a.sn a.sc]] from rfl]
  unfold Fm.cells at h1
  generalize a.op = ao at h1 ⊢
  generalize a.nmB = an at h1 ⊢
  generalize a.sn = asn at h1 ⊢
  generalize a.sc = asc at h1 ⊢
  refine fn_det Tryz.E0 Tryz.mx Tryz.func101 (by kernel_rfl) rfl (Nat.le_of_ble_eq_true rfl) rfl fun hcl hbl => ?_
  (repeat' ((conv => whnf); (first | (refine IfN.id ?_; first | refine IfN.not ?_ | refine IfN.ff rfl ?_ | fail) | refine DrawN.mk' [] ?_ | fail))); all_goals (conv => whnf)
  refine LoopN.rounds Tryz.E0 Tryz.mx 2 rfl ?_
  (repeat' ((conv => whnf); (first | (refine IfN.id ?_; first | refine IfN.not ?_ | refine IfN.tt rfl ?_ | refine IfN.ff rfl ?_ | fail) | (refine EqN.id ?_; first | (refine EqN.addN _ _ (by first | with_reducible rfl | with_reducible exact cst1 | with_reducible exact cst0 | with_reducible exact cst2 | with_reducible exact cst3 | with_reducible exact cst4 | with_reducible exact cst5 | with_reducible exact cst6 | with_reducible exact cst7 | with_reducible exact cst8 | with_reducible exact cst14 | with_reducible exact cst15 | with_reducible exact cst25 | with_reducible exact cst30 | with_reducible exact cst31 | fail) (by first | with_reducible rfl | with_reducible exact cst1 | with_reducible exact cst0 | with_reducible exact cst2 | with_reducible exact cst3 | with_reducible exact cst4 | with_reducible exact cst5 | with_reducible exact cst6 | with_reducible exact cst7 | with_reducible exact cst8 | with_reducible exact cst14 | with_reducible exact cst15 | with_reducible exact cst25 | with_reducible exact cst30 | with_reducible exact cst31 | fail) ?_ ?_; · (repeat' (first | omega | refine And.intro ?_ ?_ | exact bnd_andl (by omega) | exact bnd_andr (by omega) | refine bnd_or ?_ ?_ | refine bnd_or31 ?_ ?_ | refine bnd_xor ?_ ?_ | refine bnd_xor31 ?_ ?_ | refine bnd_shr ?_ | refine bnd_shl ?_ ?_ | refine bnd_mod ?_ | refine bnd_andl ?_ | fail))) | fail) | (refine SideN.mk ?_ ?_; · first | kernel_rfl | omega | exact List.cons_ne_nil _ _ | (simp; done) | (simp; omega) | exact trivial | assumption | fail) | (refine CallN.id ?_; first | refine CallN.det _ (h1 _) ?_ | fail) | refine SegN.mk _ (seg_rfl rfl) ?_ | refine DrawN.mk' [] ?_ | fail))); all_goals (conv => whnf)
  exact EndN.det trivial (Wk.refl _)
theorem temp_f1_12 (a : Fm) (h1 : ∀ H, VDet Tryz.prog 101 [.agg a.cells] H (.bool true)) (H : Heap) : VDet Tryz.prog 101 [.agg (Fm.f1 12 a).cells] H (.bool true) := by
  rw [show (Fm.f1 12 a).cells = [.int .u8 (12 : Nat), .str .empty, .sl none 0 [], .sl none 1 [.int .u8 a.op, .str a.nmB, .sl none 0 [], .sl none a.sn a.sc]] from rfl]
  unfold Fm.cells at h1
  generalize a.op = ao at h1 ⊢
  generalize a.nmB = an at h1 ⊢
  generalize a.sn = asn at h1 ⊢
  generalize a.sc = asc at h1 ⊢
  refine fn_det Tryz.E0 Tryz.mx Tryz.func101 (by kernel_rfl) rfl (Nat.le_of_ble_eq_true rfl) rfl fun hcl hbl => ?_
  (repeat' ((conv => whnf); (first | (refine IfN.id ?_; first | refine IfN.not ?_ | refine IfN.tt rfl ?_ | refine IfN.ff rfl ?_ | fail) | refine DrawN.mk' [] ?_ | fail))); all_goals (conv => whnf)
  refine LoopN.rounds Tryz.E0 Tryz.mx 2 rfl ?_
  (repeat' ((conv => whnf); (first | (refine IfN.id ?_; first | refine IfN.not ?_ | refine IfN.tt rfl ?_ | refine IfN.ff rfl ?_ | fail) | (refine EqN.id ?_; first | (refine EqN.addN _ _ (by first | with_reducible rfl | with_reducible exact cst1 | with_reducible exact cst0 | with_reducible exact cst2 | with_reducible exact cst3 | with_reducible exact cst4 | with_reducible exact cst5 | with_reducible exact cst6 | with_reducible exact cst7 | with_reducible exact cst8 | with_reducible exact cst14 | with_reducible exact cst15 | with_reducible exact cst25 | with_reducible exact cst30 | with_reducible exact cst31 | fail) (by first | with_reducible rfl | with_reducible exact cst1 | with_reducible exact cst0 | with_reducible exact cst2 | with_reducible exact cst3 | with_reducible exact cst4 | with_reducible exact cst5 | with_reducible exact cst6 | with_reducible exact cst7 | with_reducible exact cst8 | with_reducible exact cst14 | with_reducible exact cst15 | with_reducible exact cst25 | with_reducible exact cst30 | with_reducible exact cst31 | fail) ?_ ?_; · (repeat' (first | omega | refine And.intro ?_ ?_ | exact bnd_andl (by omega) | exact bnd_andr (by omega) | refine bnd_or ?_ ?_ | refine bnd_or31 ?_ ?_ | refine bnd_xor ?_ ?_ | refine bnd_xor31 ?_ ?_ | refine bnd_shr ?_ | refine bnd_shl ?_ ?_ | refine bnd_mod ?_ | refine bnd_andl ?_ | fail))) | fail) | (refine SideN.mk ?_ ?_; · first | kernel_rfl | omega | exact List.cons_ne_nil _ _ | (simp; done) | (simp; omega) | exact trivial | assumption | fail) | (refine CallN.id ?_; first | refine CallN.det _ (h1 _) ?_ | fail) | refine SegN.mk _ (seg_rfl rfl) ?_ | refine DrawN.mk' [] ?_ | fail))); all_goals (conv => whnf)
  exact EndN.det trivial (Wk.refl _)
theorem temp_f1_13 (a : Fm) (h1 : ∀ H, VDet Tryz.prog 101 [.agg a.cells] H (.bool true)) (H : Heap) : VDet Tryz.prog 101 [.agg (Fm.f1 13 a).cells] H (.bool true) := by
  rw [show (Fm.f1 13 a).cells = [.int .u8 (13 : Nat), .str .empty, .sl none 0 [], .sl none 1 [.int .u8 a.op, .str a.nmB, .sl none 0 [], .sl none a.sn a.sc]] from rfl]
  unfold Fm.cells at h1
  generalize a.op = ao at h1 ⊢
  generalize a.nmB = an at h1 ⊢
  generalize a.sn = asn at h1 ⊢
  generalize a.sc = asc at h1 ⊢
  refine fn_det Tryz.E0 Tryz.mx Tryz.func101 (by kernel_rfl) rfl (Nat.le_of_ble_eq_true rfl) rfl fun hcl hbl => ?_
  (repeat' ((conv => whnf); (first | (refine IfN.id ?_; first | refine IfN.not ?_ | refine IfN.tt rfl ?_ | refine IfN.ff rfl ?_ | fail) | refine DrawN.mk' [] ?_ | fail))); all_goals (conv => whnf)
  refine LoopN.rounds Tryz.E0 Tryz.mx 2 rfl ?_
  (repeat' ((conv => whnf); (first | (refine IfN.id ?_; first | refine IfN.not ?_ | refine IfN.tt rfl ?_ | refine IfN.ff rfl ?_ | fail) | (refine EqN.id ?_; first | (refine EqN.addN _ _ (by first | with_reducible rfl | with_reducible exact cst1 | with_reducible exact cst0 | with_reducible exact cst2 | with_reducible exact cst3 | with_reducible exact cst4 | with_reducible exact cst5 | with_reducible exact cst6 | with_reducible exact cst7 | with_reducible exact cst8 | with_reducible exact cst14 | with_reducible exact cst15 | with_reducible exact cst25 | with_reducible exact cst30 | with_reducible exact cst31 | fail) (by first | with_reducible rfl | with_reducible exact cst1 | with_reducible exact cst0 | with_reducible exact cst2 | with_reducible exact cst3 | with_reducible exact cst4 | with_reducible exact cst5 | with_reducible exact cst6 | with_reducible exact cst7 | with_reducible exact cst8 | with_reducible exact cst14 | with_reducible exact cst15 | with_reducible exact cst25 | with_reducible exact cst30 | with_reducible exact cst31 | fail) ?_ ?_; · (repeat' (first | omega | refine And.intro ?_ ?_ | exact bnd_andl (by omega) | exact bnd_andr (by omega) | refine bnd_or ?_ ?_ | refine bnd_or31 ?_ ?_ | refine bnd_xor ?_ ?_ | refine bnd_xor31 ?_ ?_ | refine bnd_shr ?_ | refine bnd_shl ?_ ?_ | refine bnd_mod ?_ | refine bnd_andl ?_ | fail))) | fail) | (refine SideN.mk ?_ ?_; · first | kernel_rfl | omega | exact List.cons_ne_nil _ _ | (simp; done) | (simp; omega) | exact trivial | assumption | fail) | (refine CallN.id ?_; first | refine CallN.det _ (h1 _) ?_ | fail) | refine SegN.mk _ (seg_rfl rfl) ?_ | refine DrawN.mk' [] ?_ | fail))); all_goals (conv => whnf)
  exact EndN.det trivial (Wk.refl _)
theorem temp_f2_4 (a b : Fm) (h1 : ∀ H, VDet Tryz.prog 101 [.agg a.cells] H (.bool true)) (h2 : ∀ H, VDet Tryz.prog 101 [.agg b.cells] H (.bool true)) (H : Heap) : VDet Tryz.prog 101 [.agg (Fm.f2 4 a b).cells] H (.bool true) := by
  rw [show (Fm.f2 4 a b).cells = [.int .u8 (4 : Nat), .str .empty, .sl none 0 [], .sl none 2 [.int .u8 a.op, .str a.nmB, .sl none 0 [], .sl none a.sn a.sc, .int .u8 b.op, .str b.nmB, .sl none 0 [], .sl none b.sn b.sc]] from rfl]
  unfold Fm.cells at h1 h2
  generalize a.op = ao at h1 ⊢
  generalize a.nmB = an at h1 ⊢
  generalize a.sn = asn at h1 ⊢
  generalize a.sc = asc at h1 ⊢
  generalize b.op = bo at h2 ⊢
  generalize b.nmB = bn at h2 ⊢
  generalize b.sn = bsn at h2 ⊢
  generalize b.sc = bsc at h2 ⊢
  refine fn_det Tryz.E0 Tryz.mx Tryz.func101 (by kernel_rfl) rfl (Nat.le_of_ble_eq_true rfl) rfl fun hcl hbl => ?_
  (repeat' ((conv => whnf); (first | (refine IfN.id ?_; first | refine IfN.not ?_ | refine IfN.ff rfl ?_ | fail) | refine DrawN.mk' [] ?_ | fail))); all_goals (conv => whnf)
  refine LoopN.rounds Tryz.E0 Tryz.mx 3 rfl ?_
  (repeat' ((conv => whnf); (first | (refine IfN.id ?_; first | refine IfN.not ?_ | refine IfN.tt rfl ?_ | refine IfN.ff rfl ?_ | fail) | (refine EqN.id ?_; first | (refine EqN.addN _ _ (by first | with_reducible rfl | with_reducible exact cst1 | with_reducible exact cst0 | with_reducible exact cst2 | with_reducible exact cst3 | with_reducible exact cst4 | with_reducible exact cst5 | with_reducible exact cst6 | with_reducible exact cst7 | with_reducible exact cst8 | with_reducible exact cst14 | with_reducible exact cst15 | with_reducible exact cst25 | with_reducible exact cst30 | with_reducible exact cst31 | fail) (by first | with_reducible rfl | with_reducible exact cst1 | with_reducible exact cst0 | with_reducible exact cst2 | with_reducible exact cst3 | with_reducible exact cst4 | with_reducible exact cst5 | with_reducible exact cst6 | with_reducible exact cst7 | with_reducible exact cst8 | with_reducible exact cst14 | with_reducible exact cst15 | with_reducible exact cst25 | with_reducible exact cst30 | with_reducible exact cst31 | fail) ?_ ?_; · (repeat' (first | omega | refine And.intro ?_ ?_ | exact bnd_andl (by omega) | exact bnd_andr (by omega) | refine bnd_or ?_ ?_ | refine bnd_or31 ?_ ?_ | refine bnd_xor ?_ ?_ | refine bnd_xor31 ?_ ?_ | refine bnd_shr ?_ | refine bnd_shl ?_ ?_ | refine bnd_mod ?_ | refine bnd_andl ?_ | fail))) | fail) | (refine SideN.mk ?_ ?_; · first | kernel_rfl | omega | exact List.cons_ne_nil _ _ | (simp; done) | (simp; omega) | exact trivial | assumption | fail) | (refine CallN.id ?_; first | refine CallN.det _ (h1 _) ?_ | refine CallN.det _ (h2 _) ?_ | fail) | refine SegN.mk _ (seg_rfl rfl) ?_ | refine DrawN.mk' [] ?_ | fail))); all_goals (conv => whnf)
  exact EndN.det trivial (Wk.refl _)
theorem temp_f2_5 (a b : Fm) (h1 : ∀ H, VDet Tryz.prog 101 [.agg a.cells] H (.bool true)) (h2 : ∀ H, VDet Tryz.prog 101 [.agg b.cells] H (.bool true)) (H : Heap) : VDet Tryz.prog 101 [.agg (Fm.f2 5 a b).cells] H (.bool true) := by
  rw [show (Fm.f2 5 a b).cells = [.int .u8 (5 : Nat), .str .empty, .sl none 0 [], .sl none 2 [.int .u8 a.op, .str a.nmB, .sl none 0 [], .sl none a.sn a.sc, .int .u8 b.op, .str b.nmB, .sl none 0 [], .sl none b.sn b.sc]] from rfl]
  unfold Fm.cells at h1 h2
  generalize a.op = ao at h1 ⊢
  generalize a.nmB = an at h1 ⊢
  generalize a.sn = asn at h1 ⊢
  generalize a.sc = asc at h1 ⊢
  generalize b.op = bo at h2 ⊢
  generalize b.nmB = bn at h2 ⊢
  generalize b.sn = bsn at h2 ⊢
  generalize b.sc = bsc at h2 ⊢
  refine fn_det Tryz.E0 Tryz.mx Tryz.func101 (by kernel_rfl) rfl (Nat.le_of_ble_eq_true rfl) rfl fun hcl hbl => ?_
  (repeat' ((conv => whnf); (first | (refine IfN.id ?_; first | refine IfN.not ?_ | refine IfN.ff rfl ?_ | fail) | refine DrawN.mk' [] ?_ | fail))); all_goals (conv => whnf)
  refine LoopN.rounds Tryz.E0 Tryz.mx 3 rfl ?_
  (repeat' ((conv => whnf); (first | (refine IfN.id ?_; first | refine IfN.not ?_ | refine IfN.tt rfl ?_ | refine IfN.ff rfl ?_ | fail) | (refine EqN.id ?_; first | (refine EqN.addN _ _ (by first | with_reducible rfl | with_reducible exact cst1 | with_reducible exact cst0 | with_reducible exact cst2 | with_reducible exact cst3 | with_reducible exact cst4 | with_reducible exact cst5 | with_reducible exact cst6 | with_reducible exact cst7 | with_reducible exact cst8 | with_reducible exact cst14 | with_reducible exact cst15 | with_reducible exact cst25 | with_reducible exact cst30 | with_reducible exact cst31 | fail) (by first | with_reducible rfl | with_reducible exact cst1 | with_reducible exact cst0 | with_reducible exact cst2 | with_reducible exact cst3 | with_reducible exact cst4 | with_reducible exact cst5 | with_reducible exact cst6 | with_reducible exact cst7 | with_reducible exact cst8 | with_reducible exact cst14 | with_reducible exact cst15 | with_reducible exact cst25 | with_reducible exact cst30 | with_reducible exact cst31 | fail) ?_ ?_; · (repeat' (first | omega | refine And.intro ?_ ?_ | exact bnd_andl (by omega) | exact bnd_andr (by omega) | refine bnd_or ?_ ?_ | refine bnd_or31 ?_ ?_ | refine bnd_xor ?_ ?_ | refine bnd_xor31 ?_ ?_ | refine bnd_shr ?_ | refine bnd_shl ?_ ?_ | refine bnd_mod ?_ | refine bnd_andl ?_ | fail))) | fail) | (refine SideN.mk ?_ ?_; · first | kernel_rfl | omega | exact List.cons_ne_nil _ _ | (simp; done) | (simp; omega) | exact trivial | assumption | fail) | (refine CallN.id ?_; first | refine CallN.det _ (h1 _) ?_ | refine CallN.det _ (h2 _) ?_ | fail) | refine SegN.mk _ (seg_rfl rfl) ?_ | refine DrawN.mk' [] ?_ | fail))); all_goals (conv => whnf)
  exact EndN.det trivial (Wk.refl _)
theorem temp_f2_6 (a b : Fm) (h1 : ∀ H, VDet Tryz.prog 101 [.agg a.cells] H (.bool true)) (h2 : ∀ H, VDet Tryz.prog 101 [.agg b.cells] H (.bool true)) (H : Heap) : VDet Tryz.prog 101 [.agg (Fm.f2 6 a b).cells] H (.bool true) := by
  rw [show (Fm.f2 6 a b).cells = [.int .u8 (6 : Nat), .str .empty, .sl none 0 [], .sl none 2 [.int .u8 a.op, .str a.nmB, .sl none 0 [], .sl none a.sn a.sc, .int .u8 b.op, .str b.nmB, .sl none 0 [], .sl none b.sn b.sc]] from rfl]
  unfold Fm.cells at h1 h2
  generalize a.op = ao at h1 ⊢
  generalize a.nmB = an at h1 ⊢
  generalize a.sn = asn at h1 ⊢
  generalize a.sc = asc at h1 ⊢
  generalize b.op = bo at h2 ⊢
  generalize b.nmB = bn at h2 ⊢
  generalize b.sn = bsn at h2 ⊢
  generalize b.sc = bsc at h2 ⊢
  refine fn_det Tryz.E0 Tryz.mx Tryz.func101 (by kernel_rfl) rfl (Nat.le_of_ble_eq_true rfl) rfl fun hcl hbl => ?_
  (repeat' ((conv => whnf); (first | (refine IfN.id ?_; first | refine IfN.not ?_ | refine IfN.ff rfl ?_ | fail) | refine DrawN.mk' [] ?_ | fail))); all_goals (conv => whnf)
  refine LoopN.rounds Tryz.E0 Tryz.mx 3 rfl ?_
  (repeat' ((conv => whnf); (first | (refine IfN.id ?_; first | refine IfN.not ?_ | refine IfN.tt rfl ?_ | refine IfN.ff rfl ?_ | fail) | (refine EqN.id ?_; first | (refine EqN.addN _ _ (by first | with_reducible rfl | with_reducible exact cst1 | with_reducible exact cst0 | with_reducible exact cst2 | with_reducible exact cst3 | with_reducible exact cst4 | with_reducible exact cst5 | with_reducible exact cst6 | with_reducible exact cst7 | with_reducible exact cst8 | with_reducible exact cst14 | with_reducible exact cst15 | with_reducible exact cst25 | with_reducible exact cst30 | with_reducible exact cst31 | fail) (by first | with_reducible rfl | with_reducible exact cst1 | with_reducible exact cst0 | with_reducible exact cst2 | with_reducible exact cst3 | with_reducible exact cst4 | with_reducible exact cst5 | with_reducible exact cst6 | with_reducible exact cst7 | with_reducible exact cst8 | with_reducible exact cst14 | with_reducible exact cst15 | with_reducible exact cst25 | with_reducible exact cst30 | with_reducible exact cst31 | fail) ?_ ?_; · (repeat' (first | omega | refine And.intro ?_ ?_ | exact bnd_andl (by omega) | exact bnd_andr (by omega) | refine bnd_or ?_ ?_ | refine bnd_or31 ?_ ?_ | refine bnd_xor ?_ ?_ | refine bnd_xor31 ?_ ?_ | refine bnd_shr ?_ | refine bnd_shl ?_ ?_ | refine bnd_mod ?_ | refine bnd_andl ?_ | fail))) | fail) | (refine SideN.mk ?_ ?_; · first | kernel_rfl | omega | exact List.cons_ne_nil _ _ | (simp; done) | (simp; omega) | exact trivial | assumption | fail) | (refine CallN.id ?_; first | refine CallN.det _ (h1 _) ?_ | refine CallN.det _ (h2 _) ?_ | fail) | refine SegN.mk _ (seg_rfl rfl) ?_ | refine DrawN.mk' [] ?_ | fail))); all_goals (conv => whnf)
  exact EndN.det trivial (Wk.refl _)
theorem temp_f2_7 (a b : Fm) (h1 : ∀ H, VDet Tryz.prog 101 [.agg a.cells] H (.bool true)) (h2 : ∀ H, VDet Tryz.prog 101 [.agg b.cells] H (.bool true)) (H : Heap) : VDet Tryz.prog 101 [.agg (Fm.f2 7 a b).cells] H (.bool true) := by
  rw [show (Fm.f2 7 a b).cells = [.int .u8 (7 : Nat), .str .empty, .sl none 0 [], .sl none 2 [.int .u8 a.op, .str a.nmB, .sl none 0 [], .sl none a.sn a.sc, .int .u8 b.op, .str b.nmB, .sl none 0 [], .sl none b.sn b.sc]] from rfl]
  unfold Fm.cells at h1 h2
  generalize a.op = ao at h1 ⊢
  generalize a.nmB = an at h1 ⊢
  generalize a.sn = asn at h1 ⊢
  generalize a.sc = asc at h1 ⊢
  generalize b.op = bo at h2 ⊢
  generalize b.nmB = bn at h2 ⊢
  generalize b.sn = bsn at h2 ⊢
  generalize b.sc = bsc at h2 ⊢
  refine fn_det Tryz.E0 Tryz.mx Tryz.func101 (by kernel_rfl) rfl (Nat.le_of_ble_eq_true rfl) rfl fun hcl hbl => ?_
  (repeat' ((conv => whnf); (first | (refine IfN.id ?_; first | refine IfN.not ?_ | refine IfN.ff rfl ?_ | fail) | refine DrawN.mk' [] ?_ | fail))); all_goals (conv => whnf)
  refine LoopN.rounds Tryz.E0 Tryz.mx 3 rfl ?_
  (repeat' ((conv => whnf); (first | (refine IfN.id ?_; first | refine IfN.not ?_ | refine IfN.tt rfl ?_ | refine IfN.ff rfl ?_ | fail) | (refine EqN.id ?_; first | (refine EqN.addN _ _ (by first | with_reducible rfl | with_reducible exact cst1 | with_reducible exact cst0 | with_reducible exact cst2 | with_reducible exact cst3 | with_reducible exact cst4 | with_reducible exact cst5 | with_reducible exact cst6 | with_reducible exact cst7 | with_reducible exact cst8 | with_reducible exact cst14 | with_reducible exact cst15 | with_reducible exact cst25 | with_reducible exact cst30 | with_reducible exact cst31 | fail) (by first | with_reducible rfl | with_reducible exact cst1 | with_reducible exact cst0 | with_reducible exact cst2 | with_reducible exact cst3 | with_reducible exact cst4 | with_reducible exact cst5 | with_reducible exact cst6 | with_reducible exact cst7 | with_reducible exact cst8 | with_reducible exact cst14 | with_reducible exact cst15 | with_reducible exact cst25 | with_reducible exact cst30 | with_reducible exact cst31 | fail) ?_ ?_; · (repeat' (first | omega | refine And.intro ?_ ?_ | exact bnd_andl (by omega) | exact bnd_andr (by omega) | refine bnd_or ?_ ?_ | refine bnd_or31 ?_ ?_ | refine bnd_xor ?_ ?_ | refine bnd_xor31 ?_ ?_ | refine bnd_shr ?_ | refine bnd_shl ?_ ?_ | refine bnd_mod ?_ | refine bnd_andl ?_ | fail))) | fail) | (refine SideN.mk ?_ ?_; · first | kernel_rfl | omega | exact List.cons_ne_nil _ _ | (simp; done) | (simp; omega) | exact trivial | assumption | fail) | (refine CallN.id ?_; first | refine CallN.det _ (h1 _) ?_ | refine CallN.det _ (h2 _) ?_ | fail) | refine SegN.mk _ (seg_rfl rfl) ?_ | refine DrawN.mk' [] ?_ | fail))); all_goals (conv => whnf)
  exact EndN.det trivial (Wk.refl _)
theorem temp_f2_14 (a b : Fm) (h1 : ∀ H, VDet Tryz.prog 101 [.agg a.cells] H (.bool true)) (h2 : ∀ H, VDet Tryz.prog 101 [.agg b.cells] H (.bool true)) (H : Heap) : VDet Tryz.prog 101 [.agg (Fm.f2 14 a b).cells] H (.bool true) := by
  rw [show (Fm.f2 14 a b).cells = [.int .u8 (14 : Nat), .str .empty, .sl none 0 [], .sl none 2 [.int .u8 a.op, .str a.nmB, .sl none 0 [], .sl none a.sn a.sc, .int .u8 b.op, .str b.nmB, .sl none 0 [], .sl none b.sn b.sc]] from rfl]
  unfold Fm.cells at h1 h2
  generalize a.op = ao at h1 ⊢
  generalize a.nmB = an at h1 ⊢
  generalize a.sn = asn at h1 ⊢
  generalize a.sc = asc at h1 ⊢
  generalize b.op = bo at h2 ⊢
  generalize b.nmB = bn at h2 ⊢
  generalize b.sn = bsn at h2 ⊢
  generalize b.sc = bsc at h2 ⊢
  refine fn_det Tryz.E0 Tryz.mx Tryz.func101 (by kernel_rfl) rfl (Nat.le_of_ble_eq_true rfl) rfl fun hcl hbl => ?_
  (repeat' ((conv => whnf); (first | (refine IfN.id ?_; first | refine IfN.not ?_ | refine IfN.tt rfl ?_ | refine IfN.ff rfl ?_ | fail) | refine DrawN.mk' [] ?_ | fail))); all_goals (conv => whnf)
  refine LoopN.rounds Tryz.E0 Tryz.mx 3 rfl ?_
  (repeat' ((conv => whnf); (first | (refine IfN.id ?_; first | refine IfN.not ?_ | refine IfN.tt rfl ?_ | refine IfN.ff rfl ?_ | fail) | (refine EqN.id ?_; first | (refine EqN.addN _ _ (by first | with_reducible rfl | with_reducible exact cst1 | with_reducible exact cst0 | with_reducible exact cst2 | with_reducible exact cst3 | with_reducible exact cst4 | with_reducible exact cst5 | with_reducible exact cst6 | with_reducible exact cst7 | with_reducible exact cst8 | with_reducible exact cst14 | with_reducible exact cst15 | with_reducible exact cst25 | with_reducible exact cst30 | with_reducible exact cst31 | fail) (by first | with_reducible rfl | with_reducible exact cst1 | with_reducible exact cst0 | with_reducible exact cst2 | with_reducible exact cst3 | with_reducible exact cst4 | with_reducible exact cst5 | with_reducible exact cst6 | with_reducible exact cst7 | with_reducible exact cst8 | with_reducible exact cst14 | with_reducible exact cst15 | with_reducible exact cst25 | with_reducible exact cst30 | with_reducible exact cst31 | fail) ?_ ?_; · (repeat' (first | omega | refine And.intro ?_ ?_ | exact bnd_andl (by omega) | exact bnd_andr (by omega) | refine bnd_or ?_ ?_ | refine bnd_or31 ?_ ?_ | refine bnd_xor ?_ ?_ | refine bnd_xor31 ?_ ?_ | refine bnd_shr ?_ | refine bnd_shl ?_ ?_ | refine bnd_mod ?_ | refine bnd_andl ?_ | fail))) | fail) | (refine SideN.mk ?_ ?_; · first | kernel_rfl | omega | exact List.cons_ne_nil _ _ | (simp; done) | (simp; omega) | exact trivial | assumption | fail) | (refine CallN.id ?_; first | refine CallN.det _ (h1 _) ?_ | refine CallN.det _ (h2 _) ?_ | fail) | refine SegN.mk _ (seg_rfl rfl) ?_ | refine DrawN.mk' [] ?_ | fail))); all_goals (conv => whnf)
  exact EndN.det trivial (Wk.refl _)
theorem temp_c : ∀ f : Fm, f.Temp → ∀ H, VDet Tryz.prog 101 [.agg f.cells] H (.bool true)
  | .at c, _ => temp_at c
  | .fa, _ => temp_fa
  | .f1 k a, h => by
    have ih := temp_c a h.2
    rcases h.1 with rfl | rfl | rfl
    · exact temp_f1_3 a ih
    · exact temp_f1_12 a ih
    · exact temp_f1_13 a ih
  | .f2 k a b, h => by
    have iha := temp_c a h.2.1
    have ihb := temp_c b h.2.2
    rcases h.1 with rfl | rfl | rfl | rfl | rfl
    · exact temp_f2_4 a b iha ihb
    · exact temp_f2_5 a b iha ihb
    · exact temp_f2_6 a b iha ihb
    · exact temp_f2_7 a b iha ihb
    · exact temp_f2_14 a b iha ihb
theorem right_c (f : Fm) (hf : f.Ok) (ht : f.Temp) (hn : f.Small) (H : Heap) : VDet Tryz.prog 68 [.agg f.cells] H (.bool true) := by
  have h1 := fun H => synRight_c f hf hn H
  have h2 := fun H => temp_c f ht H
  unfold Fm.cells at h1 h2 ⊢
  refine fn_det Tryz.E0 Tryz.mx Tryz.func68 (by kernel_rfl) rfl (Nat.le_of_ble_eq_true rfl) rfl fun hcl hbl => ?_
  (repeat' ((conv => whnf); (first | (refine IfN.id ?_; first | refine IfN.tt rfl ?_ | fail) | (refine CallN.id ?_; first | refine CallN.det _ (h1 _) ?_ | refine CallN.det _ (h2 _) ?_ | fail) | refine DrawN.mk' [] ?_ | fail))); all_goals (conv => whnf)
  exact EndN.det trivial (Wk.refl _)
end Go.Proofs.YtjflngchbeegcaaGreatDoor
/-! text M13z -/
namespace Go.Proofs.YtjflngchbeegcaaGreatDoor
open Go.Vsi
set_option maxHeartbeats 1000000
attribute [local irreducible] VW VCall VO bits

/-! ### what a formula is worth -/
def fnd (c : UInt8) : List (UInt8 × Nat) → Option Nat
  | [] => none
  | p :: l => match c == p.1 with
    | true => some p.2
    | false => fnd c l
def fk (l : List (UInt8 × Nat)) : List AV := l.map fun p => .str (nm p.1)
def fv (l : List (UInt8 × Nat)) : List AV := l.map fun p => .int .i64 p.2
abbrev seq : AV → AV → Option Bool := eqV Tryz.kn Tryz.T 20 9
theorem seq_nm (c d : UInt8) : seq (.str (nm c)) (.str (nm d)) = some (c == d) := by
  rw [← nm_eq]; rfl
theorem mfind_nm (c : UInt8) : ∀ l : List (UInt8 × Nat), (fnd c l = none → mfind seq (.str (nm c)) (fk l) = some none) ∧ (∀ v, fnd c l = some v → ∃ j, mfind seq (.str (nm c)) (fk l) = some (some j) ∧ (fv l)[j]? = some (.int .i64 v))
  | [] => ⟨fun _ => rfl, fun v h => by cases h⟩
  | p :: l => by
    obtain ⟨i1, i2⟩ := mfind_nm c l
    simp only [fnd, fk, fv, List.map_cons, mfind, seq_nm]
    cases hc : c == p.1 with
    | true => exact ⟨fun h => absurd h (by simp), fun v h => ⟨0, rfl, by simp only [Option.some.injEq] at h; simp [h]⟩⟩
    | false =>
      refine ⟨fun h => ?_, fun v h => ?_⟩
      · have := i1 h
        unfold fk at this
        simp only [this]
      · obtain ⟨j, h1, h2⟩ := i2 v h
        unfold fk at h1
        exact ⟨j + 1, by simp only [h1], by simpa [fv] using h2⟩
def evT (t : Tr) : Fm → Nat
  | .at c => (fnd c t.fs).getD 0
  | .fa => 0
  | .f1 k a => if k = 3 then nt (every t.n) (evT t a) else if k = 12 then befN t.n t.lp (evT t a) else if k = 13 then alN t.n t.lp (evT t a) else 0
  | .f2 k a b => if k = 4 then evT t a &&& evT t b else if k = 5 then evT t a ||| evT t b else if k = 6 then nt (every t.n) (evT t a) ||| evT t b else if k = 7 then nt (every t.n) (evT t a ^^^ evT t b) else if k = 14 then unN t.n t.lp (evT t a) (evT t b) else 0
def miss (t : Tr) : Fm → Bool
  | .at c => (fnd c t.fs).isNone
  | .fa => false
  | .f1 _ a => miss t a
  | .f2 _ a b => miss t a || miss t b
theorem every_lt2 (n : Nat) : every n < 2 ^ n := by
  unfold every
  rw [Nat.shiftLeft_eq]
  have := Nat.two_pow_pos n
  omega
theorem nt_lt {n e a : Nat} (he : e < 2 ^ n) : nt e a < 2 ^ n := Nat.xor_lt_two_pow he (Nat.lt_of_le_of_lt Nat.and_le_left he)
theorem fnd_lt {c : UInt8} {n : Nat} : ∀ {l : List (UInt8 × Nat)}, (∀ p ∈ l, p.2 < 2 ^ n) → ∀ v, fnd c l = some v → v < 2 ^ n
  | [], _, v, h => by cases h
  | p :: l, hl, v, h => by
    simp only [fnd] at h
    split at h
    · simp only [Option.some.injEq] at h; exact h ▸ hl p (List.mem_cons_self ..)
    · exact fnd_lt (fun q hq => hl q (List.mem_cons_of_mem _ hq)) v h
theorem Tr.Ok.masks {t : Tr} (h : t.Ok) : ∀ p ∈ t.fs, p.2 < 2 ^ t.n := fun p hp => by
  obtain ⟨i, hi, rfl⟩ := List.getElem_of_mem hp
  have := h.mask i hi
  simpa [ft, hi] using this
theorem itA_lt {n lp a : Nat} (ha : a < 2 ^ n) : ∀ j, itN (alF n lp a) j (every n) < 2 ^ n
  | 0 => every_lt2 n
  | _ + 1 => Nat.lt_of_le_of_lt Nat.and_le_left ha
theorem itU_lt {n lp a b : Nat} (ha : a < 2 ^ n) (hb : b < 2 ^ n) : ∀ j, itN (unF n lp a b) j 0 < 2 ^ n
  | 0 => Nat.two_pow_pos n
  | _ + 1 => Nat.or_lt_two_pow hb (Nat.lt_of_le_of_lt Nat.and_le_left ha)
theorem evT_lt {t : Tr} (h : t.Ok) : ∀ f, evT t f < 2 ^ t.n
  | .at c => by
    simp only [evT]
    cases hc : fnd c t.fs with
    | none => exact Nat.two_pow_pos _
    | some v => exact fnd_lt h.masks v hc
  | .fa => Nat.two_pow_pos _
  | .f1 k a => by
    have ha := evT_lt h a
    simp only [evT]
    repeat' split
    · exact nt_lt (every_lt2 _)
    · exact befN_lt _ _ _
    · exact itA_lt ha 5
    · exact Nat.two_pow_pos _
  | .f2 k a b => by
    have ha := evT_lt h a
    have hb := evT_lt h b
    simp only [evT]
    repeat' split
    · exact Nat.lt_of_le_of_lt Nat.and_le_left ha
    · exact Nat.or_lt_two_pow ha hb
    · exact Nat.or_lt_two_pow (nt_lt (every_lt2 _)) hb
    · exact nt_lt (every_lt2 _)
    · exact itU_lt ha hb 5
    · exact Nat.two_pow_pos _

/-! ### the closure at -/
structure AtEnv (t : Tr) (H : Heap) (im i1 i2 i3 i4 : Nat) (m0 : Bool) : Prop where
  hm : H[im]? = some (.mp (fk t.fs) (fv t.fs))
  h1 : H[i1]? = some (.box 104 [.mp im])
  h2 : H[i2]? = some (.box 4 [.bool m0])
  h3 : H[i3]? = some (.box 107 [.clo (.func 80) [] [.ptr i1 0, .ptr i2 0, .ptr i3 0, .ptr i4 0]])
  h4 : H[i4]? = some (.box 105 [.rmp opK (opV t)])
  ne : i2 ≠ im ∧ i2 ≠ i1 ∧ i2 ≠ i3 ∧ i2 ≠ i4
theorem AtEnv.app {t : Tr} {H : Heap} {im i1 i2 i3 i4 : Nat} {m0 : Bool} (e : AtEnv t H im i1 i2 i3 i4 m0) (X : Heap) : AtEnv t (H ++ X) im i1 i2 i3 i4 m0 :=
  ⟨at_base' e.hm, at_base' e.h1, at_base' e.h2, at_base' e.h3, at_base' e.h4, e.ne⟩
theorem AtEnv.set {t : Tr} {H : Heap} {im i1 i2 i3 i4 : Nat} {m0 : Bool} (e : AtEnv t H im i1 i2 i3 i4 m0) (b : Bool) : AtEnv t (H.set i2 (.box 4 [.bool b])) im i1 i2 i3 i4 b :=
  ⟨at_setNe e.ne.1 e.hm, at_setNe e.ne.2.1 e.h1, at_set e.h2, at_setNe e.ne.2.2.1 e.h3, at_setNe e.ne.2.2.2 e.h4, e.ne⟩
def AtIH (t : Tr) (f : Fm) : Prop := ∀ (H : Heap) (im i1 i2 i3 i4 : Nat) (m0 : Bool), AtEnv t H im i1 i2 i3 i4 m0 →
  VCall Tryz.prog 80 [.agg f.cells, .ptr i1 0, .ptr i2 0, .ptr i3 0, .ptr i4 0] H (setR H i2 (.box 4 [.bool (m0 || miss t f)]) (.int .i64 (evT t f : Nat)))
theorem at_fa (t : Tr) : AtIH t .fa := by
  intro H im i1 i2 i3 i4 m0 e
  obtain ⟨hm, h1, h2, h3, h4, hne⟩ := e
  unfold Fm.cells
  simp only [Fm.op, Fm.nmB, Fm.sn, Fm.sc, miss, evT, Bool.or_false]
  unfold opV at h4
  refine fn_gen Tryz.E0 Tryz.mx Tryz.func80 (by kernel_rfl) rfl (Nat.le_of_ble_eq_true rfl) rfl fun hcl hbl => ?_
  (repeat' ((conv => whnf); (first | (refine IfN.id ?_; first | refine IfN.tt rfl ?_ | refine IfN.ff rfl ?_ | fail) | (refine CallN.id ?_; first | refine CallN.det _ (op1_c 0 0 _) ?_ | fail) | refine RelN.mk [_] [] ⟨⟨_, rfl⟩, 0, by kernel_rfl, rfl⟩ ?_ | (refine PtrN.id ?_; first | refine PtrN.base _ (by (repeat' (first | assumption | exact at_loc' _ rfl | exact at_loc0 rfl | refine at_set (B' := ?_) ?_ | refine at_base' ?_ | fail))) ?_ | fail) | refine DrawN.mk' [] ?_ | fail))); all_goals (conv => whnf)
  exact EndN.same h2 trivial (Wk.refl _)
theorem at_at (t : Tr) (c : UInt8) : AtIH t (.at c) := by
  intro H im i1 i2 i3 i4 m0 e
  obtain ⟨hm, h1, h2, h3, h4, hne⟩ := e
  obtain ⟨m1, m2⟩ := mfind_nm c t.fs
  unfold Fm.cells
  simp only [Fm.op, Fm.nmB, Fm.sn, Fm.sc, miss, evT]
  cases hc : fnd c t.fs with
  | none =>
    have hl := m1 hc
    cases m0
    all_goals
      refine fn_gen Tryz.E0 Tryz.mx Tryz.func80 (by kernel_rfl) rfl (Nat.le_of_ble_eq_true rfl) rfl fun hcl hbl => ?_
      (repeat' ((conv => whnf); (first | (refine IfN.id ?_; first | refine IfN.tt rfl ?_ | refine IfN.ff rfl ?_ | fail) | refine SetN.mk _ rfl ?_ | refine RelN.mk [] [] ⟨⟨_, rfl⟩, hl⟩ ?_ | (refine PtrN.id ?_; first | refine PtrN.base _ (by (repeat' (first | assumption | exact at_loc' _ rfl | exact at_loc0 rfl | refine at_set (B' := ?_) ?_ | refine at_base' ?_ | fail))) ?_ | fail) | refine DrawN.mk' [] ?_ | fail))); all_goals (conv => whnf)
      exact EndN.setB (by simp [Blk.below, belowL, below]) trivial (Wk.refl _)
  | some v =>
    obtain ⟨j, hj, hv⟩ := m2 v hc
    cases m0
    all_goals
      refine fn_gen Tryz.E0 Tryz.mx Tryz.func80 (by kernel_rfl) rfl (Nat.le_of_ble_eq_true rfl) rfl fun hcl hbl => ?_
      (repeat' ((conv => whnf); (first | (refine IfN.id ?_; first | refine IfN.tt rfl ?_ | refine IfN.ff rfl ?_ | fail) | refine SetN.mk _ rfl ?_ | refine RelN.mk [_] [] ⟨⟨_, rfl⟩, j, hj, hv⟩ ?_ | (refine PtrN.id ?_; first | refine PtrN.base _ (by (repeat' (first | assumption | exact at_loc' _ rfl | exact at_loc0 rfl | refine at_set (B' := ?_) ?_ | refine at_base' ?_ | fail))) ?_ | fail) | refine DrawN.mk' [] ?_ | fail))); all_goals (conv => whnf)
      exact EndN.setB (by simp [Blk.below, belowL, below]) trivial (Wk.refl _)
end Go.Proofs.YtjflngchbeegcaaGreatDoor
