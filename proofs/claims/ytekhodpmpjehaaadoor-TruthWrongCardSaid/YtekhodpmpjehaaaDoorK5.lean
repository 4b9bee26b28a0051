/- A text of the proof: the parts T10, A10, J10, K10, L10, M10, N10, Y10, O10, P10, Q10, RA10, RB10. -/
import Derived.Test.YtekhodpmpjehaaaDoorRows
import Derived.Shelf.SlIter.Nil
import Derived.Shelf.SortM.Plain
import Derived.Shelf.SortM.SortNone
import Derived.Shelf.Spec.SlicesGrow
import Derived.Test.YtekhodpmpjehaaaDoorK4
set_option linter.unusedSimpArgs false
set_option linter.unusedVariables false
/-! text T10 -/
namespace Go.Proofs.YtekhodpmpjehaaaDoor
open Go.Vsi
def Tryd.gl : List (Nat × List AV) := [(0, [.int .u64 12297829382473034410, .int .u64 14757395258967641292, .int .u64 17361641481138401520, .int .u64 18374966859414961920, .int .u64 18446462603027742720, .int .u64 18446744069414584320]), (1, [.int .u8 0, .int .u8 1, .int .u8 56, .int .u8 2, .int .u8 57, .int .u8 49, .int .u8 28, .int .u8 3, .int .u8 61, .int .u8 58, .int .u8 42, .int .u8 50, .int .u8 38, .int .u8 29, .int .u8 17, .int .u8 4, .int .u8 62, .int .u8 47, .int .u8 59, .int .u8 36, .int .u8 45, .int .u8 43, .int .u8 51, .int .u8 22, .int .u8 53, .int .u8 39, .int .u8 33, .int .u8 30, .int .u8 24, .int .u8 18, .int .u8 12, .int .u8 5, .int .u8 63, .int .u8 55, .int .u8 48, .int .u8 27, .int .u8 60, .int .u8 41, .int .u8 37, .int .u8 16, .int .u8 46, .int .u8 35, .int .u8 44, .int .u8 21, .int .u8 52, .int .u8 32, .int .u8 23, .int .u8 11, .int .u8 54, .int .u8 26, .int .u8 40, .int .u8 15, .int .u8 34, .int .u8 20, .int .u8 31, .int .u8 10, .int .u8 25, .int .u8 14, .int .u8 19, .int .u8 9, .int .u8 13, .int .u8 8, .int .u8 7, .int .u8 6]), (2, [.bool false, .bool false, .int .u8 0, .int .i64 0, .int .i64 0, .bool true, .bool true, .int .u8 1, .int .i64 4, .int .i64 0, .bool true, .bool true, .int .u8 0, .int .i64 0, .int .i64 0, .bool true, .bool true, .int .u8 0, .int .i64 0, .int .i64 1, .bool true, .bool true, .int .u8 0, .int .i64 0, .int .i64 2, .bool true, .bool true, .int .u8 0, .int .i64 0, .int .i64 2, .bool true, .bool true, .int .u8 0, .int .i64 0, .int .i64 2, .bool true, .bool true, .int .u8 0, .int .i64 0, .int .i64 2, .bool true, .bool true, .int .u8 2, .int .i64 0, .int .i64 1, .bool true, .bool true, .int .u8 2, .int .i64 0, .int .i64 1, .bool true, .bool true, .int .u8 0, .int .i64 0, .int .i64 1, .bool true, .bool true, .int .u8 0, .int .i64 0, .int .i64 1, .bool true, .bool true, .int .u8 0, .int .i64 0, .int .i64 1, .bool true, .bool true, .int .u8 0, .int .i64 0, .int .i64 1, .bool true, .bool true, .int .u8 0, .int .i64 0, .int .i64 2, .bool false, .bool true, .int .u8 3, .int .i64 0, .int .i64 0, .bool false, .bool true, .int .u8 3, .int .i64 2, .int .i64 0])]
theorem Tryd.gl_low : ∀ p ∈ Tryd.gl, belowL 0 p.2 := by
  intro p hp
  simp only [Tryd.gl, List.mem_cons, List.not_mem_nil, or_false] at hp
  (repeat' rcases hp with hp | hp) <;> try subst hp
  all_goals first
  | exact hp.elim
  | (repeat' (first | exact trivial | refine And.intro ?_ ?_))
instance Tryd.glob : Glob := ⟨Tryd.gl, Tryd.gl_low⟩
def Tryd.tl : List (Option TI) := [
  some ⟨.other, 1, 0, (some [.junk])⟩,
  some ⟨.fn, 1, 8, (some [.nilf])⟩,
  some ⟨.int .i64, 1, 8, (some [.int .i64 0])⟩,
  some ⟨.int .i64, 1, 8, (some [.int .i64 0])⟩,
  some ⟨.bool, 1, 1, (some [.bool false])⟩,
  some ⟨.int .u8, 1, 1, (some [.int .u8 0])⟩,
  some ⟨.int .u8, 1, 1, (some [.int .u8 0])⟩,
  some ⟨.st [(2, 0, 1, false), (3, 1, 1, false), (4, 2, 1, false), (6, 3, 1, false)], 4, 24, (some [.int .i64 0, .int .i64 0, .bool false, .int .u8 0])⟩,
  some ⟨.st [(2, 0, 1, false), (3, 1, 1, false), (4, 2, 1, false), (6, 3, 1, false)], 4, 24, (some [.int .i64 0, .int .i64 0, .bool false, .int .u8 0])⟩,
  some ⟨.str, 1, 16, (some [.str .empty])⟩,
  some ⟨.str, 1, 16, (some [.str .empty])⟩,
  some ⟨.str, 1, 16, (some [.str .empty])⟩,
  some ⟨.int .u64, 1, 8, (some [.int .u64 0])⟩,
  some ⟨.st [(9, 0, 1, false), (12, 1, 1, false)], 2, 24, (some [.str .empty, .int .u64 0])⟩,
  some ⟨.st [(9, 0, 1, false), (12, 1, 1, false)], 2, 24, (some [.str .empty, .int .u64 0])⟩,
  some ⟨.ptr 149, 1, 8, (some [.nilp])⟩,
  some ⟨.ptr 152, 1, 8, (some [.nilp])⟩,
  some ⟨.ptr 160, 1, 8, (some [.nilp])⟩,
  some ⟨.st [(17, 0, 1, false)], 1, 8, (some [.nilp])⟩,
  some ⟨.st [(17, 0, 1, false)], 1, 8, (some [.nilp])⟩,
  some ⟨.ifc, 1, 16, (some [.nili])⟩,
  some ⟨.int .i32, 1, 4, (some [.int .i32 0])⟩,
  some ⟨.sl 5, 1, 24, (some [.nils])⟩,
  some ⟨.int .u16, 1, 2, (some [.int .u16 0])⟩,
  some ⟨.fn, 1, 8, (some [.nilf])⟩,
  some ⟨.sl 64, 1, 24, (some [.nils])⟩,
  some ⟨.sl 28, 1, 24, (some [.nils])⟩,
  some ⟨.st [(5, 0, 1, false), (9, 1, 1, false), (25, 2, 1, false), (26, 3, 1, false)], 4, 72, (some [.int .u8 0, .str .empty, .nils, .nils])⟩,
  some ⟨.st [(5, 0, 1, false), (9, 1, 1, false), (25, 2, 1, false), (26, 3, 1, false)], 4, 72, (some [.int .u8 0, .str .empty, .nils, .nils])⟩,
  some ⟨.fn, 1, 8, (some [.nilf])⟩,
  some ⟨.other, 1, 0, (some [.junk])⟩,
  some ⟨.fn, 1, 8, (some [.nilf])⟩,
  some ⟨.fn, 1, 8, (some [.nilf])⟩,
  some ⟨.sl 9, 1, 24, (some [.nils])⟩,
  some ⟨.fn, 1, 8, (some [.nilf])⟩,
  some ⟨.fn, 1, 8, (some [.nilf])⟩,
  some ⟨.int .i64, 1, 8, (some [.int .i64 0])⟩,
  some ⟨.other, 1, 0, (some [.junk])⟩,
  some ⟨.fn, 1, 8, (some [.nilf])⟩,
  some ⟨.st [(26, 0, 1, false), (26, 1, 1, false)], 2, 48, (some [.nils, .nils])⟩,
  some ⟨.st [(26, 0, 1, false), (26, 1, 1, false)], 2, 48, (some [.nils, .nils])⟩,
  some ⟨.fn, 1, 8, (some [.nilf])⟩,
  some ⟨.fn, 1, 8, (some [.nilf])⟩,
  some ⟨.other, 1, 0, (some [.junk])⟩,
  some ⟨.fn, 1, 8, (some [.nilf])⟩,
  some ⟨.fn, 1, 8, (some [.nilf])⟩,
  some ⟨.sl 4, 1, 24, (some [.nils])⟩,
  some ⟨.other, 1, 0, (some [.junk])⟩,
  some ⟨.fn, 1, 8, (some [.nilf])⟩,
  some ⟨.arr 4 3, 4, 32, (some [.int .i64 0, .int .i64 0, .int .i64 0, .int .i64 0])⟩,
  some ⟨.fn, 1, 8, (some [.nilf])⟩,
  some ⟨.sl 22, 1, 24, (some [.nils])⟩,
  some ⟨.other, 1, 0, (some [.junk])⟩,
  some ⟨.fn, 1, 8, (some [.nilf])⟩,
  some ⟨.fn, 1, 8, (some [.nilf])⟩,
  some ⟨.int .u64, 1, 8, (some [.int .u64 0])⟩,
  some ⟨.fn, 1, 8, (some [.nilf])⟩,
  some ⟨.fn, 1, 8, (some [.nilf])⟩,
  some ⟨.fn, 1, 8, (some [.nilf])⟩,
  some ⟨.fn, 1, 8, (some [.nilf])⟩,
  some ⟨.fn, 1, 8, (some [.nilf])⟩,
  some ⟨.fn, 1, 8, (some [.nilf])⟩,
  some ⟨.fn, 1, 8, (some [.nilf])⟩,
  some ⟨.st [(4, 0, 1, false), (9, 1, 1, false), (25, 2, 1, false)], 3, 48, (some [.bool false, .str .empty, .nils])⟩,
  some ⟨.st [(4, 0, 1, false), (9, 1, 1, false), (25, 2, 1, false)], 3, 48, (some [.bool false, .str .empty, .nils])⟩,
  some ⟨.sl 3, 1, 24, (some [.nils])⟩,
  some ⟨.sl 94, 1, 24, (some [.nils])⟩,
  some ⟨.sl 162, 1, 24, (some [.nils])⟩,
  some ⟨.sl 164, 1, 24, (some [.nils])⟩,
  some ⟨.st [(5, 0, 1, false), (3, 1, 1, false), (65, 2, 1, false), (3, 3, 1, false), (66, 4, 1, false), (67, 5, 1, false), (68, 6, 1, false)], 7, 120, (some [.int .u8 0, .int .i64 0, .nils, .int .i64 0, .nils, .nils, .nils])⟩,
  some ⟨.st [(5, 0, 1, false), (3, 1, 1, false), (65, 2, 1, false), (3, 3, 1, false), (66, 4, 1, false), (67, 5, 1, false), (68, 6, 1, false)], 7, 120, (some [.int .u8 0, .int .i64 0, .nils, .int .i64 0, .nils, .nils, .nils])⟩,
  some ⟨.other, 1, 0, (some [.junk])⟩,
  some ⟨.fn, 1, 8, (some [.nilf])⟩,
  some ⟨.sl 36, 1, 24, (some [.nils])⟩,
  some ⟨.fn, 1, 8, (some [.nilf])⟩,
  some ⟨.fn, 1, 8, (some [.nilf])⟩,
  some ⟨.ptr 100, 1, 8, (some [.nilp])⟩,
  some ⟨.other, 1, 0, (some [.junk])⟩,
  some ⟨.fn, 1, 8, (some [.nilf])⟩,
  some ⟨.fn, 1, 8, (some [.nilf])⟩,
  some ⟨.fn, 1, 8, (some [.nilf])⟩,
  some ⟨.int .u64, 1, 8, (some [.int .u64 0])⟩,
  some ⟨.fn, 1, 8, (some [.nilf])⟩,
  some ⟨.fn, 1, 8, (some [.nilf])⟩,
  some ⟨.mp 9 4, 1, 8, (some [.nilm])⟩,
  some ⟨.fn, 1, 8, (some [.nilf])⟩,
  some ⟨.fn, 1, 8, (some [.nilf])⟩,
  some ⟨.fn, 1, 8, (some [.nilf])⟩,
  some ⟨.fn, 1, 8, (some [.nilf])⟩,
  some ⟨.fn, 1, 8, (some [.nilf])⟩,
  some ⟨.fn, 1, 8, (some [.nilf])⟩,
  some ⟨.fn, 1, 8, (some [.nilf])⟩,
  some ⟨.fn, 1, 8, (some [.nilf])⟩,
  some ⟨.st [(9, 0, 1, false), (3, 1, 1, false), (3, 2, 1, false)], 3, 32, (some [.str .empty, .int .i64 0, .int .i64 0])⟩,
  some ⟨.st [(9, 0, 1, false), (3, 1, 1, false), (3, 2, 1, false)], 3, 32, (some [.str .empty, .int .i64 0, .int .i64 0])⟩,
  some ⟨.fn, 1, 8, (some [.nilf])⟩,
  some ⟨.fn, 1, 8, (some [.nilf])⟩,
  some ⟨.mp 9 3, 1, 8, (some [.nilm])⟩,
  some ⟨.mp 5 103, 1, 8, (some [.nilm])⟩,
  some ⟨.st [(97, 0, 1, false), (98, 1, 1, false)], 2, 16, (some [.nilm, .nilm])⟩,
  some ⟨.st [(97, 0, 1, false), (98, 1, 1, false)], 2, 16, (some [.nilm, .nilm])⟩,
  some ⟨.arr 6 81, 6, 48, (some [.int .u64 0, .int .u64 0, .int .u64 0, .int .u64 0, .int .u64 0, .int .u64 0])⟩,
  some ⟨.arr 2 81, 2, 16, (some [.int .u64 0, .int .u64 0])⟩,
  some ⟨.fn, 1, 8, (some [.nilf])⟩,
  some ⟨.fn, 1, 8, (some [.nilf])⟩,
  some ⟨.fn, 1, 8, (some [.nilf])⟩,
  some ⟨.fn, 1, 8, (some [.nilf])⟩,
  some ⟨.sl 26, 1, 24, (some [.nils])⟩,
  some ⟨.fn, 1, 8, (some [.nilf])⟩,
  some ⟨.arr 64 5, 64, 64, (some [.int .u8 0, .int .u8 0, .int .u8 0, .int .u8 0, .int .u8 0, .int .u8 0, .int .u8 0, .int .u8 0, .int .u8 0, .int .u8 0, .int .u8 0, .int .u8 0, .int .u8 0, .int .u8 0, .int .u8 0, .int .u8 0, .int .u8 0, .int .u8 0, .int .u8 0, .int .u8 0, .int .u8 0, .int .u8 0, .int .u8 0, .int .u8 0, .int .u8 0, .int .u8 0, .int .u8 0, .int .u8 0, .int .u8 0, .int .u8 0, .int .u8 0, .int .u8 0, .int .u8 0, .int .u8 0, .int .u8 0, .int .u8 0, .int .u8 0, .int .u8 0, .int .u8 0, .int .u8 0, .int .u8 0, .int .u8 0, .int .u8 0, .int .u8 0, .int .u8 0, .int .u8 0, .int .u8 0, .int .u8 0, .int .u8 0, .int .u8 0, .int .u8 0, .int .u8 0, .int .u8 0, .int .u8 0, .int .u8 0, .int .u8 0, .int .u8 0, .int .u8 0, .int .u8 0, .int .u8 0, .int .u8 0, .int .u8 0, .int .u8 0, .int .u8 0])⟩,
  some ⟨.st [(4, 0, 1, false), (3, 1, 1, false), (3, 2, 1, false)], 3, 24, (some [.bool false, .int .i64 0, .int .i64 0])⟩,
  some ⟨.st [(4, 0, 1, false), (3, 1, 1, false), (3, 2, 1, false)], 3, 24, (some [.bool false, .int .i64 0, .int .i64 0])⟩,
  some ⟨.fn, 1, 8, (some [.nilf])⟩,
  some ⟨.fn, 1, 8, (some [.nilf])⟩,
  some ⟨.fn, 1, 8, (some [.nilf])⟩,
  some ⟨.fn, 1, 8, (some [.nilf])⟩,
  some ⟨.fn, 1, 8, (some [.nilf])⟩,
  some ⟨.fn, 1, 8, (some [.nilf])⟩,
  some ⟨.fn, 1, 8, (some [.nilf])⟩,
  some ⟨.ptr 111, 1, 8, (some [.nilp])⟩,
  some ⟨.fn, 1, 8, (some [.nilf])⟩,
  some ⟨.st [(4, 0, 1, false), (4, 1, 1, false), (5, 2, 1, false), (3, 3, 1, false), (3, 4, 1, false)], 5, 24, (some [.bool false, .bool false, .int .u8 0, .int .i64 0, .int .i64 0])⟩,
  some ⟨.st [(4, 0, 1, false), (4, 1, 1, false), (5, 2, 1, false), (3, 3, 1, false), (3, 4, 1, false)], 5, 24, (some [.bool false, .bool false, .int .u8 0, .int .i64 0, .int .i64 0])⟩,
  some ⟨.arr 17 122, 85, 408, (some [.bool false, .bool false, .int .u8 0, .int .i64 0, .int .i64 0, .bool false, .bool false, .int .u8 0, .int .i64 0, .int .i64 0, .bool false, .bool false, .int .u8 0, .int .i64 0, .int .i64 0, .bool false, .bool false, .int .u8 0, .int .i64 0, .int .i64 0, .bool false, .bool false, .int .u8 0, .int .i64 0, .int .i64 0, .bool false, .bool false, .int .u8 0, .int .i64 0, .int .i64 0, .bool false, .bool false, .int .u8 0, .int .i64 0, .int .i64 0, .bool false, .bool false, .int .u8 0, .int .i64 0, .int .i64 0, .bool false, .bool false, .int .u8 0, .int .i64 0, .int .i64 0, .bool false, .bool false, .int .u8 0, .int .i64 0, .int .i64 0, .bool false, .bool false, .int .u8 0, .int .i64 0, .int .i64 0, .bool false, .bool false, .int .u8 0, .int .i64 0, .int .i64 0, .bool false, .bool false, .int .u8 0, .int .i64 0, .int .i64 0, .bool false, .bool false, .int .u8 0, .int .i64 0, .int .i64 0, .bool false, .bool false, .int .u8 0, .int .i64 0, .int .i64 0, .bool false, .bool false, .int .u8 0, .int .i64 0, .int .i64 0, .bool false, .bool false, .int .u8 0, .int .i64 0, .int .i64 0])⟩,
  some ⟨.fn, 1, 8, (some [.nilf])⟩,
  some ⟨.fn, 1, 8, (some [.nilf])⟩,
  some ⟨.fn, 1, 8, (some [.nilf])⟩,
  some ⟨.fn, 1, 8, (some [.nilf])⟩,
  some ⟨.int .i64, 1, 8, (some [.int .i64 0])⟩,
  some ⟨.other, 1, 0, (some [.junk])⟩,
  some ⟨.fn, 1, 8, (some [.nilf])⟩,
  some ⟨.fn, 1, 8, (some [.nilf])⟩,
  some ⟨.fn, 1, 8, (some [.nilf])⟩,
  some ⟨.fn, 1, 8, (some [.nilf])⟩,
  some ⟨.other, 1, 0, (some [.junk])⟩,
  some ⟨.fn, 1, 8, (some [.nilf])⟩,
  some ⟨.fn, 1, 8, (some [.nilf])⟩,
  some ⟨.int .u32, 1, 4, (some [.int .u32 0])⟩,
  some ⟨.fn, 1, 8, (some [.nilf])⟩,
  some ⟨.int .u64, 1, 8, (some [.int .u64 0])⟩,
  some ⟨.fn, 1, 8, (some [.nilf])⟩,
  some ⟨.fn, 1, 8, (some [.nilf])⟩,
  some ⟨.ptr 3, 1, 8, (some [.nilp])⟩,
  some ⟨.fn, 1, 8, (some [.nilf])⟩,
  some ⟨.ptr 139, 1, 8, (some [.nilp])⟩,
  some ⟨.other, 1, 0, (some [.junk])⟩,
  some ⟨.fn, 1, 8, (some [.nilf])⟩,
  some ⟨.fn, 1, 8, (some [.nilf])⟩,
  some ⟨.st [(17, 0, 1, false), (17, 1, 1, false), (17, 2, 1, false), (9, 3, 1, false)], 4, 40, (some [.nilp, .nilp, .nilp, .str .empty])⟩,
  some ⟨.st [(17, 0, 1, false), (17, 1, 1, false), (17, 2, 1, false), (9, 3, 1, false)], 4, 40, (some [.nilp, .nilp, .nilp, .str .empty])⟩,
  some ⟨.arr 0 16, 0, 0, (some [])⟩,
  some ⟨.st [(150, 0, 0, true)], 0, 0, (some [])⟩,
  some ⟨.st [(150, 0, 0, true)], 0, 0, (some [])⟩,
  some ⟨.int .u8, 1, 1, (some [.int .u8 0])⟩,
  some ⟨.int .u8, 1, 1, (some [.int .u8 0])⟩,
  some ⟨.fn, 1, 8, (some [.nilf])⟩,
  some ⟨.ptr 5, 1, 8, (some [.nilp])⟩,
  some ⟨.int .i32, 1, 4, (some [.int .i32 0])⟩,
  some ⟨.int .i32, 1, 4, (some [.int .i32 0])⟩,
  some ⟨.st [(12, 0, 1, false), (12, 1, 1, false), (137, 2, 1, false), (153, 3, 1, false), (5, 4, 1, false), (5, 5, 1, false), (154, 6, 1, false), (155, 7, 1, false), (156, 8, 1, false), (157, 9, 1, false), (158, 10, 1, false)], 11, 48, (some [.int .u64 0, .int .u64 0, .int .u32 0, .int .u8 0, .int .u8 0, .int .u8 0, .int .u8 0, .nilf, .nilp, .int .i32 0, .int .i32 0])⟩,
  some ⟨.st [(12, 0, 1, false), (12, 1, 1, false), (137, 2, 1, false), (153, 3, 1, false), (5, 4, 1, false), (5, 5, 1, false), (154, 6, 1, false), (155, 7, 1, false), (156, 8, 1, false), (157, 9, 1, false), (158, 10, 1, false)], 11, 48, (some [.int .u64 0, .int .u64 0, .int .u32 0, .int .u8 0, .int .u8 0, .int .u8 0, .int .u8 0, .nilf, .nilp, .int .i32 0, .int .i32 0])⟩,
  some ⟨.st [(9, 0, 1, false), (3, 1, 1, false), (65, 2, 1, false)], 3, 48, (some [.str .empty, .int .i64 0, .nils])⟩,
  some ⟨.st [(9, 0, 1, false), (3, 1, 1, false), (65, 2, 1, false)], 3, 48, (some [.str .empty, .int .i64 0, .nils])⟩,
  some ⟨.st [(9, 0, 1, false), (3, 1, 1, false)], 2, 24, (some [.str .empty, .int .i64 0])⟩,
  some ⟨.st [(9, 0, 1, false), (3, 1, 1, false)], 2, 24, (some [.str .empty, .int .i64 0])⟩,
  some ⟨.other, 1, 8, (some [.nilp])⟩]
theorem Tryd.tl_ok : (List.range 166).map (tiOf Tryd.prog) = Tryd.tl := by kernel_rfl
def Tryd.T (t : TypeId) : Option TI := match lget Tryd.tl t with
  | some x => x
  | none => none
theorem Tryd.T_ok : TOk Tryd.prog Tryd.T := by
  intro t ti h
  unfold Tryd.T at h
  rw [lget_eq] at h
  cases hx : Tryd.tl[t]? with
  | none => simp [hx] at h
  | some x =>
    simp only [hx] at h
    subst h
    rw [← Tryd.tl_ok] at hx
    simp only [List.getElem?_map, Option.map_eq_some_iff] at hx
    obtain ⟨j, h1, h2⟩ := hx
    have : j = t := by
      have hl := (List.getElem?_eq_some_iff.1 h1).1
      rw [List.getElem?_range (by simpa using hl)] at h1
      simpa using h1.symm
    subst this
    exact h2
def Tryd.eqs : List Nat := []
def memB (t : Nat) : List Nat → Bool
  | [] => false
  | x :: l => match Nat.beq x t with
    | true => true
    | false => memB t l
theorem memB_mem {t : Nat} : ∀ {l : List Nat}, memB t l = true → t ∈ l
  | [], h => by cases h
  | x :: l, h => by
    simp only [memB] at h
    split at h
    · rename_i hb; rw [Nat.eq_of_beq_eq_true hb]; simp
    · exact List.mem_cons_of_mem _ (memB_mem h)
theorem Tryd.kn_all : (List.range 166).all (fieldsKnown Tryd.prog) = true := by kernel_rfl
theorem Tryd.zr_all : (List.range 166).all (zeroShape Tryd.prog) = true := by kernel_rfl
theorem Tryd.eq_all : Tryd.eqs.all (fun t => !Tryd.prog.stoodInHeld t && !Tryd.prog.eqGuardType Tryd.prog.depth t) = true := by kernel_rfl
def Tryd.kn (t : TypeId) : Nat := match memB t Tryd.eqs with
  | true => 2
  | false => match Nat.blt t 166 with
    | true => 1
    | false => 0
theorem Tryd.E0 : Env0 Tryd.prog Tryd.T Tryd.kn := ⟨(fun t ti h => by
  have h1 := Tryd.zr_all
  rw [List.all_eq_true] at h1
  refine h1 t (List.mem_range.2 ?_)
  unfold Tryd.T at h
  rw [lget_eq] at h
  rcases Nat.lt_or_ge t 166 with hl | hl
  · exact hl
  · rw [List.getElem?_eq_none (Nat.le_trans (Nat.le_of_ble_eq_true (by kernel_rfl)) hl)] at h
    cases h), Tryd.T_ok, (fun t n h => by
  have h1 := Tryd.kn_all
  rw [List.all_eq_true] at h1
  unfold Tryd.kn at h
  refine h1 t (List.mem_range.2 ?_)
  split at h
  · rename_i hm
    have : ∀ x ∈ Tryd.eqs, x < 166 := by decide
    exact this t (memB_mem hm)
  · split at h
    · rename_i hb; simp [Nat.blt] at hb; omega
    · cases h), (fun t n h => by
  have h1 := Tryd.eq_all
  rw [List.all_eq_true] at h1
  unfold Tryd.kn at h
  split at h
  · rename_i hm
    have := h1 t (memB_mem hm)
    simpa using this
  · split at h <;> omega)⟩
theorem Tryd.mx : Tryd.prog.follows .mixedOrders = true := by kernel_rfl
end Go.Proofs.YtekhodpmpjehaaaDoor
/-! text A10 -/
namespace Go.Proofs.YtekhodpmpjehaaaDoor
open Go.Vsi
attribute [local irreducible] VW VCall VO

/-! ### names: the id 2 * c is the letter c, the id 2 * c + 1 is the letter c with "z9" behind it -/
def hdB (c : UInt8) : UInt8 := UInt8.ofNat (c.toNat / 2)
def nmL (c : UInt8) : List UInt8 := if c.toNat % 2 = 0 then [hdB c] else [hdB c, 122, 57]
def nm (c : UInt8) : ByteArray := ⟨(nmL c).toArray⟩
theorem nm_list (c : UInt8) : (nm c).toList = nmL c := by rw [ByteArray.toList_eq]; rfl
theorem hdB_nat (c : UInt8) : (hdB c).toNat = c.toNat / 2 := by
  have := c.toNat_lt
  simp only [hdB, UInt8.toNat_ofNat']
  omega
theorem nmL_lt (c d : UInt8) : nmL c < nmL d ↔ c.toNat < d.toNat := by
  have hc := hdB_nat c
  have hd := hdB_nat d
  have e1 : hdB c < hdB d ↔ c.toNat / 2 < d.toNat / 2 := by rw [UInt8.lt_iff_toNat_lt, hc, hd]
  have e2 : hdB c = hdB d ↔ c.toNat / 2 = d.toNat / 2 := by rw [← UInt8.toNat_inj, hc, hd]
  unfold nmL
  have k1 : ¬ ([] : List UInt8) < [] := by decide
  have k2 : ([] : List UInt8) < [122, 57] := by decide
  have k3 : ¬ ([122, 57] : List UInt8) < [] := by decide
  have k4 : ¬ ([122, 57] : List UInt8) < [122, 57] := by decide
  split <;> split <;> rw [List.cons_lt_cons_iff, e1, e2] <;> simp only [k1, k2, k3, k4, and_true, and_false, or_false] <;> omega
theorem nmL_inj (c d : UInt8) (h : nmL c = nmL d) : c = d := by
  have h1 := nmL_lt c d
  have h2 := nmL_lt d c
  rw [h] at h1 h2
  have hi : ¬ nmL d < nmL d := List.lt_irrefl _
  have q1 : ¬ c.toNat < d.toNat := fun x => hi (h1.2 x)
  have q2 : ¬ d.toNat < c.toNat := fun x => hi (h2.2 x)
  rw [← UInt8.toNat_inj]
  omega
theorem nm_eq (c d : UInt8) : ((nm c).toList == (nm d).toList) = (c == d) := by
  rw [nm_list, nm_list]
  apply Bool.eq_iff_iff.2
  rw [beq_iff_eq, beq_iff_eq]
  exact ⟨nmL_inj c d, fun h => by rw [h]⟩
theorem bytesLess_iff : ∀ a b : List UInt8, Op.bytesLess a b = decide (a < b)
  | [], [] => rfl
  | [], b :: m => by simp [Op.bytesLess]
  | a :: l, [] => by simp [Op.bytesLess]
  | a :: l, b :: m => by
    simp only [Op.bytesLess, bytesLess_iff l m]
    apply Bool.eq_iff_iff.2
    simp only [Bool.or_eq_true, Bool.and_eq_true, decide_eq_true_eq, beq_iff_eq, List.cons_lt_cons_iff]
theorem nm_lt (c d : UInt8) : Op.bytesLess (nm c).toList (nm d).toList = decide (c.toNat < d.toNat) := by
  rw [nm_list, nm_list, bytesLess_iff]
  simp only [nmL_lt]
def cap (c : UInt8) : Prop := 130 ≤ c.toNat ∧ c.toNat ≤ 181
theorem cap_hd {c : UInt8} (h : cap c) : 65 ≤ (hdB c).toNat ∧ (hdB c).toNat ≤ 90 := by
  have := hdB_nat c
  have := h.1
  have := h.2
  omega
theorem nm_ne (c : UInt8) (h : cap c) (l : Array UInt8) (hl : 97 ≤ (l.toList.headD 97).toNat) : ((nm c).toList == (ByteArray.mk l).toList) = false := by
  have := cap_hd h
  rw [nm_list, ByteArray.toList_eq]
  simp only [beq_eq_false_iff_ne, ne_eq]
  intro e
  have e2 := congrArg (fun l => (l.headD 97).toNat) e
  have : (nmL c).headD 97 = hdB c := by unfold nmL; split <;> rfl
  simp only [this] at e2
  omega
theorem nm_size (c : UInt8) : (nm c).size = (nmL c).length := rfl
theorem nmL_len (c : UInt8) : 1 ≤ (nmL c).length ∧ (nmL c).length ≤ 3 := by
  unfold nmL
  split <;> simp

theorem capital_c (c : UInt8) (h : 65 ≤ c.toNat ∧ c.toNat ≤ 90) (H : Heap) : VDet Tryd.prog 63 [.int .u8 c.toNat] H (.bool true) := by
  refine fn_det Tryd.E0 Tryd.mx Tryd.func63 (by kernel_rfl) rfl (Nat.le_of_ble_eq_true rfl) rfl fun hcl hbl => ?_
  (repeat' ((conv => whnf); (first | (refine IfN.id ?_; first | refine IfN.dT (by omega) ?_ | fail) | refine DrawN.mk' [] ?_ | fail))); all_goals (conv => whnf)
  exact EndN.det trivial (Wk.of_eq (by simp; omega))
theorem reserved_c (c : UInt8) (h : cap c) (H : Heap) : VDet Tryd.prog 81 [.str (nm c)] H (.bool false) := by
  have n1 := nm_ne c h
  generalize nm c = s at *
  refine fn_det Tryd.E0 Tryd.mx Tryd.func81 (by kernel_rfl) rfl (Nat.le_of_ble_eq_true rfl) rfl fun hcl hbl => ?_
  (repeat' ((conv => whnf); (first | (refine IfN.id ?_; first | refine IfN.ff (n1 _ (by decide)) ?_ | fail) | refine DrawN.mk' [] ?_ | fail))); all_goals (conv => whnf)
  exact EndN.det trivial (Wk.refl _)
theorem checker_c (H : Heap) : VDet Tryd.prog 62 [.clo (.func 63) [] [], .clo (.func 64) [] []] H (.clo (.func 80) [] [.rptr [.clo (.func 63) [] []], .rptr [.clo (.func 64) [] []]]) := by
  refine fn_det Tryd.E0 Tryd.mx Tryd.func62 (by kernel_rfl) rfl (Nat.le_of_ble_eq_true rfl) rfl fun hcl hbl => ?_
  (repeat' ((conv => whnf); (first | refine DrawN.mk' [] ?_ | fail))); all_goals (conv => whnf)
  refine EndN.detF ?_ ?_ (Wk.refl _)
  · simp [below, belowL, fnBelow]
  · repeat' (first | exact FrzL.nil | refine FrzL.cons ?_ ?_ | refine Frz.sx ?_ | refine Frz.clo ?_ ?_ | refine Frz.agg ?_ | refine Frz.tup ?_ | refine Frz.ptr rfl rfl (FrzL.refl _) | refine Frz.ms (by exact rfl) (by exact rfl) (FrzL.refl _) | exact Frz.refl _ | fail)
theorem nm_ev (c : UInt8) (h : c.toNat % 2 = 0) : nm c = ⟨#[hdB c]⟩ := by unfold nm nmL; rw [if_pos h]
theorem nm_od (c : UInt8) (h : ¬ c.toNat % 2 = 0) : nm c = ⟨#[hdB c, 122, 57]⟩ := by unfold nm nmL; rw [if_neg h]
theorem small_z (H : Heap) : VDet Tryd.prog 82 [.int .u8 122] H (.bool true) := by
  refine fn_det Tryd.E0 Tryd.mx Tryd.func82 (by kernel_rfl) rfl (Nat.le_of_ble_eq_true rfl) rfl fun hcl hbl => ?_
  (repeat' ((conv => whnf); (first | (refine IfN.id ?_; first | refine IfN.tt rfl ?_ | fail) | refine DrawN.mk' [] ?_ | fail))); all_goals (conv => whnf)
  exact EndN.det trivial (Wk.refl _)
theorem small_9 (H : Heap) : VDet Tryd.prog 82 [.int .u8 57] H (.bool false) := by
  refine fn_det Tryd.E0 Tryd.mx Tryd.func82 (by kernel_rfl) rfl (Nat.le_of_ble_eq_true rfl) rfl fun hcl hbl => ?_
  (repeat' ((conv => whnf); (first | (refine IfN.id ?_; first | refine IfN.ff rfl ?_ | fail) | refine DrawN.mk' [] ?_ | fail))); all_goals (conv => whnf)
  exact EndN.det trivial (Wk.refl _)
theorem capital_9 (H : Heap) : VDet Tryd.prog 63 [.int .u8 57] H (.bool false) := by
  refine fn_det Tryd.E0 Tryd.mx Tryd.func63 (by kernel_rfl) rfl (Nat.le_of_ble_eq_true rfl) rfl fun hcl hbl => ?_
  (repeat' ((conv => whnf); (first | (refine IfN.id ?_; first | refine IfN.ff rfl ?_ | fail) | refine DrawN.mk' [] ?_ | fail))); all_goals (conv => whnf)
  exact EndN.det trivial (Wk.refl _)
theorem digit_9 (H : Heap) : VDet Tryd.prog 83 [.int .u8 57] H (.bool true) := by
  refine fn_det Tryd.E0 Tryd.mx Tryd.func83 (by kernel_rfl) rfl (Nat.le_of_ble_eq_true rfl) rfl fun hcl hbl => ?_
  (repeat' ((conv => whnf); (first | (refine IfN.id ?_; first | refine IfN.tt rfl ?_ | fail) | refine DrawN.mk' [] ?_ | fail))); all_goals (conv => whnf)
  exact EndN.det trivial (Wk.refl _)
theorem alnum_z (H : Heap) : VDet Tryd.prog 64 [.int .u8 122] H (.bool true) := by
  refine fn_det Tryd.E0 Tryd.mx Tryd.func64 (by kernel_rfl) rfl (Nat.le_of_ble_eq_true rfl) rfl fun hcl hbl => ?_
  (repeat' ((conv => whnf); (first | (refine IfN.id ?_; first | refine IfN.tt rfl ?_ | fail) | (refine CallN.id ?_; first | refine CallN.det _ (small_z _) ?_ | fail) | refine DrawN.mk' [] ?_ | fail))); all_goals (conv => whnf)
  exact EndN.det trivial (Wk.refl _)
theorem alnum_9 (H : Heap) : VDet Tryd.prog 64 [.int .u8 57] H (.bool true) := by
  refine fn_det Tryd.E0 Tryd.mx Tryd.func64 (by kernel_rfl) rfl (Nat.le_of_ble_eq_true rfl) rfl fun hcl hbl => ?_
  (repeat' ((conv => whnf); (first | (refine IfN.id ?_; first | refine IfN.ff rfl ?_ | fail) | (refine CallN.id ?_; first | refine CallN.det _ (small_9 _) ?_ | refine CallN.det _ (capital_9 _) ?_ | refine CallN.det _ (digit_9 _) ?_ | fail) | refine DrawN.mk' [] ?_ | fail))); all_goals (conv => whnf)
  exact EndN.det trivial (Wk.refl _)
theorem check_c (c : UInt8) (h : cap c) (H : Heap) : VDet Tryd.prog 80 [.str (nm c), .rptr [.clo (.func 63) [] []], .rptr [.clo (.func 64) [] []]] H (.bool true) := by
  have hr := reserved_c c h
  have hc := capital_c (hdB c) (cap_hd h)
  by_cases e : c.toNat % 2 = 0
  · rw [nm_ev c e] at hr ⊢
    generalize hdB c = d at *
    refine fn_det Tryd.E0 Tryd.mx Tryd.func80 (by kernel_rfl) rfl (Nat.le_of_ble_eq_true rfl) rfl fun hcl hbl => ?_
    (repeat' ((conv => whnf); (first | (refine IfN.id ?_; first | refine IfN.not ?_ | refine IfN.tt rfl ?_ | refine IfN.ff rfl ?_ | fail) | (refine SideN.mk ?_ ?_; · first | kernel_rfl | omega | exact List.cons_ne_nil _ _ | (simp; done) | (simp; omega) | exact trivial | assumption | fail) | (refine CallD.id ?_; first | refine CallD.det _ (fun _ hq X => hr _) ?_ | refine CallD.det _ (fun _ hq X => hc _) ?_ | fail) | refine ByteN.mk d rfl ?_ | refine DrawN.mk' [] ?_ | fail))); all_goals (conv => whnf)
    refine LoopN.rounds Tryd.E0 Tryd.mx 2 rfl ?_
    (repeat' ((conv => whnf); (first | (refine IfN.id ?_; first | refine IfN.ff rfl ?_ | fail) | refine DrawN.mk' [] ?_ | fail))); all_goals (conv => whnf)
    exact EndN.det trivial (Wk.refl _)
  · rw [nm_od c e] at hr ⊢
    generalize hdB c = d at *
    refine fn_det Tryd.E0 Tryd.mx Tryd.func80 (by kernel_rfl) rfl (Nat.le_of_ble_eq_true rfl) rfl fun hcl hbl => ?_
    (repeat' ((conv => whnf); (first | (refine IfN.id ?_; first | refine IfN.not ?_ | refine IfN.tt rfl ?_ | refine IfN.ff rfl ?_ | fail) | (refine SideN.mk ?_ ?_; · first | kernel_rfl | omega | exact List.cons_ne_nil _ _ | (simp; done) | (simp; omega) | exact trivial | assumption | fail) | (refine CallD.id ?_; first | refine CallD.det _ (fun _ hq X => hr _) ?_ | refine CallD.det _ (fun _ hq X => hc _) ?_ | fail) | refine ByteN.mk d rfl ?_ | refine DrawN.mk' [] ?_ | fail))); all_goals (conv => whnf)
    refine LoopN.rounds Tryd.E0 Tryd.mx 4 rfl ?_
    (repeat' ((conv => whnf); (first | (refine IfN.id ?_; first | refine IfN.not ?_ | refine IfN.tt rfl ?_ | refine IfN.ff rfl ?_ | fail) | (refine EqN.id ?_; first | (refine EqN.addN _ _ (by first | with_reducible rfl | with_reducible exact cst1 | with_reducible exact cst0 | with_reducible exact cst2 | with_reducible exact cst3 | with_reducible exact cst4 | with_reducible exact cst5 | with_reducible exact cst6 | with_reducible exact cst7 | with_reducible exact cst8 | with_reducible exact cst14 | with_reducible exact cst15 | with_reducible exact cst25 | with_reducible exact cst30 | with_reducible exact cst31 | fail) (by first | with_reducible rfl | with_reducible exact cst1 | with_reducible exact cst0 | with_reducible exact cst2 | with_reducible exact cst3 | with_reducible exact cst4 | with_reducible exact cst5 | with_reducible exact cst6 | with_reducible exact cst7 | with_reducible exact cst8 | with_reducible exact cst14 | with_reducible exact cst15 | with_reducible exact cst25 | with_reducible exact cst30 | with_reducible exact cst31 | fail) ?_ ?_; · (repeat' (first | omega | refine And.intro ?_ ?_ | exact bnd_andl (by omega) | exact bnd_andr (by omega) | refine bnd_or ?_ ?_ | refine bnd_or31 ?_ ?_ | refine bnd_xor ?_ ?_ | refine bnd_xor31 ?_ ?_ | refine bnd_shr ?_ | refine bnd_shl ?_ ?_ | refine bnd_mod ?_ | refine bnd_andl ?_ | fail))) | fail) | (refine SideN.mk ?_ ?_; · first | kernel_rfl | omega | exact List.cons_ne_nil _ _ | (simp; done) | (simp; omega) | exact trivial | assumption | fail) | (refine CallD.id ?_; first | refine CallD.det _ (fun _ hq X => alnum_z _) ?_ | refine CallD.det _ (fun _ hq X => alnum_9 _) ?_ | fail) | refine ByteN.mk 122 rfl ?_ | refine ByteN.mk 57 rfl ?_ | refine DrawN.mk' [] ?_ | fail))); all_goals (conv => whnf)
    exact EndN.det trivial (Wk.refl _)
theorem predicate_c (c : UInt8) (h : cap c) (H : Heap) : VDet Tryd.prog 50 [.str (nm c)] H (.bool true) := by
  have hc := check_c c h
  generalize nm c = s at *
  refine fn_det Tryd.E0 Tryd.mx Tryd.func50 (by kernel_rfl) rfl (Nat.le_of_ble_eq_true rfl) rfl fun hcl hbl => ?_
  (repeat' ((conv => whnf); (first | (refine CallN.id ?_; first | refine CallN.det _ (checker_c _) ?_ | refine CallN.det _ (hc _) ?_ | fail) | refine DrawN.mk' [] ?_ | fail))); all_goals (conv => whnf)
  exact EndN.det trivial (Wk.refl _)
end Go.Proofs.YtekhodpmpjehaaaDoor
/-! text J10 -/
namespace Go.Proofs.YtekhodpmpjehaaaDoor
open Go.Vsi
set_option maxHeartbeats 1000000
attribute [local irreducible] VW VCall VO bits

/-! ### formulas -/
inductive Fm where
  | at (c : UInt8)
  | fa
  | f1 (k : Nat) (a : Fm)
  | f2 (k : Nat) (a b : Fm)
def Fm.op : Fm → Nat
  | .at _ => 1
  | .fa => 2
  | .f1 k _ => k
  | .f2 k _ _ => k
def Fm.nmB : Fm → ByteArray
  | .at c => nm c
  | _ => .empty
def Fm.sn : Fm → Nat
  | .at _ => 0
  | .fa => 0
  | .f1 _ _ => 1
  | .f2 _ _ _ => 2
def Fm.sc : Fm → List AV
  | .at _ => []
  | .fa => []
  | .f1 _ a => [.int .u8 a.op, .str a.nmB, .sl none 0 [], .sl none a.sn a.sc]
  | .f2 _ a b => [.int .u8 a.op, .str a.nmB, .sl none 0 [], .sl none a.sn a.sc, .int .u8 b.op, .str b.nmB, .sl none 0 [], .sl none b.sn b.sc]
def Fm.cells (f : Fm) : List AV := [.int .u8 f.op, .str f.nmB, .sl none 0 [], .sl none f.sn f.sc]
theorem Fm.sc_below (n : Nat) : ∀ f : Fm, belowL n f.sc
  | .at _ => by simp [Fm.sc, belowL]
  | .fa => by simp [Fm.sc, belowL]
  | .f1 _ a => by simp [Fm.sc, below, belowL, a.sc_below n]
  | .f2 _ a b => by simp [Fm.sc, below, belowL, a.sc_below n, b.sc_below n]
def is1 (k : Nat) : Prop := k = 3 ∨ k = 10 ∨ k = 11 ∨ k = 12 ∨ k = 13
def is2 (k : Nat) : Prop := k = 4 ∨ k = 5 ∨ k = 6 ∨ k = 7 ∨ k = 14
def Fm.Ok : Fm → Prop
  | .at c => cap c
  | .fa => True
  | .f1 k a => is1 k ∧ a.Ok
  | .f2 k a b => is2 k ∧ a.Ok ∧ b.Ok
def Fm.nodes : Fm → Nat
  | .at _ => 1
  | .fa => 1
  | .f1 _ a => a.nodes + 1
  | .f2 _ a b => a.nodes + b.nodes + 1
theorem Fm.nodes_pos : ∀ f : Fm, 1 ≤ f.nodes
  | .at _ => Nat.le_refl _
  | .fa => Nat.le_refl _
  | .f1 _ _ => by simp [Fm.nodes]
  | .f2 _ _ _ => by simp [Fm.nodes]

def Fm.depth : Fm → Nat
  | .at _ => 1
  | .fa => 1
  | .f1 _ a => a.depth + 1
  | .f2 _ a b => max a.depth b.depth + 1
theorem Fm.depth_pos : ∀ f : Fm, 1 ≤ f.depth
  | .at _ => Nat.le_refl _
  | .fa => Nat.le_refl _
  | .f1 _ _ => by simp [Fm.depth]
  | .f2 _ _ _ => by simp [Fm.depth]
theorem Fm.depth_le : ∀ f : Fm, f.depth ≤ f.nodes
  | .at _ => Nat.le_refl _
  | .fa => Nat.le_refl _
  | .f1 _ a => by have := a.depth_le; simp only [Fm.depth, Fm.nodes]; omega
  | .f2 _ a b => by have := a.depth_le; have := b.depth_le; simp only [Fm.depth, Fm.nodes]; omega
/-- small enough for syntax.Right -/
def Fm.Small (f : Fm) : Prop := f.nodes ≤ 400 ∧ f.depth ≤ 40
theorem Fm.small_of {f : Fm} (h : f.nodes ≤ 40) : f.Small := ⟨by omega, Nat.le_trans f.depth_le h⟩

/-! ### syntax.Right -/
def jb (L : Nat) : Blk := .box 111 [.bool false, .int .i64 L, .int .i64 40]
theorem node_c (H : Heap) (i L d : Nat) (hi : H[i]? = some (jb L)) (hL : 1 ≤ L ∧ L ≤ 400) (hd : d ≤ 40) : VCall Tryd.prog 65 [.ptr i 0, .int .i64 d] H (setR H i (jb (L - 1)) (.bool true)) := by
  unfold jb at hi ⊢
  refine fn_gen Tryd.E0 Tryd.mx Tryd.func65 (by kernel_rfl) rfl (Nat.le_of_ble_eq_true rfl) rfl fun hcl hbl => ?_
  (repeat' ((conv => whnf); (first | (refine IfN.id ?_; first | refine IfN.tt rfl ?_ | fail) | (refine EqN.id ?_; first | (refine EqN.subN _ _ (by first | with_reducible rfl | with_reducible exact cst1 | with_reducible exact cst0 | with_reducible exact cst2 | with_reducible exact cst3 | with_reducible exact cst4 | with_reducible exact cst5 | with_reducible exact cst6 | with_reducible exact cst7 | with_reducible exact cst8 | with_reducible exact cst14 | with_reducible exact cst15 | with_reducible exact cst25 | with_reducible exact cst30 | with_reducible exact cst31 | fail) (by first | with_reducible rfl | with_reducible exact cst1 | with_reducible exact cst0 | with_reducible exact cst2 | with_reducible exact cst3 | with_reducible exact cst4 | with_reducible exact cst5 | with_reducible exact cst6 | with_reducible exact cst7 | with_reducible exact cst8 | with_reducible exact cst14 | with_reducible exact cst15 | with_reducible exact cst25 | with_reducible exact cst30 | with_reducible exact cst31 | fail) ?_ ?_; · (repeat' (first | omega | refine And.intro ?_ ?_ | exact bnd_andl (by omega) | exact bnd_andr (by omega) | refine bnd_or ?_ ?_ | refine bnd_or31 ?_ ?_ | refine bnd_xor ?_ ?_ | refine bnd_xor31 ?_ ?_ | refine bnd_shr ?_ | refine bnd_shl ?_ ?_ | refine bnd_mod ?_ | refine bnd_andl ?_ | fail))) | fail) | refine SetN.mk _ rfl ?_ | (refine PtrN.id ?_; first | refine PtrN.base _ (by (repeat' (first | assumption | exact at_loc' _ rfl | exact at_loc0 rfl | refine at_set (B' := ?_) ?_ | refine at_base' ?_ | fail))) ?_ | fail) | refine DrawN.mk' [] ?_ | fail))); all_goals (conv => whnf)
  exact EndN.setB (by simp [Blk.below, belowL, below]) trivial (Wk.of_eq (by simp; omega))
theorem terms_c (H : Heap) (i d : Nat) : VDet Tryd.prog 68 [.ptr i 0, .sl none 0 [], .int .i64 d] H (.bool true) := by
  refine fn_det Tryd.E0 Tryd.mx Tryd.func68 (by kernel_rfl) rfl (Nat.le_of_ble_eq_true rfl) rfl fun hcl hbl => ?_
  (repeat' ((conv => whnf); (first | refine DrawN.mk' [] ?_ | fail))); all_goals (conv => whnf)
  refine LoopN.rounds Tryd.E0 Tryd.mx 1 rfl ?_
  (repeat' ((conv => whnf); (first | (refine IfN.id ?_; first | refine IfN.ff rfl ?_ | fail) | refine DrawN.mk' [] ?_ | fail))); all_goals (conv => whnf)
  exact EndN.det trivial (Wk.refl _)
theorem named1_c (c : UInt8) (h : cap c) (H : Heap) : VDet Tryd.prog 66 [.int .u8 1, .str (nm c)] H (.bool true) := by
  refine fn_det Tryd.E0 Tryd.mx Tryd.func66 (by kernel_rfl) rfl (Nat.le_of_ble_eq_true rfl) rfl fun hcl hbl => ?_
  (repeat' ((conv => whnf); (first | (refine IfN.id ?_; first | refine IfN.tt rfl ?_ | fail) | (refine CallN.id ?_; first | refine CallN.det _ (predicate_c c h _) ?_ | fail) | refine DrawN.mk' [] ?_ | fail))); all_goals (conv => whnf)
  exact EndN.det trivial (Wk.refl _)
theorem named0_c (H : Heap) : VDet Tryd.prog 66 [.int .u8 0, .str .empty] H (.bool true) := by
  refine fn_det Tryd.E0 Tryd.mx Tryd.func66 (by kernel_rfl) rfl (Nat.le_of_ble_eq_true rfl) rfl fun hcl hbl => ?_
  (repeat' ((conv => whnf); (first | (refine IfN.id ?_; first | refine IfN.ff rfl ?_ | fail) | refine DrawN.mk' [] ?_ | fail))); all_goals (conv => whnf)
  exact EndN.det trivial (Wk.of_eq (by simp))
end Go.Proofs.YtekhodpmpjehaaaDoor
/-! text K10 -/
namespace Go.Proofs.YtekhodpmpjehaaaDoor
open Go.Vsi
set_option maxHeartbeats 1000000
attribute [local irreducible] VW VCall VO bits

theorem form_at (c : UInt8) (hc : cap c) (H : Heap) (i L d : Nat) (hi : H[i]? = some (jb L)) (hL : 1 ≤ L ∧ L ≤ 400) (hd : d ≤ 40) : VCall Tryd.prog 51 [.ptr i 0, .agg (Fm.at c).cells, .int .i64 d] H (setR H i (jb (L - 1)) (.bool true)) := by
  have hn := fun X => node_c (H ++ X) i L d (at_base' hi) hL hd
  unfold jb at hi hn ⊢
  unfold Fm.cells
  simp only [Fm.op, Fm.nmB, Fm.sn, Fm.sc]
  refine fn_gen Tryd.E0 Tryd.mx Tryd.func51 (by kernel_rfl) rfl (Nat.le_of_ble_eq_true rfl) rfl fun hcl hbl => ?_
  (repeat' ((conv => whnf); (first | (refine IfN.id ?_; first | refine IfN.not ?_ | refine IfN.tt rfl ?_ | refine IfN.ff rfl ?_ | fail) | (refine EqN.id ?_; first | (refine EqN.addN _ _ (by first | with_reducible rfl | with_reducible exact cst1 | with_reducible exact cst0 | with_reducible exact cst2 | with_reducible exact cst3 | with_reducible exact cst4 | with_reducible exact cst5 | with_reducible exact cst6 | with_reducible exact cst7 | with_reducible exact cst8 | with_reducible exact cst14 | with_reducible exact cst15 | with_reducible exact cst25 | with_reducible exact cst30 | with_reducible exact cst31 | fail) (by first | with_reducible rfl | with_reducible exact cst1 | with_reducible exact cst0 | with_reducible exact cst2 | with_reducible exact cst3 | with_reducible exact cst4 | with_reducible exact cst5 | with_reducible exact cst6 | with_reducible exact cst7 | with_reducible exact cst8 | with_reducible exact cst14 | with_reducible exact cst15 | with_reducible exact cst25 | with_reducible exact cst30 | with_reducible exact cst31 | fail) ?_ ?_; · (repeat' (first | omega | refine And.intro ?_ ?_ | exact bnd_andl (by omega) | exact bnd_andr (by omega) | refine bnd_or ?_ ?_ | refine bnd_or31 ?_ ?_ | refine bnd_xor ?_ ?_ | refine bnd_xor31 ?_ ?_ | refine bnd_shr ?_ | refine bnd_shl ?_ ?_ | refine bnd_mod ?_ | refine bnd_andl ?_ | fail))) | refine EqN.remN _ _ (by first | with_reducible rfl | with_reducible exact cst1 | with_reducible exact cst0 | with_reducible exact cst2 | with_reducible exact cst3 | with_reducible exact cst4 | with_reducible exact cst5 | with_reducible exact cst6 | with_reducible exact cst7 | with_reducible exact cst8 | with_reducible exact cst14 | with_reducible exact cst15 | with_reducible exact cst25 | with_reducible exact cst30 | with_reducible exact cst31 | fail) (by first | with_reducible rfl | with_reducible exact cst1 | with_reducible exact cst0 | with_reducible exact cst2 | with_reducible exact cst3 | with_reducible exact cst4 | with_reducible exact cst5 | with_reducible exact cst6 | with_reducible exact cst7 | with_reducible exact cst8 | with_reducible exact cst14 | with_reducible exact cst15 | with_reducible exact cst25 | with_reducible exact cst30 | with_reducible exact cst31 | fail) ?_ | fail) | (refine SideN.mk ?_ ?_; · first | kernel_rfl | omega | exact List.cons_ne_nil _ _ | (simp; done) | (simp; omega) | exact trivial | assumption | fail) | (refine CallN.id ?_; first | refine CallN.det _ (named1_c c hc _) ?_ | refine CallN.det _ (terms_c _ _ _) ?_ | fail) | refine CallN.setB i _ _ _ _ hi rfl rfl (hn _) rfl ?_ | refine SegN.mk _ (seg_rfl rfl) ?_ | refine DrawN.mk' [] ?_ | fail))); all_goals (conv => whnf)
  refine LoopN.rounds Tryd.E0 Tryd.mx 1 (by simp) ?_
  (repeat' ((conv => whnf); (first | (refine IfN.id ?_; first | refine IfN.ff rfl ?_ | fail) | refine DrawN.mk' [] ?_ | fail))); all_goals (conv => whnf)
  exact EndN.setB (by simp [Blk.below, belowL, below]) trivial (Wk.refl _)
theorem form_fa (H : Heap) (i L d : Nat) (hi : H[i]? = some (jb L)) (hL : 1 ≤ L ∧ L ≤ 400) (hd : d ≤ 40) : VCall Tryd.prog 51 [.ptr i 0, .agg Fm.fa.cells, .int .i64 d] H (setR H i (jb (L - 1)) (.bool true)) := by
  have hn := fun X => node_c (H ++ X) i L d (at_base' hi) hL hd
  unfold jb at hi hn ⊢
  unfold Fm.cells
  simp only [Fm.op, Fm.nmB, Fm.sn, Fm.sc]
  refine fn_gen Tryd.E0 Tryd.mx Tryd.func51 (by kernel_rfl) rfl (Nat.le_of_ble_eq_true rfl) rfl fun hcl hbl => ?_
  (repeat' ((conv => whnf); (first | (refine IfN.id ?_; first | refine IfN.not ?_ | refine IfN.tt rfl ?_ | refine IfN.ff rfl ?_ | fail) | (refine EqN.id ?_; first | (refine EqN.addN _ _ (by first | with_reducible rfl | with_reducible exact cst1 | with_reducible exact cst0 | with_reducible exact cst2 | with_reducible exact cst3 | with_reducible exact cst4 | with_reducible exact cst5 | with_reducible exact cst6 | with_reducible exact cst7 | with_reducible exact cst8 | with_reducible exact cst14 | with_reducible exact cst15 | with_reducible exact cst25 | with_reducible exact cst30 | with_reducible exact cst31 | fail) (by first | with_reducible rfl | with_reducible exact cst1 | with_reducible exact cst0 | with_reducible exact cst2 | with_reducible exact cst3 | with_reducible exact cst4 | with_reducible exact cst5 | with_reducible exact cst6 | with_reducible exact cst7 | with_reducible exact cst8 | with_reducible exact cst14 | with_reducible exact cst15 | with_reducible exact cst25 | with_reducible exact cst30 | with_reducible exact cst31 | fail) ?_ ?_; · (repeat' (first | omega | refine And.intro ?_ ?_ | exact bnd_andl (by omega) | exact bnd_andr (by omega) | refine bnd_or ?_ ?_ | refine bnd_or31 ?_ ?_ | refine bnd_xor ?_ ?_ | refine bnd_xor31 ?_ ?_ | refine bnd_shr ?_ | refine bnd_shl ?_ ?_ | refine bnd_mod ?_ | refine bnd_andl ?_ | fail))) | refine EqN.remN _ _ (by first | with_reducible rfl | with_reducible exact cst1 | with_reducible exact cst0 | with_reducible exact cst2 | with_reducible exact cst3 | with_reducible exact cst4 | with_reducible exact cst5 | with_reducible exact cst6 | with_reducible exact cst7 | with_reducible exact cst8 | with_reducible exact cst14 | with_reducible exact cst15 | with_reducible exact cst25 | with_reducible exact cst30 | with_reducible exact cst31 | fail) (by first | with_reducible rfl | with_reducible exact cst1 | with_reducible exact cst0 | with_reducible exact cst2 | with_reducible exact cst3 | with_reducible exact cst4 | with_reducible exact cst5 | with_reducible exact cst6 | with_reducible exact cst7 | with_reducible exact cst8 | with_reducible exact cst14 | with_reducible exact cst15 | with_reducible exact cst25 | with_reducible exact cst30 | with_reducible exact cst31 | fail) ?_ | fail) | (refine SideN.mk ?_ ?_; · first | kernel_rfl | omega | exact List.cons_ne_nil _ _ | (simp; done) | (simp; omega) | exact trivial | assumption | fail) | (refine CallN.id ?_; first | refine CallN.det _ (named0_c _) ?_ | refine CallN.det _ (terms_c _ _ _) ?_ | fail) | refine CallN.setB i _ _ _ _ hi rfl rfl (hn _) rfl ?_ | refine SegN.mk _ (seg_rfl rfl) ?_ | refine DrawN.mk' [] ?_ | fail))); all_goals (conv => whnf)
  refine LoopN.rounds Tryd.E0 Tryd.mx 1 (by simp) ?_
  (repeat' ((conv => whnf); (first | (refine IfN.id ?_; first | refine IfN.ff rfl ?_ | fail) | refine DrawN.mk' [] ?_ | fail))); all_goals (conv => whnf)
  exact EndN.setB (by simp [Blk.below, belowL, below]) trivial (Wk.refl _)
/-- what is known of a part -/
def FormIH (a : Fm) : Prop := ∀ (H : Heap) (i L d : Nat), H[i]? = some (jb L) → a.nodes ≤ L ∧ L ≤ 400 → d + a.depth ≤ 41 → VCall Tryd.prog 51 [.ptr i 0, .agg a.cells, .int .i64 d] H (setR H i (jb (L - a.nodes)) (.bool true))
theorem form_f1_3 (a : Fm) (ih : FormIH a) (H : Heap) (i L d : Nat) (hi : H[i]? = some (jb L)) (hL : a.nodes + 1 ≤ L ∧ L ≤ 400) (hd : d + (a.depth + 1) ≤ 41) : VCall Tryd.prog 51 [.ptr i 0, .agg (Fm.f1 3 a).cells, .int .i64 d] H (setR H i (jb (L - (a.nodes + 1))) (.bool true)) := by
  have hp := a.nodes_pos
  have hpd := a.depth_pos
  have hn := fun X => node_c (H ++ X) i L d (at_base' hi) (by omega) (by omega)
  have h1 := fun X => ih (H.set i (jb (L - 1)) ++ X) i (L - 1) (d + 1) (at_base' (at_set hi)) (by omega) (by omega)
  rw [show L - 1 - a.nodes = L - (a.nodes + 1) by omega] at h1
  unfold jb at hi hn h1 ⊢
  rw [show (Fm.f1 3 a).cells = [.int .u8 (3 : Nat), .str .empty, .sl none 0 [], .sl none 1 [.int .u8 a.op, .str a.nmB, .sl none 0 [], .sl none a.sn a.sc]] from rfl]
  unfold Fm.cells at h1
  generalize a.op = ao at h1 ⊢
  generalize a.nmB = an at h1 ⊢
  generalize a.sn = asn at h1 ⊢
  generalize a.sc = asc at h1 ⊢
  refine fn_gen Tryd.E0 Tryd.mx Tryd.func51 (by kernel_rfl) rfl (Nat.le_of_ble_eq_true rfl) rfl fun hcl hbl => ?_
  (repeat' ((conv => whnf); (first | (refine IfN.id ?_; first | refine IfN.not ?_ | refine IfN.tt rfl ?_ | refine IfN.ff rfl ?_ | fail) | (refine EqN.id ?_; first | (refine EqN.addN _ _ (by first | with_reducible rfl | with_reducible exact cst1 | with_reducible exact cst0 | with_reducible exact cst2 | with_reducible exact cst3 | with_reducible exact cst4 | with_reducible exact cst5 | with_reducible exact cst6 | with_reducible exact cst7 | with_reducible exact cst8 | with_reducible exact cst14 | with_reducible exact cst15 | with_reducible exact cst25 | with_reducible exact cst30 | with_reducible exact cst31 | fail) (by first | with_reducible rfl | with_reducible exact cst1 | with_reducible exact cst0 | with_reducible exact cst2 | with_reducible exact cst3 | with_reducible exact cst4 | with_reducible exact cst5 | with_reducible exact cst6 | with_reducible exact cst7 | with_reducible exact cst8 | with_reducible exact cst14 | with_reducible exact cst15 | with_reducible exact cst25 | with_reducible exact cst30 | with_reducible exact cst31 | fail) ?_ ?_; · (repeat' (first | omega | refine And.intro ?_ ?_ | exact bnd_andl (by omega) | exact bnd_andr (by omega) | refine bnd_or ?_ ?_ | refine bnd_or31 ?_ ?_ | refine bnd_xor ?_ ?_ | refine bnd_xor31 ?_ ?_ | refine bnd_shr ?_ | refine bnd_shl ?_ ?_ | refine bnd_mod ?_ | refine bnd_andl ?_ | fail))) | refine EqN.remN _ _ (by first | with_reducible rfl | with_reducible exact cst1 | with_reducible exact cst0 | with_reducible exact cst2 | with_reducible exact cst3 | with_reducible exact cst4 | with_reducible exact cst5 | with_reducible exact cst6 | with_reducible exact cst7 | with_reducible exact cst8 | with_reducible exact cst14 | with_reducible exact cst15 | with_reducible exact cst25 | with_reducible exact cst30 | with_reducible exact cst31 | fail) (by first | with_reducible rfl | with_reducible exact cst1 | with_reducible exact cst0 | with_reducible exact cst2 | with_reducible exact cst3 | with_reducible exact cst4 | with_reducible exact cst5 | with_reducible exact cst6 | with_reducible exact cst7 | with_reducible exact cst8 | with_reducible exact cst14 | with_reducible exact cst15 | with_reducible exact cst25 | with_reducible exact cst30 | with_reducible exact cst31 | fail) ?_ | fail) | (refine SideN.mk ?_ ?_; · first | kernel_rfl | omega | exact List.cons_ne_nil _ _ | (simp; done) | (simp; omega) | exact trivial | assumption | fail) | (refine CallN.id ?_; first | refine CallN.det _ (named0_c _) ?_ | refine CallN.det _ (terms_c _ _ _) ?_ | fail) | refine CallN.setB i _ _ _ _ hi rfl rfl (hn _) rfl ?_ | refine SegN.mk _ (seg_rfl rfl) ?_ | refine DrawN.mk' [] ?_ | fail))); all_goals (conv => whnf)
  refine LoopN.rounds Tryd.E0 Tryd.mx 2 (by simp) ?_
  (repeat' ((conv => whnf); (first | (refine IfN.id ?_; first | refine IfN.not ?_ | refine IfN.tt rfl ?_ | refine IfN.ff rfl ?_ | fail) | (refine EqN.id ?_; first | (refine EqN.addN _ _ (by first | with_reducible rfl | with_reducible exact cst1 | with_reducible exact cst0 | with_reducible exact cst2 | with_reducible exact cst3 | with_reducible exact cst4 | with_reducible exact cst5 | with_reducible exact cst6 | with_reducible exact cst7 | with_reducible exact cst8 | with_reducible exact cst14 | with_reducible exact cst15 | with_reducible exact cst25 | with_reducible exact cst30 | with_reducible exact cst31 | fail) (by first | with_reducible rfl | with_reducible exact cst1 | with_reducible exact cst0 | with_reducible exact cst2 | with_reducible exact cst3 | with_reducible exact cst4 | with_reducible exact cst5 | with_reducible exact cst6 | with_reducible exact cst7 | with_reducible exact cst8 | with_reducible exact cst14 | with_reducible exact cst15 | with_reducible exact cst25 | with_reducible exact cst30 | with_reducible exact cst31 | fail) ?_ ?_; · (repeat' (first | omega | refine And.intro ?_ ?_ | exact bnd_andl (by omega) | exact bnd_andr (by omega) | refine bnd_or ?_ ?_ | refine bnd_or31 ?_ ?_ | refine bnd_xor ?_ ?_ | refine bnd_xor31 ?_ ?_ | refine bnd_shr ?_ | refine bnd_shl ?_ ?_ | refine bnd_mod ?_ | refine bnd_andl ?_ | fail))) | fail) | (refine SideN.mk ?_ ?_; · first | kernel_rfl | omega | exact List.cons_ne_nil _ _ | (simp; done) | (simp; omega) | exact trivial | assumption | fail) | refine CallN.setB i _ _ _ _ (at_set hi) (by simp) rfl (h1 _) (List.set_set ..) ?_ | refine SegN.mk _ (seg_rfl rfl) ?_ | refine DrawN.mk' [] ?_ | fail))); all_goals (conv => whnf)
  exact EndN.setB (by simp [Blk.below, belowL, below]) trivial (Wk.refl _)
theorem form_f1_10 (a : Fm) (ih : FormIH a) (H : Heap) (i L d : Nat) (hi : H[i]? = some (jb L)) (hL : a.nodes + 1 ≤ L ∧ L ≤ 400) (hd : d + (a.depth + 1) ≤ 41) : VCall Tryd.prog 51 [.ptr i 0, .agg (Fm.f1 10 a).cells, .int .i64 d] H (setR H i (jb (L - (a.nodes + 1))) (.bool true)) := by
  have hp := a.nodes_pos
  have hpd := a.depth_pos
  have hn := fun X => node_c (H ++ X) i L d (at_base' hi) (by omega) (by omega)
  have h1 := fun X => ih (H.set i (jb (L - 1)) ++ X) i (L - 1) (d + 1) (at_base' (at_set hi)) (by omega) (by omega)
  rw [show L - 1 - a.nodes = L - (a.nodes + 1) by omega] at h1
  unfold jb at hi hn h1 ⊢
  rw [show (Fm.f1 10 a).cells = [.int .u8 (10 : Nat), .str .empty, .sl none 0 [], .sl none 1 [.int .u8 a.op, .str a.nmB, .sl none 0 [], .sl none a.sn a.sc]] from rfl]
  unfold Fm.cells at h1
  generalize a.op = ao at h1 ⊢
  generalize a.nmB = an at h1 ⊢
  generalize a.sn = asn at h1 ⊢
  generalize a.sc = asc at h1 ⊢
  refine fn_gen Tryd.E0 Tryd.mx Tryd.func51 (by kernel_rfl) rfl (Nat.le_of_ble_eq_true rfl) rfl fun hcl hbl => ?_
  (repeat' ((conv => whnf); (first | (refine IfN.id ?_; first | refine IfN.not ?_ | refine IfN.tt rfl ?_ | refine IfN.ff rfl ?_ | fail) | (refine EqN.id ?_; first | (refine EqN.addN _ _ (by first | with_reducible rfl | with_reducible exact cst1 | with_reducible exact cst0 | with_reducible exact cst2 | with_reducible exact cst3 | with_reducible exact cst4 | with_reducible exact cst5 | with_reducible exact cst6 | with_reducible exact cst7 | with_reducible exact cst8 | with_reducible exact cst14 | with_reducible exact cst15 | with_reducible exact cst25 | with_reducible exact cst30 | with_reducible exact cst31 | fail) (by first | with_reducible rfl | with_reducible exact cst1 | with_reducible exact cst0 | with_reducible exact cst2 | with_reducible exact cst3 | with_reducible exact cst4 | with_reducible exact cst5 | with_reducible exact cst6 | with_reducible exact cst7 | with_reducible exact cst8 | with_reducible exact cst14 | with_reducible exact cst15 | with_reducible exact cst25 | with_reducible exact cst30 | with_reducible exact cst31 | fail) ?_ ?_; · (repeat' (first | omega | refine And.intro ?_ ?_ | exact bnd_andl (by omega) | exact bnd_andr (by omega) | refine bnd_or ?_ ?_ | refine bnd_or31 ?_ ?_ | refine bnd_xor ?_ ?_ | refine bnd_xor31 ?_ ?_ | refine bnd_shr ?_ | refine bnd_shl ?_ ?_ | refine bnd_mod ?_ | refine bnd_andl ?_ | fail))) | refine EqN.remN _ _ (by first | with_reducible rfl | with_reducible exact cst1 | with_reducible exact cst0 | with_reducible exact cst2 | with_reducible exact cst3 | with_reducible exact cst4 | with_reducible exact cst5 | with_reducible exact cst6 | with_reducible exact cst7 | with_reducible exact cst8 | with_reducible exact cst14 | with_reducible exact cst15 | with_reducible exact cst25 | with_reducible exact cst30 | with_reducible exact cst31 | fail) (by first | with_reducible rfl | with_reducible exact cst1 | with_reducible exact cst0 | with_reducible exact cst2 | with_reducible exact cst3 | with_reducible exact cst4 | with_reducible exact cst5 | with_reducible exact cst6 | with_reducible exact cst7 | with_reducible exact cst8 | with_reducible exact cst14 | with_reducible exact cst15 | with_reducible exact cst25 | with_reducible exact cst30 | with_reducible exact cst31 | fail) ?_ | fail) | (refine SideN.mk ?_ ?_; · first | kernel_rfl | omega | exact List.cons_ne_nil _ _ | (simp; done) | (simp; omega) | exact trivial | assumption | fail) | (refine CallN.id ?_; first | refine CallN.det _ (named0_c _) ?_ | refine CallN.det _ (terms_c _ _ _) ?_ | fail) | refine CallN.setB i _ _ _ _ hi rfl rfl (hn _) rfl ?_ | refine SegN.mk _ (seg_rfl rfl) ?_ | refine DrawN.mk' [] ?_ | fail))); all_goals (conv => whnf)
  refine LoopN.rounds Tryd.E0 Tryd.mx 2 (by simp) ?_
  (repeat' ((conv => whnf); (first | (refine IfN.id ?_; first | refine IfN.not ?_ | refine IfN.tt rfl ?_ | refine IfN.ff rfl ?_ | fail) | (refine EqN.id ?_; first | (refine EqN.addN _ _ (by first | with_reducible rfl | with_reducible exact cst1 | with_reducible exact cst0 | with_reducible exact cst2 | with_reducible exact cst3 | with_reducible exact cst4 | with_reducible exact cst5 | with_reducible exact cst6 | with_reducible exact cst7 | with_reducible exact cst8 | with_reducible exact cst14 | with_reducible exact cst15 | with_reducible exact cst25 | with_reducible exact cst30 | with_reducible exact cst31 | fail) (by first | with_reducible rfl | with_reducible exact cst1 | with_reducible exact cst0 | with_reducible exact cst2 | with_reducible exact cst3 | with_reducible exact cst4 | with_reducible exact cst5 | with_reducible exact cst6 | with_reducible exact cst7 | with_reducible exact cst8 | with_reducible exact cst14 | with_reducible exact cst15 | with_reducible exact cst25 | with_reducible exact cst30 | with_reducible exact cst31 | fail) ?_ ?_; · (repeat' (first | omega | refine And.intro ?_ ?_ | exact bnd_andl (by omega) | exact bnd_andr (by omega) | refine bnd_or ?_ ?_ | refine bnd_or31 ?_ ?_ | refine bnd_xor ?_ ?_ | refine bnd_xor31 ?_ ?_ | refine bnd_shr ?_ | refine bnd_shl ?_ ?_ | refine bnd_mod ?_ | refine bnd_andl ?_ | fail))) | fail) | (refine SideN.mk ?_ ?_; · first | kernel_rfl | omega | exact List.cons_ne_nil _ _ | (simp; done) | (simp; omega) | exact trivial | assumption | fail) | refine CallN.setB i _ _ _ _ (at_set hi) (by simp) rfl (h1 _) (List.set_set ..) ?_ | refine SegN.mk _ (seg_rfl rfl) ?_ | refine DrawN.mk' [] ?_ | fail))); all_goals (conv => whnf)
  exact EndN.setB (by simp [Blk.below, belowL, below]) trivial (Wk.refl _)
theorem form_f1_11 (a : Fm) (ih : FormIH a) (H : Heap) (i L d : Nat) (hi : H[i]? = some (jb L)) (hL : a.nodes + 1 ≤ L ∧ L ≤ 400) (hd : d + (a.depth + 1) ≤ 41) : VCall Tryd.prog 51 [.ptr i 0, .agg (Fm.f1 11 a).cells, .int .i64 d] H (setR H i (jb (L - (a.nodes + 1))) (.bool true)) := by
  have hp := a.nodes_pos
  have hpd := a.depth_pos
  have hn := fun X => node_c (H ++ X) i L d (at_base' hi) (by omega) (by omega)
  have h1 := fun X => ih (H.set i (jb (L - 1)) ++ X) i (L - 1) (d + 1) (at_base' (at_set hi)) (by omega) (by omega)
  rw [show L - 1 - a.nodes = L - (a.nodes + 1) by omega] at h1
  unfold jb at hi hn h1 ⊢
  rw [show (Fm.f1 11 a).cells = [.int .u8 (11 : Nat), .str .empty, .sl none 0 [], .sl none 1 [.int .u8 a.op, .str a.nmB, .sl none 0 [], .sl none a.sn a.sc]] from rfl]
  unfold Fm.cells at h1
  generalize a.op = ao at h1 ⊢
  generalize a.nmB = an at h1 ⊢
  generalize a.sn = asn at h1 ⊢
  generalize a.sc = asc at h1 ⊢
  refine fn_gen Tryd.E0 Tryd.mx Tryd.func51 (by kernel_rfl) rfl (Nat.le_of_ble_eq_true rfl) rfl fun hcl hbl => ?_
  (repeat' ((conv => whnf); (first | (refine IfN.id ?_; first | refine IfN.not ?_ | refine IfN.tt rfl ?_ | refine IfN.ff rfl ?_ | fail) | (refine EqN.id ?_; first | (refine EqN.addN _ _ (by first | with_reducible rfl | with_reducible exact cst1 | with_reducible exact cst0 | with_reducible exact cst2 | with_reducible exact cst3 | with_reducible exact cst4 | with_reducible exact cst5 | with_reducible exact cst6 | with_reducible exact cst7 | with_reducible exact cst8 | with_reducible exact cst14 | with_reducible exact cst15 | with_reducible exact cst25 | with_reducible exact cst30 | with_reducible exact cst31 | fail) (by first | with_reducible rfl | with_reducible exact cst1 | with_reducible exact cst0 | with_reducible exact cst2 | with_reducible exact cst3 | with_reducible exact cst4 | with_reducible exact cst5 | with_reducible exact cst6 | with_reducible exact cst7 | with_reducible exact cst8 | with_reducible exact cst14 | with_reducible exact cst15 | with_reducible exact cst25 | with_reducible exact cst30 | with_reducible exact cst31 | fail) ?_ ?_; · (repeat' (first | omega | refine And.intro ?_ ?_ | exact bnd_andl (by omega) | exact bnd_andr (by omega) | refine bnd_or ?_ ?_ | refine bnd_or31 ?_ ?_ | refine bnd_xor ?_ ?_ | refine bnd_xor31 ?_ ?_ | refine bnd_shr ?_ | refine bnd_shl ?_ ?_ | refine bnd_mod ?_ | refine bnd_andl ?_ | fail))) | refine EqN.remN _ _ (by first | with_reducible rfl | with_reducible exact cst1 | with_reducible exact cst0 | with_reducible exact cst2 | with_reducible exact cst3 | with_reducible exact cst4 | with_reducible exact cst5 | with_reducible exact cst6 | with_reducible exact cst7 | with_reducible exact cst8 | with_reducible exact cst14 | with_reducible exact cst15 | with_reducible exact cst25 | with_reducible exact cst30 | with_reducible exact cst31 | fail) (by first | with_reducible rfl | with_reducible exact cst1 | with_reducible exact cst0 | with_reducible exact cst2 | with_reducible exact cst3 | with_reducible exact cst4 | with_reducible exact cst5 | with_reducible exact cst6 | with_reducible exact cst7 | with_reducible exact cst8 | with_reducible exact cst14 | with_reducible exact cst15 | with_reducible exact cst25 | with_reducible exact cst30 | with_reducible exact cst31 | fail) ?_ | fail) | (refine SideN.mk ?_ ?_; · first | kernel_rfl | omega | exact List.cons_ne_nil _ _ | (simp; done) | (simp; omega) | exact trivial | assumption | fail) | (refine CallN.id ?_; first | refine CallN.det _ (named0_c _) ?_ | refine CallN.det _ (terms_c _ _ _) ?_ | fail) | refine CallN.setB i _ _ _ _ hi rfl rfl (hn _) rfl ?_ | refine SegN.mk _ (seg_rfl rfl) ?_ | refine DrawN.mk' [] ?_ | fail))); all_goals (conv => whnf)
  refine LoopN.rounds Tryd.E0 Tryd.mx 2 (by simp) ?_
  (repeat' ((conv => whnf); (first | (refine IfN.id ?_; first | refine IfN.not ?_ | refine IfN.tt rfl ?_ | refine IfN.ff rfl ?_ | fail) | (refine EqN.id ?_; first | (refine EqN.addN _ _ (by first | with_reducible rfl | with_reducible exact cst1 | with_reducible exact cst0 | with_reducible exact cst2 | with_reducible exact cst3 | with_reducible exact cst4 | with_reducible exact cst5 | with_reducible exact cst6 | with_reducible exact cst7 | with_reducible exact cst8 | with_reducible exact cst14 | with_reducible exact cst15 | with_reducible exact cst25 | with_reducible exact cst30 | with_reducible exact cst31 | fail) (by first | with_reducible rfl | with_reducible exact cst1 | with_reducible exact cst0 | with_reducible exact cst2 | with_reducible exact cst3 | with_reducible exact cst4 | with_reducible exact cst5 | with_reducible exact cst6 | with_reducible exact cst7 | with_reducible exact cst8 | with_reducible exact cst14 | with_reducible exact cst15 | with_reducible exact cst25 | with_reducible exact cst30 | with_reducible exact cst31 | fail) ?_ ?_; · (repeat' (first | omega | refine And.intro ?_ ?_ | exact bnd_andl (by omega) | exact bnd_andr (by omega) | refine bnd_or ?_ ?_ | refine bnd_or31 ?_ ?_ | refine bnd_xor ?_ ?_ | refine bnd_xor31 ?_ ?_ | refine bnd_shr ?_ | refine bnd_shl ?_ ?_ | refine bnd_mod ?_ | refine bnd_andl ?_ | fail))) | fail) | (refine SideN.mk ?_ ?_; · first | kernel_rfl | omega | exact List.cons_ne_nil _ _ | (simp; done) | (simp; omega) | exact trivial | assumption | fail) | refine CallN.setB i _ _ _ _ (at_set hi) (by simp) rfl (h1 _) (List.set_set ..) ?_ | refine SegN.mk _ (seg_rfl rfl) ?_ | refine DrawN.mk' [] ?_ | fail))); all_goals (conv => whnf)
  exact EndN.setB (by simp [Blk.below, belowL, below]) trivial (Wk.refl _)
theorem form_f1_12 (a : Fm) (ih : FormIH a) (H : Heap) (i L d : Nat) (hi : H[i]? = some (jb L)) (hL : a.nodes + 1 ≤ L ∧ L ≤ 400) (hd : d + (a.depth + 1) ≤ 41) : VCall Tryd.prog 51 [.ptr i 0, .agg (Fm.f1 12 a).cells, .int .i64 d] H (setR H i (jb (L - (a.nodes + 1))) (.bool true)) := by
  have hp := a.nodes_pos
  have hpd := a.depth_pos
  have hn := fun X => node_c (H ++ X) i L d (at_base' hi) (by omega) (by omega)
  have h1 := fun X => ih (H.set i (jb (L - 1)) ++ X) i (L - 1) (d + 1) (at_base' (at_set hi)) (by omega) (by omega)
  rw [show L - 1 - a.nodes = L - (a.nodes + 1) by omega] at h1
  unfold jb at hi hn h1 ⊢
  rw [show (Fm.f1 12 a).cells = [.int .u8 (12 : Nat), .str .empty, .sl none 0 [], .sl none 1 [.int .u8 a.op, .str a.nmB, .sl none 0 [], .sl none a.sn a.sc]] from rfl]
  unfold Fm.cells at h1
  generalize a.op = ao at h1 ⊢
  generalize a.nmB = an at h1 ⊢
  generalize a.sn = asn at h1 ⊢
  generalize a.sc = asc at h1 ⊢
  refine fn_gen Tryd.E0 Tryd.mx Tryd.func51 (by kernel_rfl) rfl (Nat.le_of_ble_eq_true rfl) rfl fun hcl hbl => ?_
  (repeat' ((conv => whnf); (first | (refine IfN.id ?_; first | refine IfN.not ?_ | refine IfN.tt rfl ?_ | refine IfN.ff rfl ?_ | fail) | (refine EqN.id ?_; first | (refine EqN.addN _ _ (by first | with_reducible rfl | with_reducible exact cst1 | with_reducible exact cst0 | with_reducible exact cst2 | with_reducible exact cst3 | with_reducible exact cst4 | with_reducible exact cst5 | with_reducible exact cst6 | with_reducible exact cst7 | with_reducible exact cst8 | with_reducible exact cst14 | with_reducible exact cst15 | with_reducible exact cst25 | with_reducible exact cst30 | with_reducible exact cst31 | fail) (by first | with_reducible rfl | with_reducible exact cst1 | with_reducible exact cst0 | with_reducible exact cst2 | with_reducible exact cst3 | with_reducible exact cst4 | with_reducible exact cst5 | with_reducible exact cst6 | with_reducible exact cst7 | with_reducible exact cst8 | with_reducible exact cst14 | with_reducible exact cst15 | with_reducible exact cst25 | with_reducible exact cst30 | with_reducible exact cst31 | fail) ?_ ?_; · (repeat' (first | omega | refine And.intro ?_ ?_ | exact bnd_andl (by omega) | exact bnd_andr (by omega) | refine bnd_or ?_ ?_ | refine bnd_or31 ?_ ?_ | refine bnd_xor ?_ ?_ | refine bnd_xor31 ?_ ?_ | refine bnd_shr ?_ | refine bnd_shl ?_ ?_ | refine bnd_mod ?_ | refine bnd_andl ?_ | fail))) | refine EqN.remN _ _ (by first | with_reducible rfl | with_reducible exact cst1 | with_reducible exact cst0 | with_reducible exact cst2 | with_reducible exact cst3 | with_reducible exact cst4 | with_reducible exact cst5 | with_reducible exact cst6 | with_reducible exact cst7 | with_reducible exact cst8 | with_reducible exact cst14 | with_reducible exact cst15 | with_reducible exact cst25 | with_reducible exact cst30 | with_reducible exact cst31 | fail) (by first | with_reducible rfl | with_reducible exact cst1 | with_reducible exact cst0 | with_reducible exact cst2 | with_reducible exact cst3 | with_reducible exact cst4 | with_reducible exact cst5 | with_reducible exact cst6 | with_reducible exact cst7 | with_reducible exact cst8 | with_reducible exact cst14 | with_reducible exact cst15 | with_reducible exact cst25 | with_reducible exact cst30 | with_reducible exact cst31 | fail) ?_ | fail) | (refine SideN.mk ?_ ?_; · first | kernel_rfl | omega | exact List.cons_ne_nil _ _ | (simp; done) | (simp; omega) | exact trivial | assumption | fail) | (refine CallN.id ?_; first | refine CallN.det _ (named0_c _) ?_ | refine CallN.det _ (terms_c _ _ _) ?_ | fail) | refine CallN.setB i _ _ _ _ hi rfl rfl (hn _) rfl ?_ | refine SegN.mk _ (seg_rfl rfl) ?_ | refine DrawN.mk' [] ?_ | fail))); all_goals (conv => whnf)
  refine LoopN.rounds Tryd.E0 Tryd.mx 2 (by simp) ?_
  (repeat' ((conv => whnf); (first | (refine IfN.id ?_; first | refine IfN.not ?_ | refine IfN.tt rfl ?_ | refine IfN.ff rfl ?_ | fail) | (refine EqN.id ?_; first | (refine EqN.addN _ _ (by first | with_reducible rfl | with_reducible exact cst1 | with_reducible exact cst0 | with_reducible exact cst2 | with_reducible exact cst3 | with_reducible exact cst4 | with_reducible exact cst5 | with_reducible exact cst6 | with_reducible exact cst7 | with_reducible exact cst8 | with_reducible exact cst14 | with_reducible exact cst15 | with_reducible exact cst25 | with_reducible exact cst30 | with_reducible exact cst31 | fail) (by first | with_reducible rfl | with_reducible exact cst1 | with_reducible exact cst0 | with_reducible exact cst2 | with_reducible exact cst3 | with_reducible exact cst4 | with_reducible exact cst5 | with_reducible exact cst6 | with_reducible exact cst7 | with_reducible exact cst8 | with_reducible exact cst14 | with_reducible exact cst15 | with_reducible exact cst25 | with_reducible exact cst30 | with_reducible exact cst31 | fail) ?_ ?_; · (repeat' (first | omega | refine And.intro ?_ ?_ | exact bnd_andl (by omega) | exact bnd_andr (by omega) | refine bnd_or ?_ ?_ | refine bnd_or31 ?_ ?_ | refine bnd_xor ?_ ?_ | refine bnd_xor31 ?_ ?_ | refine bnd_shr ?_ | refine bnd_shl ?_ ?_ | refine bnd_mod ?_ | refine bnd_andl ?_ | fail))) | fail) | (refine SideN.mk ?_ ?_; · first | kernel_rfl | omega | exact List.cons_ne_nil _ _ | (simp; done) | (simp; omega) | exact trivial | assumption | fail) | refine CallN.setB i _ _ _ _ (at_set hi) (by simp) rfl (h1 _) (List.set_set ..) ?_ | refine SegN.mk _ (seg_rfl rfl) ?_ | refine DrawN.mk' [] ?_ | fail))); all_goals (conv => whnf)
  exact EndN.setB (by simp [Blk.below, belowL, below]) trivial (Wk.refl _)
theorem form_f1_13 (a : Fm) (ih : FormIH a) (H : Heap) (i L d : Nat) (hi : H[i]? = some (jb L)) (hL : a.nodes + 1 ≤ L ∧ L ≤ 400) (hd : d + (a.depth + 1) ≤ 41) : VCall Tryd.prog 51 [.ptr i 0, .agg (Fm.f1 13 a).cells, .int .i64 d] H (setR H i (jb (L - (a.nodes + 1))) (.bool true)) := by
  have hp := a.nodes_pos
  have hpd := a.depth_pos
  have hn := fun X => node_c (H ++ X) i L d (at_base' hi) (by omega) (by omega)
  have h1 := fun X => ih (H.set i (jb (L - 1)) ++ X) i (L - 1) (d + 1) (at_base' (at_set hi)) (by omega) (by omega)
  rw [show L - 1 - a.nodes = L - (a.nodes + 1) by omega] at h1
  unfold jb at hi hn h1 ⊢
  rw [show (Fm.f1 13 a).cells = [.int .u8 (13 : Nat), .str .empty, .sl none 0 [], .sl none 1 [.int .u8 a.op, .str a.nmB, .sl none 0 [], .sl none a.sn a.sc]] from rfl]
  unfold Fm.cells at h1
  generalize a.op = ao at h1 ⊢
  generalize a.nmB = an at h1 ⊢
  generalize a.sn = asn at h1 ⊢
  generalize a.sc = asc at h1 ⊢
  refine fn_gen Tryd.E0 Tryd.mx Tryd.func51 (by kernel_rfl) rfl (Nat.le_of_ble_eq_true rfl) rfl fun hcl hbl => ?_
  (repeat' ((conv => whnf); (first | (refine IfN.id ?_; first | refine IfN.not ?_ | refine IfN.tt rfl ?_ | refine IfN.ff rfl ?_ | fail) | (refine EqN.id ?_; first | (refine EqN.addN _ _ (by first | with_reducible rfl | with_reducible exact cst1 | with_reducible exact cst0 | with_reducible exact cst2 | with_reducible exact cst3 | with_reducible exact cst4 | with_reducible exact cst5 | with_reducible exact cst6 | with_reducible exact cst7 | with_reducible exact cst8 | with_reducible exact cst14 | with_reducible exact cst15 | with_reducible exact cst25 | with_reducible exact cst30 | with_reducible exact cst31 | fail) (by first | with_reducible rfl | with_reducible exact cst1 | with_reducible exact cst0 | with_reducible exact cst2 | with_reducible exact cst3 | with_reducible exact cst4 | with_reducible exact cst5 | with_reducible exact cst6 | with_reducible exact cst7 | with_reducible exact cst8 | with_reducible exact cst14 | with_reducible exact cst15 | with_reducible exact cst25 | with_reducible exact cst30 | with_reducible exact cst31 | fail) ?_ ?_; · (repeat' (first | omega | refine And.intro ?_ ?_ | exact bnd_andl (by omega) | exact bnd_andr (by omega) | refine bnd_or ?_ ?_ | refine bnd_or31 ?_ ?_ | refine bnd_xor ?_ ?_ | refine bnd_xor31 ?_ ?_ | refine bnd_shr ?_ | refine bnd_shl ?_ ?_ | refine bnd_mod ?_ | refine bnd_andl ?_ | fail))) | refine EqN.remN _ _ (by first | with_reducible rfl | with_reducible exact cst1 | with_reducible exact cst0 | with_reducible exact cst2 | with_reducible exact cst3 | with_reducible exact cst4 | with_reducible exact cst5 | with_reducible exact cst6 | with_reducible exact cst7 | with_reducible exact cst8 | with_reducible exact cst14 | with_reducible exact cst15 | with_reducible exact cst25 | with_reducible exact cst30 | with_reducible exact cst31 | fail) (by first | with_reducible rfl | with_reducible exact cst1 | with_reducible exact cst0 | with_reducible exact cst2 | with_reducible exact cst3 | with_reducible exact cst4 | with_reducible exact cst5 | with_reducible exact cst6 | with_reducible exact cst7 | with_reducible exact cst8 | with_reducible exact cst14 | with_reducible exact cst15 | with_reducible exact cst25 | with_reducible exact cst30 | with_reducible exact cst31 | fail) ?_ | fail) | (refine SideN.mk ?_ ?_; · first | kernel_rfl | omega | exact List.cons_ne_nil _ _ | (simp; done) | (simp; omega) | exact trivial | assumption | fail) | (refine CallN.id ?_; first | refine CallN.det _ (named0_c _) ?_ | refine CallN.det _ (terms_c _ _ _) ?_ | fail) | refine CallN.setB i _ _ _ _ hi rfl rfl (hn _) rfl ?_ | refine SegN.mk _ (seg_rfl rfl) ?_ | refine DrawN.mk' [] ?_ | fail))); all_goals (conv => whnf)
  refine LoopN.rounds Tryd.E0 Tryd.mx 2 (by simp) ?_
  (repeat' ((conv => whnf); (first | (refine IfN.id ?_; first | refine IfN.not ?_ | refine IfN.tt rfl ?_ | refine IfN.ff rfl ?_ | fail) | (refine EqN.id ?_; first | (refine EqN.addN _ _ (by first | with_reducible rfl | with_reducible exact cst1 | with_reducible exact cst0 | with_reducible exact cst2 | with_reducible exact cst3 | with_reducible exact cst4 | with_reducible exact cst5 | with_reducible exact cst6 | with_reducible exact cst7 | with_reducible exact cst8 | with_reducible exact cst14 | with_reducible exact cst15 | with_reducible exact cst25 | with_reducible exact cst30 | with_reducible exact cst31 | fail) (by first | with_reducible rfl | with_reducible exact cst1 | with_reducible exact cst0 | with_reducible exact cst2 | with_reducible exact cst3 | with_reducible exact cst4 | with_reducible exact cst5 | with_reducible exact cst6 | with_reducible exact cst7 | with_reducible exact cst8 | with_reducible exact cst14 | with_reducible exact cst15 | with_reducible exact cst25 | with_reducible exact cst30 | with_reducible exact cst31 | fail) ?_ ?_; · (repeat' (first | omega | refine And.intro ?_ ?_ | exact bnd_andl (by omega) | exact bnd_andr (by omega) | refine bnd_or ?_ ?_ | refine bnd_or31 ?_ ?_ | refine bnd_xor ?_ ?_ | refine bnd_xor31 ?_ ?_ | refine bnd_shr ?_ | refine bnd_shl ?_ ?_ | refine bnd_mod ?_ | refine bnd_andl ?_ | fail))) | fail) | (refine SideN.mk ?_ ?_; · first | kernel_rfl | omega | exact List.cons_ne_nil _ _ | (simp; done) | (simp; omega) | exact trivial | assumption | fail) | refine CallN.setB i _ _ _ _ (at_set hi) (by simp) rfl (h1 _) (List.set_set ..) ?_ | refine SegN.mk _ (seg_rfl rfl) ?_ | refine DrawN.mk' [] ?_ | fail))); all_goals (conv => whnf)
  exact EndN.setB (by simp [Blk.below, belowL, below]) trivial (Wk.refl _)
theorem form_f2_4 (a b : Fm) (iha : FormIH a) (ihb : FormIH b) (H : Heap) (i L d : Nat) (hi : H[i]? = some (jb L)) (hL : a.nodes + b.nodes + 1 ≤ L ∧ L ≤ 400) (hd : d + (max a.depth b.depth + 1) ≤ 41) : VCall Tryd.prog 51 [.ptr i 0, .agg (Fm.f2 4 a b).cells, .int .i64 d] H (setR H i (jb (L - (a.nodes + b.nodes + 1))) (.bool true)) := by
  have hp := a.nodes_pos
  have hpd := a.depth_pos
  have hp2 := b.nodes_pos
  have hpd2 := b.depth_pos
  have hn := fun X => node_c (H ++ X) i L d (at_base' hi) (by omega) (by omega)
  have h1 := fun X => iha (H.set i (jb (L - 1)) ++ X) i (L - 1) (d + 1) (at_base' (at_set hi)) (by omega) (by omega)
  have h2 := fun X => ihb (H.set i (jb (L - 1 - a.nodes)) ++ X) i (L - 1 - a.nodes) (d + 1) (at_base' (at_set hi)) (by omega) (by omega)
  rw [show L - 1 - a.nodes - b.nodes = L - (a.nodes + b.nodes + 1) by omega] at h2
  unfold jb at hi hn h1 h2 ⊢
  rw [show (Fm.f2 4 a b).cells = [.int .u8 (4 : Nat), .str .empty, .sl none 0 [], .sl none 2 [.int .u8 a.op, .str a.nmB, .sl none 0 [], .sl none a.sn a.sc, .int .u8 b.op, .str b.nmB, .sl none 0 [], .sl none b.sn b.sc]] from rfl]
  unfold Fm.cells at h1 h2
  generalize a.op = ao at h1 ⊢
  generalize a.nmB = an at h1 ⊢
  generalize a.sn = asn at h1 ⊢
  generalize a.sc = asc at h1 ⊢
  generalize b.op = bo at h2 ⊢
  generalize b.nmB = bn at h2 ⊢
  generalize b.sn = bsn at h2 ⊢
  generalize b.sc = bsc at h2 ⊢
  refine fn_gen Tryd.E0 Tryd.mx Tryd.func51 (by kernel_rfl) rfl (Nat.le_of_ble_eq_true rfl) rfl fun hcl hbl => ?_
  (repeat' ((conv => whnf); (first | (refine IfN.id ?_; first | refine IfN.not ?_ | refine IfN.tt rfl ?_ | refine IfN.ff rfl ?_ | fail) | (refine EqN.id ?_; first | (refine EqN.addN _ _ (by first | with_reducible rfl | with_reducible exact cst1 | with_reducible exact cst0 | with_reducible exact cst2 | with_reducible exact cst3 | with_reducible exact cst4 | with_reducible exact cst5 | with_reducible exact cst6 | with_reducible exact cst7 | with_reducible exact cst8 | with_reducible exact cst14 | with_reducible exact cst15 | with_reducible exact cst25 | with_reducible exact cst30 | with_reducible exact cst31 | fail) (by first | with_reducible rfl | with_reducible exact cst1 | with_reducible exact cst0 | with_reducible exact cst2 | with_reducible exact cst3 | with_reducible exact cst4 | with_reducible exact cst5 | with_reducible exact cst6 | with_reducible exact cst7 | with_reducible exact cst8 | with_reducible exact cst14 | with_reducible exact cst15 | with_reducible exact cst25 | with_reducible exact cst30 | with_reducible exact cst31 | fail) ?_ ?_; · (repeat' (first | omega | refine And.intro ?_ ?_ | exact bnd_andl (by omega) | exact bnd_andr (by omega) | refine bnd_or ?_ ?_ | refine bnd_or31 ?_ ?_ | refine bnd_xor ?_ ?_ | refine bnd_xor31 ?_ ?_ | refine bnd_shr ?_ | refine bnd_shl ?_ ?_ | refine bnd_mod ?_ | refine bnd_andl ?_ | fail))) | refine EqN.remN _ _ (by first | with_reducible rfl | with_reducible exact cst1 | with_reducible exact cst0 | with_reducible exact cst2 | with_reducible exact cst3 | with_reducible exact cst4 | with_reducible exact cst5 | with_reducible exact cst6 | with_reducible exact cst7 | with_reducible exact cst8 | with_reducible exact cst14 | with_reducible exact cst15 | with_reducible exact cst25 | with_reducible exact cst30 | with_reducible exact cst31 | fail) (by first | with_reducible rfl | with_reducible exact cst1 | with_reducible exact cst0 | with_reducible exact cst2 | with_reducible exact cst3 | with_reducible exact cst4 | with_reducible exact cst5 | with_reducible exact cst6 | with_reducible exact cst7 | with_reducible exact cst8 | with_reducible exact cst14 | with_reducible exact cst15 | with_reducible exact cst25 | with_reducible exact cst30 | with_reducible exact cst31 | fail) ?_ | fail) | (refine SideN.mk ?_ ?_; · first | kernel_rfl | omega | exact List.cons_ne_nil _ _ | (simp; done) | (simp; omega) | exact trivial | assumption | fail) | (refine CallN.id ?_; first | refine CallN.det _ (named0_c _) ?_ | refine CallN.det _ (terms_c _ _ _) ?_ | fail) | refine CallN.setB i _ _ _ _ hi rfl rfl (hn _) rfl ?_ | refine SegN.mk _ (seg_rfl rfl) ?_ | refine DrawN.mk' [] ?_ | fail))); all_goals (conv => whnf)
  refine LoopN.rounds Tryd.E0 Tryd.mx 3 (by simp) ?_
  (repeat' ((conv => whnf); (first | (refine IfN.id ?_; first | refine IfN.not ?_ | refine IfN.tt rfl ?_ | refine IfN.ff rfl ?_ | fail) | (refine EqN.id ?_; first | (refine EqN.addN _ _ (by first | with_reducible rfl | with_reducible exact cst1 | with_reducible exact cst0 | with_reducible exact cst2 | with_reducible exact cst3 | with_reducible exact cst4 | with_reducible exact cst5 | with_reducible exact cst6 | with_reducible exact cst7 | with_reducible exact cst8 | with_reducible exact cst14 | with_reducible exact cst15 | with_reducible exact cst25 | with_reducible exact cst30 | with_reducible exact cst31 | fail) (by first | with_reducible rfl | with_reducible exact cst1 | with_reducible exact cst0 | with_reducible exact cst2 | with_reducible exact cst3 | with_reducible exact cst4 | with_reducible exact cst5 | with_reducible exact cst6 | with_reducible exact cst7 | with_reducible exact cst8 | with_reducible exact cst14 | with_reducible exact cst15 | with_reducible exact cst25 | with_reducible exact cst30 | with_reducible exact cst31 | fail) ?_ ?_; · (repeat' (first | omega | refine And.intro ?_ ?_ | exact bnd_andl (by omega) | exact bnd_andr (by omega) | refine bnd_or ?_ ?_ | refine bnd_or31 ?_ ?_ | refine bnd_xor ?_ ?_ | refine bnd_xor31 ?_ ?_ | refine bnd_shr ?_ | refine bnd_shl ?_ ?_ | refine bnd_mod ?_ | refine bnd_andl ?_ | fail))) | fail) | (refine SideN.mk ?_ ?_; · first | kernel_rfl | omega | exact List.cons_ne_nil _ _ | (simp; done) | (simp; omega) | exact trivial | assumption | fail) | refine CallN.setB i _ _ _ _ (at_set hi) (by simp) rfl (h1 _) (List.set_set ..) ?_ | refine CallN.setB i _ _ _ _ (at_set hi) (by simp) rfl (h2 _) (List.set_set ..) ?_ | refine SegN.mk _ (seg_rfl rfl) ?_ | refine DrawN.mk' [] ?_ | fail))); all_goals (conv => whnf)
  exact EndN.setB (by simp [Blk.below, belowL, below]) trivial (Wk.refl _)
theorem form_f2_5 (a b : Fm) (iha : FormIH a) (ihb : FormIH b) (H : Heap) (i L d : Nat) (hi : H[i]? = some (jb L)) (hL : a.nodes + b.nodes + 1 ≤ L ∧ L ≤ 400) (hd : d + (max a.depth b.depth + 1) ≤ 41) : VCall Tryd.prog 51 [.ptr i 0, .agg (Fm.f2 5 a b).cells, .int .i64 d] H (setR H i (jb (L - (a.nodes + b.nodes + 1))) (.bool true)) := by
  have hp := a.nodes_pos
  have hpd := a.depth_pos
  have hp2 := b.nodes_pos
  have hpd2 := b.depth_pos
  have hn := fun X => node_c (H ++ X) i L d (at_base' hi) (by omega) (by omega)
  have h1 := fun X => iha (H.set i (jb (L - 1)) ++ X) i (L - 1) (d + 1) (at_base' (at_set hi)) (by omega) (by omega)
  have h2 := fun X => ihb (H.set i (jb (L - 1 - a.nodes)) ++ X) i (L - 1 - a.nodes) (d + 1) (at_base' (at_set hi)) (by omega) (by omega)
  rw [show L - 1 - a.nodes - b.nodes = L - (a.nodes + b.nodes + 1) by omega] at h2
  unfold jb at hi hn h1 h2 ⊢
  rw [show (Fm.f2 5 a b).cells = [.int .u8 (5 : Nat), .str .empty, .sl none 0 [], .sl none 2 [.int .u8 a.op, .str a.nmB, .sl none 0 [], .sl none a.sn a.sc, .int .u8 b.op, .str b.nmB, .sl none 0 [], .sl none b.sn b.sc]] from rfl]
  unfold Fm.cells at h1 h2
  generalize a.op = ao at h1 ⊢
  generalize a.nmB = an at h1 ⊢
  generalize a.sn = asn at h1 ⊢
  generalize a.sc = asc at h1 ⊢
  generalize b.op = bo at h2 ⊢
  generalize b.nmB = bn at h2 ⊢
  generalize b.sn = bsn at h2 ⊢
  generalize b.sc = bsc at h2 ⊢
  refine fn_gen Tryd.E0 Tryd.mx Tryd.func51 (by kernel_rfl) rfl (Nat.le_of_ble_eq_true rfl) rfl fun hcl hbl => ?_
  (repeat' ((conv => whnf); (first | (refine IfN.id ?_; first | refine IfN.not ?_ | refine IfN.tt rfl ?_ | refine IfN.ff rfl ?_ | fail) | (refine EqN.id ?_; first | (refine EqN.addN _ _ (by first | with_reducible rfl | with_reducible exact cst1 | with_reducible exact cst0 | with_reducible exact cst2 | with_reducible exact cst3 | with_reducible exact cst4 | with_reducible exact cst5 | with_reducible exact cst6 | with_reducible exact cst7 | with_reducible exact cst8 | with_reducible exact cst14 | with_reducible exact cst15 | with_reducible exact cst25 | with_reducible exact cst30 | with_reducible exact cst31 | fail) (by first | with_reducible rfl | with_reducible exact cst1 | with_reducible exact cst0 | with_reducible exact cst2 | with_reducible exact cst3 | with_reducible exact cst4 | with_reducible exact cst5 | with_reducible exact cst6 | with_reducible exact cst7 | with_reducible exact cst8 | with_reducible exact cst14 | with_reducible exact cst15 | with_reducible exact cst25 | with_reducible exact cst30 | with_reducible exact cst31 | fail) ?_ ?_; · (repeat' (first | omega | refine And.intro ?_ ?_ | exact bnd_andl (by omega) | exact bnd_andr (by omega) | refine bnd_or ?_ ?_ | refine bnd_or31 ?_ ?_ | refine bnd_xor ?_ ?_ | refine bnd_xor31 ?_ ?_ | refine bnd_shr ?_ | refine bnd_shl ?_ ?_ | refine bnd_mod ?_ | refine bnd_andl ?_ | fail))) | refine EqN.remN _ _ (by first | with_reducible rfl | with_reducible exact cst1 | with_reducible exact cst0 | with_reducible exact cst2 | with_reducible exact cst3 | with_reducible exact cst4 | with_reducible exact cst5 | with_reducible exact cst6 | with_reducible exact cst7 | with_reducible exact cst8 | with_reducible exact cst14 | with_reducible exact cst15 | with_reducible exact cst25 | with_reducible exact cst30 | with_reducible exact cst31 | fail) (by first | with_reducible rfl | with_reducible exact cst1 | with_reducible exact cst0 | with_reducible exact cst2 | with_reducible exact cst3 | with_reducible exact cst4 | with_reducible exact cst5 | with_reducible exact cst6 | with_reducible exact cst7 | with_reducible exact cst8 | with_reducible exact cst14 | with_reducible exact cst15 | with_reducible exact cst25 | with_reducible exact cst30 | with_reducible exact cst31 | fail) ?_ | fail) | (refine SideN.mk ?_ ?_; · first | kernel_rfl | omega | exact List.cons_ne_nil _ _ | (simp; done) | (simp; omega) | exact trivial | assumption | fail) | (refine CallN.id ?_; first | refine CallN.det _ (named0_c _) ?_ | refine CallN.det _ (terms_c _ _ _) ?_ | fail) | refine CallN.setB i _ _ _ _ hi rfl rfl (hn _) rfl ?_ | refine SegN.mk _ (seg_rfl rfl) ?_ | refine DrawN.mk' [] ?_ | fail))); all_goals (conv => whnf)
  refine LoopN.rounds Tryd.E0 Tryd.mx 3 (by simp) ?_
  (repeat' ((conv => whnf); (first | (refine IfN.id ?_; first | refine IfN.not ?_ | refine IfN.tt rfl ?_ | refine IfN.ff rfl ?_ | fail) | (refine EqN.id ?_; first | (refine EqN.addN _ _ (by first | with_reducible rfl | with_reducible exact cst1 | with_reducible exact cst0 | with_reducible exact cst2 | with_reducible exact cst3 | with_reducible exact cst4 | with_reducible exact cst5 | with_reducible exact cst6 | with_reducible exact cst7 | with_reducible exact cst8 | with_reducible exact cst14 | with_reducible exact cst15 | with_reducible exact cst25 | with_reducible exact cst30 | with_reducible exact cst31 | fail) (by first | with_reducible rfl | with_reducible exact cst1 | with_reducible exact cst0 | with_reducible exact cst2 | with_reducible exact cst3 | with_reducible exact cst4 | with_reducible exact cst5 | with_reducible exact cst6 | with_reducible exact cst7 | with_reducible exact cst8 | with_reducible exact cst14 | with_reducible exact cst15 | with_reducible exact cst25 | with_reducible exact cst30 | with_reducible exact cst31 | fail) ?_ ?_; · (repeat' (first | omega | refine And.intro ?_ ?_ | exact bnd_andl (by omega) | exact bnd_andr (by omega) | refine bnd_or ?_ ?_ | refine bnd_or31 ?_ ?_ | refine bnd_xor ?_ ?_ | refine bnd_xor31 ?_ ?_ | refine bnd_shr ?_ | refine bnd_shl ?_ ?_ | refine bnd_mod ?_ | refine bnd_andl ?_ | fail))) | fail) | (refine SideN.mk ?_ ?_; · first | kernel_rfl | omega | exact List.cons_ne_nil _ _ | (simp; done) | (simp; omega) | exact trivial | assumption | fail) | refine CallN.setB i _ _ _ _ (at_set hi) (by simp) rfl (h1 _) (List.set_set ..) ?_ | refine CallN.setB i _ _ _ _ (at_set hi) (by simp) rfl (h2 _) (List.set_set ..) ?_ | refine SegN.mk _ (seg_rfl rfl) ?_ | refine DrawN.mk' [] ?_ | fail))); all_goals (conv => whnf)
  exact EndN.setB (by simp [Blk.below, belowL, below]) trivial (Wk.refl _)
theorem form_f2_6 (a b : Fm) (iha : FormIH a) (ihb : FormIH b) (H : Heap) (i L d : Nat) (hi : H[i]? = some (jb L)) (hL : a.nodes + b.nodes + 1 ≤ L ∧ L ≤ 400) (hd : d + (max a.depth b.depth + 1) ≤ 41) : VCall Tryd.prog 51 [.ptr i 0, .agg (Fm.f2 6 a b).cells, .int .i64 d] H (setR H i (jb (L - (a.nodes + b.nodes + 1))) (.bool true)) := by
  have hp := a.nodes_pos
  have hpd := a.depth_pos
  have hp2 := b.nodes_pos
  have hpd2 := b.depth_pos
  have hn := fun X => node_c (H ++ X) i L d (at_base' hi) (by omega) (by omega)
  have h1 := fun X => iha (H.set i (jb (L - 1)) ++ X) i (L - 1) (d + 1) (at_base' (at_set hi)) (by omega) (by omega)
  have h2 := fun X => ihb (H.set i (jb (L - 1 - a.nodes)) ++ X) i (L - 1 - a.nodes) (d + 1) (at_base' (at_set hi)) (by omega) (by omega)
  rw [show L - 1 - a.nodes - b.nodes = L - (a.nodes + b.nodes + 1) by omega] at h2
  unfold jb at hi hn h1 h2 ⊢
  rw [show (Fm.f2 6 a b).cells = [.int .u8 (6 : Nat), .str .empty, .sl none 0 [], .sl none 2 [.int .u8 a.op, .str a.nmB, .sl none 0 [], .sl none a.sn a.sc, .int .u8 b.op, .str b.nmB, .sl none 0 [], .sl none b.sn b.sc]] from rfl]
  unfold Fm.cells at h1 h2
  generalize a.op = ao at h1 ⊢
  generalize a.nmB = an at h1 ⊢
  generalize a.sn = asn at h1 ⊢
  generalize a.sc = asc at h1 ⊢
  generalize b.op = bo at h2 ⊢
  generalize b.nmB = bn at h2 ⊢
  generalize b.sn = bsn at h2 ⊢
  generalize b.sc = bsc at h2 ⊢
  refine fn_gen Tryd.E0 Tryd.mx Tryd.func51 (by kernel_rfl) rfl (Nat.le_of_ble_eq_true rfl) rfl fun hcl hbl => ?_
  (repeat' ((conv => whnf); (first | (refine IfN.id ?_; first | refine IfN.not ?_ | refine IfN.tt rfl ?_ | refine IfN.ff rfl ?_ | fail) | (refine EqN.id ?_; first | (refine EqN.addN _ _ (by first | with_reducible rfl | with_reducible exact cst1 | with_reducible exact cst0 | with_reducible exact cst2 | with_reducible exact cst3 | with_reducible exact cst4 | with_reducible exact cst5 | with_reducible exact cst6 | with_reducible exact cst7 | with_reducible exact cst8 | with_reducible exact cst14 | with_reducible exact cst15 | with_reducible exact cst25 | with_reducible exact cst30 | with_reducible exact cst31 | fail) (by first | with_reducible rfl | with_reducible exact cst1 | with_reducible exact cst0 | with_reducible exact cst2 | with_reducible exact cst3 | with_reducible exact cst4 | with_reducible exact cst5 | with_reducible exact cst6 | with_reducible exact cst7 | with_reducible exact cst8 | with_reducible exact cst14 | with_reducible exact cst15 | with_reducible exact cst25 | with_reducible exact cst30 | with_reducible exact cst31 | fail) ?_ ?_; · (repeat' (first | omega | refine And.intro ?_ ?_ | exact bnd_andl (by omega) | exact bnd_andr (by omega) | refine bnd_or ?_ ?_ | refine bnd_or31 ?_ ?_ | refine bnd_xor ?_ ?_ | refine bnd_xor31 ?_ ?_ | refine bnd_shr ?_ | refine bnd_shl ?_ ?_ | refine bnd_mod ?_ | refine bnd_andl ?_ | fail))) | refine EqN.remN _ _ (by first | with_reducible rfl | with_reducible exact cst1 | with_reducible exact cst0 | with_reducible exact cst2 | with_reducible exact cst3 | with_reducible exact cst4 | with_reducible exact cst5 | with_reducible exact cst6 | with_reducible exact cst7 | with_reducible exact cst8 | with_reducible exact cst14 | with_reducible exact cst15 | with_reducible exact cst25 | with_reducible exact cst30 | with_reducible exact cst31 | fail) (by first | with_reducible rfl | with_reducible exact cst1 | with_reducible exact cst0 | with_reducible exact cst2 | with_reducible exact cst3 | with_reducible exact cst4 | with_reducible exact cst5 | with_reducible exact cst6 | with_reducible exact cst7 | with_reducible exact cst8 | with_reducible exact cst14 | with_reducible exact cst15 | with_reducible exact cst25 | with_reducible exact cst30 | with_reducible exact cst31 | fail) ?_ | fail) | (refine SideN.mk ?_ ?_; · first | kernel_rfl | omega | exact List.cons_ne_nil _ _ | (simp; done) | (simp; omega) | exact trivial | assumption | fail) | (refine CallN.id ?_; first | refine CallN.det _ (named0_c _) ?_ | refine CallN.det _ (terms_c _ _ _) ?_ | fail) | refine CallN.setB i _ _ _ _ hi rfl rfl (hn _) rfl ?_ | refine SegN.mk _ (seg_rfl rfl) ?_ | refine DrawN.mk' [] ?_ | fail))); all_goals (conv => whnf)
  refine LoopN.rounds Tryd.E0 Tryd.mx 3 (by simp) ?_
  (repeat' ((conv => whnf); (first | (refine IfN.id ?_; first | refine IfN.not ?_ | refine IfN.tt rfl ?_ | refine IfN.ff rfl ?_ | fail) | (refine EqN.id ?_; first | (refine EqN.addN _ _ (by first | with_reducible rfl | with_reducible exact cst1 | with_reducible exact cst0 | with_reducible exact cst2 | with_reducible exact cst3 | with_reducible exact cst4 | with_reducible exact cst5 | with_reducible exact cst6 | with_reducible exact cst7 | with_reducible exact cst8 | with_reducible exact cst14 | with_reducible exact cst15 | with_reducible exact cst25 | with_reducible exact cst30 | with_reducible exact cst31 | fail) (by first | with_reducible rfl | with_reducible exact cst1 | with_reducible exact cst0 | with_reducible exact cst2 | with_reducible exact cst3 | with_reducible exact cst4 | with_reducible exact cst5 | with_reducible exact cst6 | with_reducible exact cst7 | with_reducible exact cst8 | with_reducible exact cst14 | with_reducible exact cst15 | with_reducible exact cst25 | with_reducible exact cst30 | with_reducible exact cst31 | fail) ?_ ?_; · (repeat' (first | omega | refine And.intro ?_ ?_ | exact bnd_andl (by omega) | exact bnd_andr (by omega) | refine bnd_or ?_ ?_ | refine bnd_or31 ?_ ?_ | refine bnd_xor ?_ ?_ | refine bnd_xor31 ?_ ?_ | refine bnd_shr ?_ | refine bnd_shl ?_ ?_ | refine bnd_mod ?_ | refine bnd_andl ?_ | fail))) | fail) | (refine SideN.mk ?_ ?_; · first | kernel_rfl | omega | exact List.cons_ne_nil _ _ | (simp; done) | (simp; omega) | exact trivial | assumption | fail) | refine CallN.setB i _ _ _ _ (at_set hi) (by simp) rfl (h1 _) (List.set_set ..) ?_ | refine CallN.setB i _ _ _ _ (at_set hi) (by simp) rfl (h2 _) (List.set_set ..) ?_ | refine SegN.mk _ (seg_rfl rfl) ?_ | refine DrawN.mk' [] ?_ | fail))); all_goals (conv => whnf)
  exact EndN.setB (by simp [Blk.below, belowL, below]) trivial (Wk.refl _)
theorem form_f2_7 (a b : Fm) (iha : FormIH a) (ihb : FormIH b) (H : Heap) (i L d : Nat) (hi : H[i]? = some (jb L)) (hL : a.nodes + b.nodes + 1 ≤ L ∧ L ≤ 400) (hd : d + (max a.depth b.depth + 1) ≤ 41) : VCall Tryd.prog 51 [.ptr i 0, .agg (Fm.f2 7 a b).cells, .int .i64 d] H (setR H i (jb (L - (a.nodes + b.nodes + 1))) (.bool true)) := by
  have hp := a.nodes_pos
  have hpd := a.depth_pos
  have hp2 := b.nodes_pos
  have hpd2 := b.depth_pos
  have hn := fun X => node_c (H ++ X) i L d (at_base' hi) (by omega) (by omega)
  have h1 := fun X => iha (H.set i (jb (L - 1)) ++ X) i (L - 1) (d + 1) (at_base' (at_set hi)) (by omega) (by omega)
  have h2 := fun X => ihb (H.set i (jb (L - 1 - a.nodes)) ++ X) i (L - 1 - a.nodes) (d + 1) (at_base' (at_set hi)) (by omega) (by omega)
  rw [show L - 1 - a.nodes - b.nodes = L - (a.nodes + b.nodes + 1) by omega] at h2
  unfold jb at hi hn h1 h2 ⊢
  rw [show (Fm.f2 7 a b).cells = [.int .u8 (7 : Nat), .str .empty, .sl none 0 [], .sl none 2 [.int .u8 a.op, .str a.nmB, .sl none 0 [], .sl none a.sn a.sc, .int .u8 b.op, .str b.nmB, .sl none 0 [], .sl none b.sn b.sc]] from rfl]
  unfold Fm.cells at h1 h2
  generalize a.op = ao at h1 ⊢
  generalize a.nmB = an at h1 ⊢
  generalize a.sn = asn at h1 ⊢
  generalize a.sc = asc at h1 ⊢
  generalize b.op = bo at h2 ⊢
  generalize b.nmB = bn at h2 ⊢
  generalize b.sn = bsn at h2 ⊢
  generalize b.sc = bsc at h2 ⊢
  refine fn_gen Tryd.E0 Tryd.mx Tryd.func51 (by kernel_rfl) rfl (Nat.le_of_ble_eq_true rfl) rfl fun hcl hbl => ?_
  (repeat' ((conv => whnf); (first | (refine IfN.id ?_; first | refine IfN.not ?_ | refine IfN.tt rfl ?_ | refine IfN.ff rfl ?_ | fail) | (refine EqN.id ?_; first | (refine EqN.addN _ _ (by first | with_reducible rfl | with_reducible exact cst1 | with_reducible exact cst0 | with_reducible exact cst2 | with_reducible exact cst3 | with_reducible exact cst4 | with_reducible exact cst5 | with_reducible exact cst6 | with_reducible exact cst7 | with_reducible exact cst8 | with_reducible exact cst14 | with_reducible exact cst15 | with_reducible exact cst25 | with_reducible exact cst30 | with_reducible exact cst31 | fail) (by first | with_reducible rfl | with_reducible exact cst1 | with_reducible exact cst0 | with_reducible exact cst2 | with_reducible exact cst3 | with_reducible exact cst4 | with_reducible exact cst5 | with_reducible exact cst6 | with_reducible exact cst7 | with_reducible exact cst8 | with_reducible exact cst14 | with_reducible exact cst15 | with_reducible exact cst25 | with_reducible exact cst30 | with_reducible exact cst31 | fail) ?_ ?_; · (repeat' (first | omega | refine And.intro ?_ ?_ | exact bnd_andl (by omega) | exact bnd_andr (by omega) | refine bnd_or ?_ ?_ | refine bnd_or31 ?_ ?_ | refine bnd_xor ?_ ?_ | refine bnd_xor31 ?_ ?_ | refine bnd_shr ?_ | refine bnd_shl ?_ ?_ | refine bnd_mod ?_ | refine bnd_andl ?_ | fail))) | refine EqN.remN _ _ (by first | with_reducible rfl | with_reducible exact cst1 | with_reducible exact cst0 | with_reducible exact cst2 | with_reducible exact cst3 | with_reducible exact cst4 | with_reducible exact cst5 | with_reducible exact cst6 | with_reducible exact cst7 | with_reducible exact cst8 | with_reducible exact cst14 | with_reducible exact cst15 | with_reducible exact cst25 | with_reducible exact cst30 | with_reducible exact cst31 | fail) (by first | with_reducible rfl | with_reducible exact cst1 | with_reducible exact cst0 | with_reducible exact cst2 | with_reducible exact cst3 | with_reducible exact cst4 | with_reducible exact cst5 | with_reducible exact cst6 | with_reducible exact cst7 | with_reducible exact cst8 | with_reducible exact cst14 | with_reducible exact cst15 | with_reducible exact cst25 | with_reducible exact cst30 | with_reducible exact cst31 | fail) ?_ | fail) | (refine SideN.mk ?_ ?_; · first | kernel_rfl | omega | exact List.cons_ne_nil _ _ | (simp; done) | (simp; omega) | exact trivial | assumption | fail) | (refine CallN.id ?_; first | refine CallN.det _ (named0_c _) ?_ | refine CallN.det _ (terms_c _ _ _) ?_ | fail) | refine CallN.setB i _ _ _ _ hi rfl rfl (hn _) rfl ?_ | refine SegN.mk _ (seg_rfl rfl) ?_ | refine DrawN.mk' [] ?_ | fail))); all_goals (conv => whnf)
  refine LoopN.rounds Tryd.E0 Tryd.mx 3 (by simp) ?_
  (repeat' ((conv => whnf); (first | (refine IfN.id ?_; first | refine IfN.not ?_ | refine IfN.tt rfl ?_ | refine IfN.ff rfl ?_ | fail) | (refine EqN.id ?_; first | (refine EqN.addN _ _ (by first | with_reducible rfl | with_reducible exact cst1 | with_reducible exact cst0 | with_reducible exact cst2 | with_reducible exact cst3 | with_reducible exact cst4 | with_reducible exact cst5 | with_reducible exact cst6 | with_reducible exact cst7 | with_reducible exact cst8 | with_reducible exact cst14 | with_reducible exact cst15 | with_reducible exact cst25 | with_reducible exact cst30 | with_reducible exact cst31 | fail) (by first | with_reducible rfl | with_reducible exact cst1 | with_reducible exact cst0 | with_reducible exact cst2 | with_reducible exact cst3 | with_reducible exact cst4 | with_reducible exact cst5 | with_reducible exact cst6 | with_reducible exact cst7 | with_reducible exact cst8 | with_reducible exact cst14 | with_reducible exact cst15 | with_reducible exact cst25 | with_reducible exact cst30 | with_reducible exact cst31 | fail) ?_ ?_; · (repeat' (first | omega | refine And.intro ?_ ?_ | exact bnd_andl (by omega) | exact bnd_andr (by omega) | refine bnd_or ?_ ?_ | refine bnd_or31 ?_ ?_ | refine bnd_xor ?_ ?_ | refine bnd_xor31 ?_ ?_ | refine bnd_shr ?_ | refine bnd_shl ?_ ?_ | refine bnd_mod ?_ | refine bnd_andl ?_ | fail))) | fail) | (refine SideN.mk ?_ ?_; · first | kernel_rfl | omega | exact List.cons_ne_nil _ _ | (simp; done) | (simp; omega) | exact trivial | assumption | fail) | refine CallN.setB i _ _ _ _ (at_set hi) (by simp) rfl (h1 _) (List.set_set ..) ?_ | refine CallN.setB i _ _ _ _ (at_set hi) (by simp) rfl (h2 _) (List.set_set ..) ?_ | refine SegN.mk _ (seg_rfl rfl) ?_ | refine DrawN.mk' [] ?_ | fail))); all_goals (conv => whnf)
  exact EndN.setB (by simp [Blk.below, belowL, below]) trivial (Wk.refl _)
theorem form_f2_14 (a b : Fm) (iha : FormIH a) (ihb : FormIH b) (H : Heap) (i L d : Nat) (hi : H[i]? = some (jb L)) (hL : a.nodes + b.nodes + 1 ≤ L ∧ L ≤ 400) (hd : d + (max a.depth b.depth + 1) ≤ 41) : VCall Tryd.prog 51 [.ptr i 0, .agg (Fm.f2 14 a b).cells, .int .i64 d] H (setR H i (jb (L - (a.nodes + b.nodes + 1))) (.bool true)) := by
  have hp := a.nodes_pos
  have hpd := a.depth_pos
  have hp2 := b.nodes_pos
  have hpd2 := b.depth_pos
  have hn := fun X => node_c (H ++ X) i L d (at_base' hi) (by omega) (by omega)
  have h1 := fun X => iha (H.set i (jb (L - 1)) ++ X) i (L - 1) (d + 1) (at_base' (at_set hi)) (by omega) (by omega)
  have h2 := fun X => ihb (H.set i (jb (L - 1 - a.nodes)) ++ X) i (L - 1 - a.nodes) (d + 1) (at_base' (at_set hi)) (by omega) (by omega)
  rw [show L - 1 - a.nodes - b.nodes = L - (a.nodes + b.nodes + 1) by omega] at h2
  unfold jb at hi hn h1 h2 ⊢
  rw [show (Fm.f2 14 a b).cells = [.int .u8 (14 : Nat), .str .empty, .sl none 0 [], .sl none 2 [.int .u8 a.op, .str a.nmB, .sl none 0 [], .sl none a.sn a.sc, .int .u8 b.op, .str b.nmB, .sl none 0 [], .sl none b.sn b.sc]] from rfl]
  unfold Fm.cells at h1 h2
  generalize a.op = ao at h1 ⊢
  generalize a.nmB = an at h1 ⊢
  generalize a.sn = asn at h1 ⊢
  generalize a.sc = asc at h1 ⊢
  generalize b.op = bo at h2 ⊢
  generalize b.nmB = bn at h2 ⊢
  generalize b.sn = bsn at h2 ⊢
  generalize b.sc = bsc at h2 ⊢
  refine fn_gen Tryd.E0 Tryd.mx Tryd.func51 (by kernel_rfl) rfl (Nat.le_of_ble_eq_true rfl) rfl fun hcl hbl => ?_
  (repeat' ((conv => whnf); (first | (refine IfN.id ?_; first | refine IfN.not ?_ | refine IfN.tt rfl ?_ | refine IfN.ff rfl ?_ | fail) | (refine EqN.id ?_; first | (refine EqN.addN _ _ (by first | with_reducible rfl | with_reducible exact cst1 | with_reducible exact cst0 | with_reducible exact cst2 | with_reducible exact cst3 | with_reducible exact cst4 | with_reducible exact cst5 | with_reducible exact cst6 | with_reducible exact cst7 | with_reducible exact cst8 | with_reducible exact cst14 | with_reducible exact cst15 | with_reducible exact cst25 | with_reducible exact cst30 | with_reducible exact cst31 | fail) (by first | with_reducible rfl | with_reducible exact cst1 | with_reducible exact cst0 | with_reducible exact cst2 | with_reducible exact cst3 | with_reducible exact cst4 | with_reducible exact cst5 | with_reducible exact cst6 | with_reducible exact cst7 | with_reducible exact cst8 | with_reducible exact cst14 | with_reducible exact cst15 | with_reducible exact cst25 | with_reducible exact cst30 | with_reducible exact cst31 | fail) ?_ ?_; · (repeat' (first | omega | refine And.intro ?_ ?_ | exact bnd_andl (by omega) | exact bnd_andr (by omega) | refine bnd_or ?_ ?_ | refine bnd_or31 ?_ ?_ | refine bnd_xor ?_ ?_ | refine bnd_xor31 ?_ ?_ | refine bnd_shr ?_ | refine bnd_shl ?_ ?_ | refine bnd_mod ?_ | refine bnd_andl ?_ | fail))) | refine EqN.remN _ _ (by first | with_reducible rfl | with_reducible exact cst1 | with_reducible exact cst0 | with_reducible exact cst2 | with_reducible exact cst3 | with_reducible exact cst4 | with_reducible exact cst5 | with_reducible exact cst6 | with_reducible exact cst7 | with_reducible exact cst8 | with_reducible exact cst14 | with_reducible exact cst15 | with_reducible exact cst25 | with_reducible exact cst30 | with_reducible exact cst31 | fail) (by first | with_reducible rfl | with_reducible exact cst1 | with_reducible exact cst0 | with_reducible exact cst2 | with_reducible exact cst3 | with_reducible exact cst4 | with_reducible exact cst5 | with_reducible exact cst6 | with_reducible exact cst7 | with_reducible exact cst8 | with_reducible exact cst14 | with_reducible exact cst15 | with_reducible exact cst25 | with_reducible exact cst30 | with_reducible exact cst31 | fail) ?_ | fail) | (refine SideN.mk ?_ ?_; · first | kernel_rfl | omega | exact List.cons_ne_nil _ _ | (simp; done) | (simp; omega) | exact trivial | assumption | fail) | (refine CallN.id ?_; first | refine CallN.det _ (named0_c _) ?_ | refine CallN.det _ (terms_c _ _ _) ?_ | fail) | refine CallN.setB i _ _ _ _ hi rfl rfl (hn _) rfl ?_ | refine SegN.mk _ (seg_rfl rfl) ?_ | refine DrawN.mk' [] ?_ | fail))); all_goals (conv => whnf)
  refine LoopN.rounds Tryd.E0 Tryd.mx 3 (by simp) ?_
  (repeat' ((conv => whnf); (first | (refine IfN.id ?_; first | refine IfN.not ?_ | refine IfN.tt rfl ?_ | refine IfN.ff rfl ?_ | fail) | (refine EqN.id ?_; first | (refine EqN.addN _ _ (by first | with_reducible rfl | with_reducible exact cst1 | with_reducible exact cst0 | with_reducible exact cst2 | with_reducible exact cst3 | with_reducible exact cst4 | with_reducible exact cst5 | with_reducible exact cst6 | with_reducible exact cst7 | with_reducible exact cst8 | with_reducible exact cst14 | with_reducible exact cst15 | with_reducible exact cst25 | with_reducible exact cst30 | with_reducible exact cst31 | fail) (by first | with_reducible rfl | with_reducible exact cst1 | with_reducible exact cst0 | with_reducible exact cst2 | with_reducible exact cst3 | with_reducible exact cst4 | with_reducible exact cst5 | with_reducible exact cst6 | with_reducible exact cst7 | with_reducible exact cst8 | with_reducible exact cst14 | with_reducible exact cst15 | with_reducible exact cst25 | with_reducible exact cst30 | with_reducible exact cst31 | fail) ?_ ?_; · (repeat' (first | omega | refine And.intro ?_ ?_ | exact bnd_andl (by omega) | exact bnd_andr (by omega) | refine bnd_or ?_ ?_ | refine bnd_or31 ?_ ?_ | refine bnd_xor ?_ ?_ | refine bnd_xor31 ?_ ?_ | refine bnd_shr ?_ | refine bnd_shl ?_ ?_ | refine bnd_mod ?_ | refine bnd_andl ?_ | fail))) | fail) | (refine SideN.mk ?_ ?_; · first | kernel_rfl | omega | exact List.cons_ne_nil _ _ | (simp; done) | (simp; omega) | exact trivial | assumption | fail) | refine CallN.setB i _ _ _ _ (at_set hi) (by simp) rfl (h1 _) (List.set_set ..) ?_ | refine CallN.setB i _ _ _ _ (at_set hi) (by simp) rfl (h2 _) (List.set_set ..) ?_ | refine SegN.mk _ (seg_rfl rfl) ?_ | refine DrawN.mk' [] ?_ | fail))); all_goals (conv => whnf)
  exact EndN.setB (by simp [Blk.below, belowL, below]) trivial (Wk.refl _)
theorem form_c : ∀ f : Fm, f.Ok → FormIH f
  | .at c, h => fun H i L d hi hL hd => form_at c h H i L d hi hL (by simp only [Fm.depth] at hd; omega)
  | .fa, _ => fun H i L d hi hL hd => form_fa H i L d hi hL (by simp only [Fm.depth] at hd; omega)
  | .f1 k a, h => by
    have ih := form_c a h.2
    rcases h.1 with rfl | rfl | rfl | rfl | rfl
    · exact form_f1_3 a ih
    · exact form_f1_10 a ih
    · exact form_f1_11 a ih
    · exact form_f1_12 a ih
    · exact form_f1_13 a ih
  | .f2 k a b, h => by
    have iha := form_c a h.2.1
    have ihb := form_c b h.2.2
    rcases h.1 with rfl | rfl | rfl | rfl | rfl
    · exact form_f2_4 a b iha ihb
    · exact form_f2_5 a b iha ihb
    · exact form_f2_6 a b iha ihb
    · exact form_f2_7 a b iha ihb
    · exact form_f2_14 a b iha ihb
theorem synRight_c (f : Fm) (hf : f.Ok) (hn : f.Small) (H : Heap) : VDet Tryd.prog 41 [.agg f.cells] H (.bool true) := by
  have h1 := form_c f hf (H ++ [.box 28 f.cells, jb 400]) (H.length + 1) 400 1 (at_loc0 rfl) ⟨hn.1, Nat.le_refl _⟩ (by have := hn.2; omega)
  unfold jb at h1
  unfold Fm.cells at h1 ⊢
  refine fn_det Tryd.E0 Tryd.mx Tryd.func41 (by kernel_rfl) rfl (Nat.le_of_ble_eq_true rfl) rfl fun hcl hbl => ?_
  (repeat' ((conv => whnf); (first | refine CallN.setL 1 _ _ _ rfl rfl h1 rfl ?_ | refine DrawN.mk' [] ?_ | fail))); all_goals (conv => whnf)
  exact EndN.det trivial (Wk.refl _)
end Go.Proofs.YtekhodpmpjehaaaDoor
/-! text L10 -/
namespace Go.Proofs.YtekhodpmpjehaaaDoor
open Go.Vsi
set_option maxHeartbeats 1000000
attribute [local irreducible] VW VCall VO bits

/-! ### formulas of the laws -/
theorem atom_c (c : UInt8) (H : Heap) : VDet Tryd.prog 22 [.str (nm c)] H (.agg (Fm.at c).cells) := by
  unfold Fm.cells
  simp only [Fm.op, Fm.nmB, Fm.sn, Fm.sc]
  refine fn_det Tryd.E0 Tryd.mx Tryd.func22 (by kernel_rfl) rfl (Nat.le_of_ble_eq_true rfl) rfl fun hcl hbl => ?_
  (repeat' ((conv => whnf); (first | refine DrawN.mk' [] ?_ | fail))); all_goals (conv => whnf)
  exact EndN.det (by simp [below, belowL]) (wk_agg ⟨Wk.refl _, Wk.refl _, wk_nils, wk_nils, trivial⟩)
theorem join0_c (H : Heap) : VDet Tryd.prog 16 [.int .u8 2, .sl none 0 []] H (.agg Fm.fa.cells) := by
  unfold Fm.cells
  simp only [Fm.op, Fm.nmB, Fm.sn, Fm.sc]
  refine fn_det Tryd.E0 Tryd.mx Tryd.func16 (by kernel_rfl) rfl (Nat.le_of_ble_eq_true rfl) rfl fun hcl hbl => ?_
  (repeat' ((conv => whnf); (first | refine DrawN.mk' [] ?_ | fail))); all_goals (conv => whnf)
  exact EndN.det (by simp [below, belowL]) (wk_agg ⟨Wk.refl _, Wk.refl _, wk_nils, Wk.refl _, trivial⟩)
theorem join1_c (k : Nat) (a : Fm) (H : Heap) : VDet Tryd.prog 16 [.int .u8 k, .sl none 1 a.cells] H (.agg (Fm.f1 k a).cells) := by
  rw [show (Fm.f1 k a).cells = [.int .u8 (k : Nat), .str .empty, .sl none 0 [], .sl none 1 a.cells] from rfl]
  have hb : ∀ m, belowL m a.cells := fun m => by simp [Fm.cells, below, belowL, Fm.sc_below]
  generalize a.cells = ac at hb ⊢
  refine fn_det Tryd.E0 Tryd.mx Tryd.func16 (by kernel_rfl) rfl (Nat.le_of_ble_eq_true rfl) rfl fun hcl hbl => ?_
  (repeat' ((conv => whnf); (first | refine DrawN.mk' [] ?_ | fail))); all_goals (conv => whnf)
  exact EndN.det (by simp [below, belowL, hb]) (wk_agg ⟨Wk.refl _, Wk.refl _, wk_nils, Wk.refl _, trivial⟩)
theorem join2_c (k : Nat) (a b : Fm) (H : Heap) : VDet Tryd.prog 16 [.int .u8 k, .sl none 2 (a.cells ++ b.cells)] H (.agg (Fm.f2 k a b).cells) := by
  rw [show (Fm.f2 k a b).cells = [.int .u8 (k : Nat), .str .empty, .sl none 0 [], .sl none 2 (a.cells ++ b.cells)] from rfl]
  have hb : ∀ m, belowL m (a.cells ++ b.cells) := fun m => by simp [Fm.cells, below, belowL, Fm.sc_below]
  generalize a.cells ++ b.cells = ac at hb ⊢
  refine fn_det Tryd.E0 Tryd.mx Tryd.func16 (by kernel_rfl) rfl (Nat.le_of_ble_eq_true rfl) rfl fun hcl hbl => ?_
  (repeat' ((conv => whnf); (first | refine DrawN.mk' [] ?_ | fail))); all_goals (conv => whnf)
  exact EndN.det (by simp [below, belowL, hb]) (wk_agg ⟨Wk.refl _, Wk.refl _, wk_nils, Wk.refl _, trivial⟩)

/-! ### truth.propositional -/
/-- without the operators of modal logic and of time -/
def Fm.Pr : Fm → Prop
  | .at _ => True
  | .fa => True
  | .f1 k a => k = 3 ∧ a.Pr
  | .f2 k a b => (k = 4 ∨ k = 5 ∨ k = 6 ∨ k = 7) ∧ a.Pr ∧ b.Pr
end Go.Proofs.YtekhodpmpjehaaaDoor
/-! text M10 -/
namespace Go.Proofs.YtekhodpmpjehaaaDoor
open Go.Vsi
set_option maxHeartbeats 1000000
attribute [local irreducible] VW VCall VO bits

theorem prop_at (c : UInt8) (H : Heap) : VDet Tryd.prog 42 [.agg (Fm.at c).cells] H (.bool true) := by
  unfold Fm.cells
  simp only [Fm.op, Fm.nmB, Fm.sn, Fm.sc]
  refine fn_det Tryd.E0 Tryd.mx Tryd.func42 (by kernel_rfl) rfl (Nat.le_of_ble_eq_true rfl) rfl fun hcl hbl => ?_
  (repeat' ((conv => whnf); (first | (refine IfN.id ?_; first | refine IfN.ff rfl ?_ | fail) | refine DrawN.mk' [] ?_ | fail))); all_goals (conv => whnf)
  refine LoopN.rounds Tryd.E0 Tryd.mx 1 rfl ?_
  (repeat' ((conv => whnf); (first | (refine IfN.id ?_; first | refine IfN.ff rfl ?_ | fail) | refine DrawN.mk' [] ?_ | fail))); all_goals (conv => whnf)
  exact EndN.det trivial (Wk.refl _)
theorem prop_fa (H : Heap) : VDet Tryd.prog 42 [.agg Fm.fa.cells] H (.bool true) := by
  unfold Fm.cells
  simp only [Fm.op, Fm.nmB, Fm.sn, Fm.sc]
  refine fn_det Tryd.E0 Tryd.mx Tryd.func42 (by kernel_rfl) rfl (Nat.le_of_ble_eq_true rfl) rfl fun hcl hbl => ?_
  (repeat' ((conv => whnf); (first | (refine IfN.id ?_; first | refine IfN.ff rfl ?_ | fail) | refine DrawN.mk' [] ?_ | fail))); all_goals (conv => whnf)
  refine LoopN.rounds Tryd.E0 Tryd.mx 1 rfl ?_
  (repeat' ((conv => whnf); (first | (refine IfN.id ?_; first | refine IfN.ff rfl ?_ | fail) | refine DrawN.mk' [] ?_ | fail))); all_goals (conv => whnf)
  exact EndN.det trivial (Wk.refl _)
theorem prop_f1 (k : Nat) (hk : k = 3) (a : Fm) (ih : ∀ H, VDet Tryd.prog 42 [.agg a.cells] H (.bool true)) (H : Heap) : VDet Tryd.prog 42 [.agg (Fm.f1 k a).cells] H (.bool true) := by
  subst hk
  unfold Fm.cells at ih ⊢
  simp only [Fm.op, Fm.nmB, Fm.sn, Fm.sc]
  refine fn_det Tryd.E0 Tryd.mx Tryd.func42 (by kernel_rfl) rfl (Nat.le_of_ble_eq_true rfl) rfl fun hcl hbl => ?_
  (repeat' ((conv => whnf); (first | (refine IfN.id ?_; first | refine IfN.ff rfl ?_ | fail) | refine DrawN.mk' [] ?_ | fail))); all_goals (conv => whnf)
  refine LoopN.rounds Tryd.E0 Tryd.mx 2 rfl ?_
  (repeat' ((conv => whnf); (first | (refine IfN.id ?_; first | refine IfN.not ?_ | refine IfN.tt rfl ?_ | refine IfN.ff rfl ?_ | fail) | (refine EqN.id ?_; first | (refine EqN.addN _ _ (by first | with_reducible rfl | with_reducible exact cst1 | with_reducible exact cst0 | with_reducible exact cst2 | with_reducible exact cst3 | with_reducible exact cst4 | with_reducible exact cst5 | with_reducible exact cst6 | with_reducible exact cst7 | with_reducible exact cst8 | with_reducible exact cst14 | with_reducible exact cst15 | with_reducible exact cst25 | with_reducible exact cst30 | with_reducible exact cst31 | fail) (by first | with_reducible rfl | with_reducible exact cst1 | with_reducible exact cst0 | with_reducible exact cst2 | with_reducible exact cst3 | with_reducible exact cst4 | with_reducible exact cst5 | with_reducible exact cst6 | with_reducible exact cst7 | with_reducible exact cst8 | with_reducible exact cst14 | with_reducible exact cst15 | with_reducible exact cst25 | with_reducible exact cst30 | with_reducible exact cst31 | fail) ?_ ?_; · (repeat' (first | omega | refine And.intro ?_ ?_ | exact bnd_andl (by omega) | exact bnd_andr (by omega) | refine bnd_or ?_ ?_ | refine bnd_or31 ?_ ?_ | refine bnd_xor ?_ ?_ | refine bnd_xor31 ?_ ?_ | refine bnd_shr ?_ | refine bnd_shl ?_ ?_ | refine bnd_mod ?_ | refine bnd_andl ?_ | fail))) | fail) | (refine SideN.mk ?_ ?_; · first | kernel_rfl | omega | exact List.cons_ne_nil _ _ | (simp; done) | (simp; omega) | exact trivial | assumption | fail) | (refine CallN.id ?_; first | refine CallN.det _ (ih _) ?_ | fail) | refine SegN.mk _ (seg_rfl rfl) ?_ | refine DrawN.mk' [] ?_ | fail))); all_goals (conv => whnf)
  exact EndN.det trivial (Wk.refl _)
theorem prop_f2 (k : Nat) (hk : k = 4 ∨ k = 5 ∨ k = 6 ∨ k = 7) (a b : Fm) (iha : ∀ H, VDet Tryd.prog 42 [.agg a.cells] H (.bool true)) (ihb : ∀ H, VDet Tryd.prog 42 [.agg b.cells] H (.bool true)) (H : Heap) : VDet Tryd.prog 42 [.agg (Fm.f2 k a b).cells] H (.bool true) := by
  unfold Fm.cells at iha ihb ⊢
  simp only [Fm.op, Fm.nmB, Fm.sn, Fm.sc]
  refine fn_det Tryd.E0 Tryd.mx Tryd.func42 (by kernel_rfl) rfl (Nat.le_of_ble_eq_true rfl) rfl fun hcl hbl => ?_
  (repeat' ((conv => whnf); (first | (refine IfN.id ?_; first | refine IfN.ff rfl ?_ | refine IfN.dF (by omega) ?_ | fail) | refine DrawN.mk' [] ?_ | fail))); all_goals (conv => whnf)
  refine LoopN.rounds Tryd.E0 Tryd.mx 3 rfl ?_
  (repeat' ((conv => whnf); (first | (refine IfN.id ?_; first | refine IfN.not ?_ | refine IfN.tt rfl ?_ | refine IfN.ff rfl ?_ | fail) | (refine EqN.id ?_; first | (refine EqN.addN _ _ (by first | with_reducible rfl | with_reducible exact cst1 | with_reducible exact cst0 | with_reducible exact cst2 | with_reducible exact cst3 | with_reducible exact cst4 | with_reducible exact cst5 | with_reducible exact cst6 | with_reducible exact cst7 | with_reducible exact cst8 | with_reducible exact cst14 | with_reducible exact cst15 | with_reducible exact cst25 | with_reducible exact cst30 | with_reducible exact cst31 | fail) (by first | with_reducible rfl | with_reducible exact cst1 | with_reducible exact cst0 | with_reducible exact cst2 | with_reducible exact cst3 | with_reducible exact cst4 | with_reducible exact cst5 | with_reducible exact cst6 | with_reducible exact cst7 | with_reducible exact cst8 | with_reducible exact cst14 | with_reducible exact cst15 | with_reducible exact cst25 | with_reducible exact cst30 | with_reducible exact cst31 | fail) ?_ ?_; · (repeat' (first | omega | refine And.intro ?_ ?_ | exact bnd_andl (by omega) | exact bnd_andr (by omega) | refine bnd_or ?_ ?_ | refine bnd_or31 ?_ ?_ | refine bnd_xor ?_ ?_ | refine bnd_xor31 ?_ ?_ | refine bnd_shr ?_ | refine bnd_shl ?_ ?_ | refine bnd_mod ?_ | refine bnd_andl ?_ | fail))) | fail) | (refine SideN.mk ?_ ?_; · first | kernel_rfl | omega | exact List.cons_ne_nil _ _ | (simp; done) | (simp; omega) | exact trivial | assumption | fail) | (refine CallN.id ?_; first | refine CallN.det _ (iha _) ?_ | refine CallN.det _ (ihb _) ?_ | fail) | refine SegN.mk _ (seg_rfl rfl) ?_ | refine DrawN.mk' [] ?_ | fail))); all_goals (conv => whnf)
  exact EndN.det trivial (Wk.refl _)
theorem prop_c : ∀ f : Fm, f.Pr → ∀ H, VDet Tryd.prog 42 [.agg f.cells] H (.bool true)
  | .at c, _ => prop_at c
  | .fa, _ => prop_fa
  | .f1 k a, h => prop_f1 k h.1 a (prop_c a h.2)
  | .f2 k a b, h => prop_f2 k h.1 a b (prop_c a h.2.1) (prop_c b h.2.2)
/-- truth.Right -/
theorem right_c (f : Fm) (hf : f.Ok) (hn : f.Small) (hp : f.Pr) (H : Heap) : VDet Tryd.prog 27 [.agg f.cells] H (.bool true) := by
  have h1 := synRight_c f hf hn
  have h2 := prop_c f hp
  unfold Fm.cells at h1 h2 ⊢
  refine fn_det Tryd.E0 Tryd.mx Tryd.func27 (by kernel_rfl) rfl (Nat.le_of_ble_eq_true rfl) rfl fun hcl hbl => ?_
  (repeat' ((conv => whnf); (first | (refine IfN.id ?_; first | refine IfN.tt rfl ?_ | fail) | (refine CallN.id ?_; first | refine CallN.det _ (h1 _) ?_ | refine CallN.det _ (h2 _) ?_ | fail) | refine DrawN.mk' [] ?_ | fail))); all_goals (conv => whnf)
  exact EndN.det trivial (Wk.refl _)
end Go.Proofs.YtekhodpmpjehaaaDoor
/-! text N10 -/
namespace Go.Proofs.YtekhodpmpjehaaaDoor
open Go.Vsi
set_option maxHeartbeats 1000000
attribute [local irreducible] VW VCall VO bits

theorem wk_trans {a b c : AV} (h1 : Wk a b) (h2 : Wk b c) : Wk a c := fun g w v h => h2 g w v (h1 g w v h)

/-! ### lists of names -/
def encS (c : UInt8) : List AV := [.str (nm c)]
theorem encS_below (n : Nat) (l : List UInt8) : belowL n (l.flatMap encS) := belowL_flat _ fun x => by simp [encS, belowL, below]
def lets : List UInt8 := [130, 132, 134, 136, 138, 140, 142, 144, 146, 148, 150, 152]
theorem letters_c (H : Heap) : VDet Tryd.prog 14 [] H (.sl none 12 (lets.flatMap encS)) := by
  refine fn_det Tryd.E0 Tryd.mx Tryd.func14 (by kernel_rfl) rfl (Nat.le_of_ble_eq_true rfl) rfl fun hcl hbl => ?_
  (repeat' ((conv => whnf); (first | refine DrawN.mk' [] ?_ | fail))); all_goals (conv => whnf)
  exact EndN.det (by simp [below, belowL, lets, encS]) (wk_trans (wk_sx _ _) (Wk.of_eq (by kernel_rfl)))
structure NmOk (l : List UInt8) : Prop where
  len : l.length ≤ 52
  cap : ∀ i, i < l.length → cap (l.getD i 0)
  inc : ∀ i, 0 < i → i < l.length → (l.getD (i - 1) 0).toNat < (l.getD i 0).toNat
theorem isNames_c (l : List UInt8) (hl : NmOk l) (H : Heap) : VDet Tryd.prog 40 [.sl none l.length (l.flatMap encS)] H (.bool true) := by
  obtain ⟨hlen, hcap, hinc⟩ := hl
  refine fn_det Tryd.E0 Tryd.mx Tryd.func40 (by kernel_rfl) rfl (Nat.le_of_ble_eq_true rfl) rfl fun hcl hbl => ?_
  (repeat' ((conv => whnf); (first | refine DrawN.mk' [] ?_ | fail))); all_goals (conv => whnf)
  refine loop_R Tryd.E0 Tryd.mx (σ := Nat) (fun k => k ≤ l.length) (fun k => l.length - k) (fun k => [(7, .v (.int .i64 k))]) (fun _ => []) _ 0 rfl hcl [0, 5, 6] rfl (Nat.zero_le _) ⟨⟨_, rfl, Wk.refl _⟩, trivial⟩ rfl (fun _ _ => rfl) ?_
  intro k hk
  have hc := hcap k
  have hlt : 0 < k → k < l.length → Op.bytesLess (nm (l.getD (k - 1) 0)).toList (nm (l.getD k 0)).toList = true := fun h0 h => by
    rw [nm_lt]; exact decide_eq_true (hinc k h0 h)
  clear hbl
  (repeat' ((conv => whnf); (first | (refine IfN.id ?_; first | refine IfN.tt (hlt (by omega) (by omega)) ?_ | refine IfN.not ?_ | refine IfN.tt rfl ?_ | refine IfN.dec (fun _ => ?_) (fun _ => ?_) | fail) | (refine EqN.id ?_; first | (refine EqN.addN _ _ (by first | with_reducible rfl | with_reducible exact cst1 | with_reducible exact cst0 | with_reducible exact cst2 | with_reducible exact cst3 | with_reducible exact cst4 | with_reducible exact cst5 | with_reducible exact cst6 | with_reducible exact cst7 | with_reducible exact cst8 | with_reducible exact cst14 | with_reducible exact cst15 | with_reducible exact cst25 | with_reducible exact cst30 | with_reducible exact cst31 | fail) (by first | with_reducible rfl | with_reducible exact cst1 | with_reducible exact cst0 | with_reducible exact cst2 | with_reducible exact cst3 | with_reducible exact cst4 | with_reducible exact cst5 | with_reducible exact cst6 | with_reducible exact cst7 | with_reducible exact cst8 | with_reducible exact cst14 | with_reducible exact cst15 | with_reducible exact cst25 | with_reducible exact cst30 | with_reducible exact cst31 | fail) ?_ ?_; · (repeat' (first | omega | refine And.intro ?_ ?_ | exact bnd_andl (by omega) | exact bnd_andr (by omega) | refine bnd_or ?_ ?_ | refine bnd_or31 ?_ ?_ | refine bnd_xor ?_ ?_ | refine bnd_xor31 ?_ ?_ | refine bnd_shr ?_ | refine bnd_shl ?_ ?_ | refine bnd_mod ?_ | refine bnd_andl ?_ | fail))) | (refine EqN.subN _ _ (by first | with_reducible rfl | with_reducible exact cst1 | with_reducible exact cst0 | with_reducible exact cst2 | with_reducible exact cst3 | with_reducible exact cst4 | with_reducible exact cst5 | with_reducible exact cst6 | with_reducible exact cst7 | with_reducible exact cst8 | with_reducible exact cst14 | with_reducible exact cst15 | with_reducible exact cst25 | with_reducible exact cst30 | with_reducible exact cst31 | fail) (by first | with_reducible rfl | with_reducible exact cst1 | with_reducible exact cst0 | with_reducible exact cst2 | with_reducible exact cst3 | with_reducible exact cst4 | with_reducible exact cst5 | with_reducible exact cst6 | with_reducible exact cst7 | with_reducible exact cst8 | with_reducible exact cst14 | with_reducible exact cst15 | with_reducible exact cst25 | with_reducible exact cst30 | with_reducible exact cst31 | fail) ?_ ?_; · (repeat' (first | omega | refine And.intro ?_ ?_ | exact bnd_andl (by omega) | exact bnd_andr (by omega) | refine bnd_or ?_ ?_ | refine bnd_or31 ?_ ?_ | refine bnd_xor ?_ ?_ | refine bnd_xor31 ?_ ?_ | refine bnd_shr ?_ | refine bnd_shl ?_ ?_ | refine bnd_mod ?_ | refine bnd_andl ?_ | fail))) | fail) | (refine SideN.mk ?_ ?_; · first | kernel_rfl | omega | exact List.cons_ne_nil _ _ | (simp; done) | (simp; omega) | exact trivial | assumption | fail) | (refine CallN.id ?_; first | refine CallN.det _ (predicate_c _ (hc (by omega)) _) ?_ | fail) | refine SegN.nth 0 k rfl (by omega) (fun _ => rfl) ?_ | refine SegN.nth 0 (k - 1) (by omega) (by omega) (fun _ => rfl) ?_ | refine DrawN.mk' [] ?_ | fail))); all_goals (conv => whnf)
  all_goals try ((refine ⟨⟨k + 1, by omega, by omega, ?_, .inl ⟨rfl, rfl⟩, rfl, _, rfl, ?_⟩⟩; rotate_left 1; (first | exact .inl rfl | exact .inr ⟨by simp [belowRE, below, belowL, tr, and_self], by simp [belowH, Blk.below, belowL, below, and_self]⟩ | fail); (repeat' (first | exact trivial | refine ⟨⟨_, rfl, ?_⟩, ?_⟩ | fail)); all_goals try (first | exact Wk.refl _ | exact Wk.of_eq (congrArg (AV.int _) (by omega)) | fail)))
  all_goals refine EndN.det (by simp [below, belowL]) (Wk.of_eq ?_)
  all_goals rfl
end Go.Proofs.YtekhodpmpjehaaaDoor
/-! text Y10 -/
namespace Go.Proofs.YtekhodpmpjehaaaDoor
open Go.Shelf
def Tryd.keys36_ren : Go.Shelf.Ren := ⟨fun | 7 => 36 | 10 => 47 | n => n, fun | 23 => 84 | 26 => 9 | 3 => 4 | 28 => 88 | 0 => 0 | 27 => 87 | 33 => 105 | 4 => 4 | n => n, fun | n => n⟩
theorem Tryd.keys36 : Go.Proofs.SlLaysZ.n7 Tryd.prog Tryd.keys36_ren := {
  mixed := by kernel_rfl
  f7 := ⟨Tryd.f36.name, by decide, Tryd.func36.trans (congrArg some (by kernel_rfl))⟩
  f10 := ⟨Tryd.f47.name, by decide, Tryd.func47.trans (congrArg some (by kernel_rfl))⟩
  t0 := Tryd.underlying0
  a0 := Tryd.isAgg0
  z0 := Tryd.sizeOf0
  v0 := Tryd.zeroValue0
  t4 := Tryd.underlying4
  a4 := Tryd.isAgg4
  z4 := Tryd.sizeOf4
  v4 := Tryd.zeroValue4
  t23 := Tryd.underlying84
  a23 := Tryd.isAgg84
  z23 := Tryd.sizeOf84
  v23 := Tryd.zeroValue84
  t26 := Tryd.underlying9
  a26 := Tryd.isAgg9
  z26 := Tryd.sizeOf9
  v26 := Tryd.zeroValue9
  t27 := Tryd.underlying87
  a27 := Tryd.isAgg87
  z27 := Tryd.sizeOf87
  v27 := Tryd.zeroValue87
  t28 := Tryd.underlying88
  a28 := Tryd.isAgg88
  z28 := Tryd.sizeOf88
  v28 := Tryd.zeroValue88
  t33 := Tryd.underlying105
  a33 := Tryd.isAgg105
  z33 := Tryd.sizeOf105
  v33 := Tryd.zeroValue105 }
def Tryd.sorted35_ren : Go.Shelf.Ren := ⟨fun | 6 => 35 | 8 => 45 | 9 => 46 | 11 => 58 | 13 => 60 | 12 => 59 | 23 => 78 | 24 => 79 | 14 => 69 | 15 => 70 | 16 => 71 | 17 => 72 | 18 => 73 | 19 => 74 | 20 => 75 | 21 => 76 | 22 => 77 | 25 => 88 | 26 => 89 | 27 => 90 | 28 => 91 | 29 => 92 | 30 => 93 | 31 => 97 | n => n, fun | 26 => 9 | 28 => 88 | 24 => 33 | 0 => 0 | 3 => 3 | 37 => 55 | 48 => 137 | 50 => 81 | 4 => 4 | 40 => 129 | 39 => 128 | 45 => 134 | 5 => 5 | 9 => 9 | 51 => 139 | 55 => 142 | 57 => 144 | 58 => 145 | 33 => 105 | n => n, fun | n => n⟩
theorem Tryd.sorted35 : Go.Proofs.SlLaysZ.n6 Tryd.prog Tryd.sorted35_ren := {
  mixed := by kernel_rfl
  f6 := ⟨Tryd.f35.name, by decide, Tryd.func35.trans (congrArg some (by kernel_rfl))⟩
  f8 := ⟨Tryd.f45.name, by decide, Tryd.func45.trans (congrArg some (by kernel_rfl))⟩
  f11 := ⟨Tryd.f58.name, by decide, Tryd.func58.trans (congrArg some (by kernel_rfl))⟩
  t0 := Tryd.underlying0
  a0 := Tryd.isAgg0
  z0 := Tryd.sizeOf0
  v0 := Tryd.zeroValue0
  t24 := Tryd.underlying33
  a24 := Tryd.isAgg33
  z24 := Tryd.sizeOf33
  v24 := Tryd.zeroValue33
  t26 := Tryd.underlying9
  a26 := Tryd.isAgg9
  z26 := Tryd.sizeOf9
  v26 := Tryd.zeroValue9
  t28 := Tryd.underlying88
  a28 := Tryd.isAgg88
  z28 := Tryd.sizeOf88
  v28 := Tryd.zeroValue88
  i26 := by kernel_rfl }
def Tryd.sort46_ren : Go.Shelf.Ren := ⟨fun | 6 => 46 | 8 => 60 | 9 => 59 | 19 => 78 | 20 => 79 | 21 => 69 | 22 => 70 | 23 => 71 | 24 => 72 | 25 => 73 | 26 => 74 | 27 => 75 | 28 => 76 | 29 => 77 | 36 => 88 | 31 => 89 | 32 => 90 | 37 => 91 | 38 => 92 | 39 => 93 | 41 => 97 | n => n, fun | 27 => 33 | 29 => 9 | 3 => 3 | 32 => 55 | 26 => 33 | 0 => 0 | 44 => 137 | 46 => 81 | 4 => 4 | 36 => 129 | 35 => 128 | 41 => 134 | 5 => 5 | 9 => 9 | 53 => 139 | 57 => 142 | 63 => 144 | 64 => 145 | n => n, fun | n => n⟩
theorem Tryd.sort46 : Go.Proofs.SlLaysM.n6 Tryd.prog Tryd.sort46_ren := {
  mixed := by kernel_rfl
  f6 := ⟨Tryd.f46.name, by decide, Tryd.func46.trans (congrArg some (by kernel_rfl))⟩
  f8 := Tryd.func60.trans (congrArg some (by kernel_rfl))
  f9 := ⟨Tryd.f59.name, by decide, Tryd.func59.trans (congrArg some (by kernel_rfl))⟩
  f19 := Tryd.func78.trans (congrArg some (by kernel_rfl))
  f20 := Tryd.func79.trans (congrArg some (by kernel_rfl))
  f21 := ⟨Tryd.f69.name, by decide, Tryd.func69.trans (congrArg some (by kernel_rfl))⟩
  f22 := ⟨Tryd.f70.name, by decide, Tryd.func70.trans (congrArg some (by kernel_rfl))⟩
  f23 := ⟨Tryd.f71.name, by decide, Tryd.func71.trans (congrArg some (by kernel_rfl))⟩
  f24 := ⟨Tryd.f72.name, by decide, Tryd.func72.trans (congrArg some (by kernel_rfl))⟩
  f25 := ⟨Tryd.f73.name, by decide, Tryd.func73.trans (congrArg some (by kernel_rfl))⟩
  f26 := ⟨Tryd.f74.name, by decide, Tryd.func74.trans (congrArg some (by kernel_rfl))⟩
  f27 := ⟨Tryd.f75.name, by decide, Tryd.func75.trans (congrArg some (by kernel_rfl))⟩
  f28 := ⟨Tryd.f76.name, by decide, Tryd.func76.trans (congrArg some (by kernel_rfl))⟩
  f29 := ⟨Tryd.f77.name, by decide, Tryd.func77.trans (congrArg some (by kernel_rfl))⟩
  f31 := Tryd.func89.trans (congrArg some (by kernel_rfl))
  f32 := Tryd.func90.trans (congrArg some (by kernel_rfl))
  f36 := ⟨Tryd.f88.name, by decide, Tryd.func88.trans (congrArg some (by kernel_rfl))⟩
  f37 := ⟨Tryd.f91.name, by decide, Tryd.func91.trans (congrArg some (by kernel_rfl))⟩
  f38 := ⟨Tryd.f92.name, by decide, Tryd.func92.trans (congrArg some (by kernel_rfl))⟩
  f39 := ⟨Tryd.f93.name, by decide, Tryd.func93.trans (congrArg some (by kernel_rfl))⟩
  f41 := ⟨Tryd.f97.name, by decide, Tryd.func97.trans (congrArg some (by kernel_rfl))⟩
  t0 := Tryd.underlying0
  a0 := Tryd.isAgg0
  z0 := Tryd.sizeOf0
  v0 := Tryd.zeroValue0
  t3 := Tryd.underlying3
  a3 := Tryd.isAgg3
  z3 := Tryd.sizeOf3
  v3 := Tryd.zeroValue3
  t4 := Tryd.underlying4
  a4 := Tryd.isAgg4
  z4 := Tryd.sizeOf4
  v4 := Tryd.zeroValue4
  t5 := Tryd.underlying5
  a5 := Tryd.isAgg5
  z5 := Tryd.sizeOf5
  v5 := Tryd.zeroValue5
  t9 := Tryd.underlying9
  a9 := Tryd.isAgg9
  z9 := Tryd.sizeOf9
  v9 := Tryd.zeroValue9
  t26 := Tryd.underlying33
  a26 := Tryd.isAgg33
  z26 := Tryd.sizeOf33
  v26 := Tryd.zeroValue33
  t27 := Tryd.underlying33
  a27 := Tryd.isAgg33
  z27 := Tryd.sizeOf33
  v27 := Tryd.zeroValue33
  t29 := Tryd.underlying9
  a29 := Tryd.isAgg9
  z29 := Tryd.sizeOf9
  v29 := Tryd.zeroValue9
  t32 := Tryd.underlying55
  a32 := Tryd.isAgg55
  z32 := Tryd.sizeOf55
  v32 := Tryd.zeroValue55
  t35 := Tryd.underlying128
  a35 := Tryd.isAgg128
  z35 := Tryd.sizeOf128
  v35 := Tryd.zeroValue128
  t36 := Tryd.underlying129
  a36 := Tryd.isAgg129
  z36 := Tryd.sizeOf129
  v36 := Tryd.zeroValue129
  t41 := Tryd.underlying134
  a41 := Tryd.isAgg134
  z41 := Tryd.sizeOf134
  v41 := Tryd.zeroValue134
  t44 := Tryd.underlying137
  a44 := Tryd.isAgg137
  z44 := Tryd.sizeOf137
  v44 := Tryd.zeroValue137
  t46 := Tryd.underlying81
  a46 := Tryd.isAgg81
  z46 := Tryd.sizeOf81
  v46 := Tryd.zeroValue81
  t53 := Tryd.underlying139
  a53 := Tryd.isAgg139
  z53 := Tryd.sizeOf139
  v53 := Tryd.zeroValue139
  t57 := Tryd.underlying142
  a57 := Tryd.isAgg142
  z57 := Tryd.sizeOf142
  v57 := Tryd.zeroValue142
  t63 := Tryd.underlying144
  a63 := Tryd.isAgg144
  z63 := Tryd.sizeOf144
  v63 := Tryd.zeroValue144
  t64 := Tryd.underlying145
  a64 := Tryd.isAgg145
  z64 := Tryd.sizeOf145
  v64 := Tryd.zeroValue145 }
def Tryd.grow49_ren : Go.Shelf.Ren := ⟨fun | 4 => 49 | n => n, fun | 22 => 26 | 25 => 28 | 3 => 3 | 4 => 4 | 9 => 9 | 20 => 20 | 0 => 0 | n => n, fun | n => n⟩
theorem Tryd.grow49 : Go.Proofs.Lays8.n4 Tryd.prog Tryd.grow49_ren := {
  mixed := by kernel_rfl
  f4 := ⟨Tryd.f49.name, by decide, Tryd.func49.trans (congrArg some (by kernel_rfl))⟩
  t0 := Tryd.underlying0
  a0 := Tryd.isAgg0
  z0 := Tryd.sizeOf0
  v0 := Tryd.zeroValue0
  t3 := Tryd.underlying3
  a3 := Tryd.isAgg3
  z3 := Tryd.sizeOf3
  v3 := Tryd.zeroValue3
  t4 := Tryd.underlying4
  a4 := Tryd.isAgg4
  z4 := Tryd.sizeOf4
  v4 := Tryd.zeroValue4
  t9 := Tryd.underlying9
  a9 := Tryd.isAgg9
  z9 := Tryd.sizeOf9
  v9 := Tryd.zeroValue9
  t20 := Tryd.underlying20
  a20 := Tryd.isAgg20
  z20 := Tryd.sizeOf20
  v20 := Tryd.zeroValue20
  t22 := Tryd.underlying26
  a22 := Tryd.isAgg26
  z22 := Tryd.sizeOf26
  v22 := Tryd.zeroValue26 }
end Go.Proofs.YtekhodpmpjehaaaDoor
/-! text O10 -/
namespace Go.Proofs.YtekhodpmpjehaaaDoor
open Go.Vsi
set_option maxHeartbeats 1000000
attribute [local irreducible] VW VCall VO bits

/-! ### sets of names -/
def mpB (ks : List UInt8) : Blk := .mp (ks.map fun c => .str (nm c)) (ks.map fun _ => .bool true)
def insK (ks : List UInt8) (c : UInt8) : List UInt8 := if c ∈ ks then ks else ks ++ [c]
/-- the names of a formula's atoms, put into a set -/
def addA (ks : List UInt8) : Fm → List UInt8
  | .at c => insK ks c
  | .fa => ks
  | .f1 _ a => addA ks a
  | .f2 _ a b => addA (addA ks a) b
theorem mpB_below (n : Nat) (ks : List UInt8) : (mpB ks).below n := by
  simp only [mpB, Blk.below]
  refine ⟨?_, ?_⟩
  · induction ks with
    | nil => trivial
    | cons c l ih => exact ⟨trivial, ih⟩
  · induction ks with
    | nil => trivial
    | cons c l ih => exact ⟨trivial, ih⟩
theorem mfind_nm (c : UInt8) : ∀ ks : List UInt8, (c ∈ ks → ∃ j, j < ks.length ∧ ks[j]? = some c ∧ mfind (eqV Tryd.kn Tryd.T 20 9) (.str (nm c)) (ks.map fun c => .str (nm c)) = some (some j)) ∧ (c ∉ ks → mfind (eqV Tryd.kn Tryd.T 20 9) (.str (nm c)) (ks.map fun c => .str (nm c)) = some none)
  | [] => ⟨fun h => by simp at h, fun _ => rfl⟩
  | d :: ks => by
    have he : eqV Tryd.kn Tryd.T 20 9 (.str (nm c)) (.str (nm d)) = some (c == d) := by
      show some ((nm c).toList == (nm d).toList) = _
      rw [nm_eq]
    obtain ⟨h1, h2⟩ := mfind_nm c ks
    simp only [List.map_cons, mfind, he]
    by_cases hcd : c = d
    · subst hcd
      simp only [beq_self_eq_true]
      exact ⟨fun _ => ⟨0, by simp, rfl, rfl⟩, fun h => absurd (List.mem_cons_self) h⟩
    · have hb : (c == d) = false := by simpa using hcd
      simp only [hb]
      refine ⟨fun h => ?_, fun h => ?_⟩
      · obtain ⟨j, e1, e2, e3⟩ := h1 ((List.mem_cons.1 h).resolve_left hcd)
        exact ⟨j + 1, by simpa using e1, by simpa using e2, by rw [e3]⟩
      · rw [h2 fun q => h (List.mem_cons_of_mem _ q)]
theorem put_nm (c : UInt8) (ks : List UInt8) : MPut (eqV Tryd.kn Tryd.T 20 9) (ks.map fun c => .str (nm c)) (ks.map fun _ => .bool true) (.str (nm c)) (.bool true) ((insK ks c).map fun c => .str (nm c)) ((insK ks c).map fun _ => .bool true) := by
  obtain ⟨h1, h2⟩ := mfind_nm c ks
  unfold insK
  by_cases h : c ∈ ks
  · rw [if_pos h]
    obtain ⟨j, e1, e2, e3⟩ := h1 h
    have := MPut.old (vs := ks.map fun _ => AV.bool true) (v := .bool true) j e3 (by rw [List.getElem?_map, e2]; rfl)
    have hs : (ks.map fun _ => AV.bool true).set j (.bool true) = ks.map fun _ => .bool true := by
      apply List.ext_getElem?
      intro i
      rw [List.getElem?_set]
      split
      · rename_i hi
        subst hi
        simp [e1]
      · rfl
    rwa [hs] at this
  · rw [if_neg h]
    have := MPut.new (vs := ks.map fun _ => AV.bool true) (v := .bool true) (h2 h)
    simpa using this
theorem add_at (c : UInt8) (H : Heap) (i : Nat) (ks : List UInt8) (hi : H[i]? = some (mpB ks)) : VCall Tryd.prog 34 [.agg (Fm.at c).cells, .mp i] H (setR H i (mpB (insK ks c)) (.tup [])) := by
  unfold mpB at hi
  unfold Fm.cells
  simp only [Fm.op, Fm.nmB, Fm.sn, Fm.sc]
  refine fn_gen Tryd.E0 Tryd.mx Tryd.func34 (by kernel_rfl) rfl (Nat.le_of_ble_eq_true rfl) rfl fun hcl hbl => ?_
  (repeat' ((conv => whnf); (first | (refine IfN.id ?_; first | refine IfN.tt rfl ?_ | fail) | (refine PtrN.id ?_; first | refine PtrN.base _ (by (repeat' (first | assumption | exact at_loc' _ rfl | exact at_loc0 rfl | refine at_set (B' := ?_) ?_ | refine at_base' ?_ | fail))) ?_ | fail) | refine DrawN.mk' [] ?_ | fail))); all_goals (conv => whnf)
  refine RelN.mk _ _ ⟨⟨_, rfl⟩, put_nm c ks⟩ ?_
  (repeat' ((conv => whnf); (first | refine SetN.mk _ rfl ?_ | refine DrawN.mk' [] ?_ | fail))); all_goals (conv => whnf)
  refine LoopN.rounds Tryd.E0 Tryd.mx 1 (by simp) ?_
  (repeat' ((conv => whnf); (first | (refine IfN.id ?_; first | refine IfN.ff rfl ?_ | fail) | refine DrawN.mk' [] ?_ | fail))); all_goals (conv => whnf)
  exact EndN.setB (mpB_below _ _) trivial (Wk.refl _)
theorem add_fa (H : Heap) (i : Nat) (ks : List UInt8) (hi : H[i]? = some (mpB ks)) : VCall Tryd.prog 34 [.agg Fm.fa.cells, .mp i] H (setR H i (mpB ks) (.tup [])) := by
  have hs : H.set i (mpB ks) = H := by
    apply List.ext_getElem?
    intro j
    rw [List.getElem?_set]
    split
    · rename_i hj
      subst hj
      rw [hi]
      have := (List.getElem?_eq_some_iff.1 hi).1
      simp [this]
    · rfl
  unfold setR
  rw [hs]
  unfold Fm.cells
  simp only [Fm.op, Fm.nmB, Fm.sn, Fm.sc]
  refine fn_det Tryd.E0 Tryd.mx Tryd.func34 (by kernel_rfl) rfl (Nat.le_of_ble_eq_true rfl) rfl fun hcl hbl => ?_
  (repeat' ((conv => whnf); (first | (refine IfN.id ?_; first | refine IfN.ff rfl ?_ | fail) | refine DrawN.mk' [] ?_ | fail))); all_goals (conv => whnf)
  refine LoopN.rounds Tryd.E0 Tryd.mx 1 rfl ?_
  (repeat' ((conv => whnf); (first | (refine IfN.id ?_; first | refine IfN.ff rfl ?_ | fail) | refine DrawN.mk' [] ?_ | fail))); all_goals (conv => whnf)
  exact EndN.det trivial (Wk.refl _)
def AddIH (a : Fm) : Prop := ∀ (H : Heap) (i : Nat) (ks : List UInt8), H[i]? = some (mpB ks) → VCall Tryd.prog 34 [.agg a.cells, .mp i] H (setR H i (mpB (addA ks a)) (.tup []))
theorem add_f1 (k : Nat) (hk : k = 3) (a : Fm) (ih : AddIH a) : AddIH (.f1 k a) := fun H i ks hi => by
  subst hk
  have h1 := fun X => ih (H ++ X) i ks (at_base' hi)
  rw [show (Fm.f1 3 a).cells = [.int .u8 (3 : Nat), .str .empty, .sl none 0 [], .sl none 1 [.int .u8 a.op, .str a.nmB, .sl none 0 [], .sl none a.sn a.sc]] from rfl]
  unfold Fm.cells at h1
  simp only [addA]
  generalize a.op = ao at h1 ⊢
  generalize a.nmB = an at h1 ⊢
  generalize a.sn = asn at h1 ⊢
  generalize a.sc = asc at h1 ⊢
  refine fn_gen Tryd.E0 Tryd.mx Tryd.func34 (by kernel_rfl) rfl (Nat.le_of_ble_eq_true rfl) rfl fun hcl hbl => ?_
  (repeat' ((conv => whnf); (first | (refine IfN.id ?_; first | refine IfN.ff rfl ?_ | fail) | refine DrawN.mk' [] ?_ | fail))); all_goals (conv => whnf)
  refine LoopN.rounds Tryd.E0 Tryd.mx 2 (by simp) ?_
  (repeat' ((conv => whnf); (first | (refine IfN.id ?_; first | refine IfN.tt rfl ?_ | refine IfN.ff rfl ?_ | fail) | (refine EqN.id ?_; first | (refine EqN.addN _ _ (by first | with_reducible rfl | with_reducible exact cst1 | with_reducible exact cst0 | with_reducible exact cst2 | with_reducible exact cst3 | with_reducible exact cst4 | with_reducible exact cst5 | with_reducible exact cst6 | with_reducible exact cst7 | with_reducible exact cst8 | with_reducible exact cst14 | with_reducible exact cst15 | with_reducible exact cst25 | with_reducible exact cst30 | with_reducible exact cst31 | fail) (by first | with_reducible rfl | with_reducible exact cst1 | with_reducible exact cst0 | with_reducible exact cst2 | with_reducible exact cst3 | with_reducible exact cst4 | with_reducible exact cst5 | with_reducible exact cst6 | with_reducible exact cst7 | with_reducible exact cst8 | with_reducible exact cst14 | with_reducible exact cst15 | with_reducible exact cst25 | with_reducible exact cst30 | with_reducible exact cst31 | fail) ?_ ?_; · (repeat' (first | omega | refine And.intro ?_ ?_ | exact bnd_andl (by omega) | exact bnd_andr (by omega) | refine bnd_or ?_ ?_ | refine bnd_or31 ?_ ?_ | refine bnd_xor ?_ ?_ | refine bnd_xor31 ?_ ?_ | refine bnd_shr ?_ | refine bnd_shl ?_ ?_ | refine bnd_mod ?_ | refine bnd_andl ?_ | fail))) | fail) | (refine SideN.mk ?_ ?_; · first | kernel_rfl | omega | exact List.cons_ne_nil _ _ | (simp; done) | (simp; omega) | exact trivial | assumption | fail) | refine CallN.setB i _ _ _ _ hi (by simp) rfl (h1 _) rfl ?_ | refine SegN.mk _ (seg_rfl rfl) ?_ | refine DrawN.mk' [] ?_ | fail))); all_goals (conv => whnf)
  exact EndN.setB (mpB_below _ _) trivial (Wk.refl _)
theorem add_f2 (k : Nat) (hk : k = 4 ∨ k = 5 ∨ k = 6 ∨ k = 7) (a b : Fm) (iha : AddIH a) (ihb : AddIH b) : AddIH (.f2 k a b) := fun H i ks hi => by
  have h1 := fun X => iha (H ++ X) i ks (at_base' hi)
  have h2 := fun X => ihb (H.set i (mpB (addA ks a)) ++ X) i (addA ks a) (at_base' (at_set hi))
  rw [show (Fm.f2 k a b).cells = [.int .u8 (k : Nat), .str .empty, .sl none 0 [], .sl none 2 [.int .u8 a.op, .str a.nmB, .sl none 0 [], .sl none a.sn a.sc, .int .u8 b.op, .str b.nmB, .sl none 0 [], .sl none b.sn b.sc]] from rfl]
  unfold Fm.cells at h1 h2
  simp only [addA]
  generalize a.op = ao at h1 ⊢
  generalize a.nmB = an at h1 ⊢
  generalize a.sn = asn at h1 ⊢
  generalize a.sc = asc at h1 ⊢
  generalize b.op = bo at h2 ⊢
  generalize b.nmB = bn at h2 ⊢
  generalize b.sn = bsn at h2 ⊢
  generalize b.sc = bsc at h2 ⊢
  refine fn_gen Tryd.E0 Tryd.mx Tryd.func34 (by kernel_rfl) rfl (Nat.le_of_ble_eq_true rfl) rfl fun hcl hbl => ?_
  (repeat' ((conv => whnf); (first | (refine IfN.id ?_; first | refine IfN.dF (by omega) ?_ | fail) | refine DrawN.mk' [] ?_ | fail))); all_goals (conv => whnf)
  refine LoopN.rounds Tryd.E0 Tryd.mx 3 (by simp) ?_
  (repeat' ((conv => whnf); (first | (refine IfN.id ?_; first | refine IfN.tt rfl ?_ | fail) | (refine EqN.id ?_; first | (refine EqN.addN _ _ (by first | with_reducible rfl | with_reducible exact cst1 | with_reducible exact cst0 | with_reducible exact cst2 | with_reducible exact cst3 | with_reducible exact cst4 | with_reducible exact cst5 | with_reducible exact cst6 | with_reducible exact cst7 | with_reducible exact cst8 | with_reducible exact cst14 | with_reducible exact cst15 | with_reducible exact cst25 | with_reducible exact cst30 | with_reducible exact cst31 | fail) (by first | with_reducible rfl | with_reducible exact cst1 | with_reducible exact cst0 | with_reducible exact cst2 | with_reducible exact cst3 | with_reducible exact cst4 | with_reducible exact cst5 | with_reducible exact cst6 | with_reducible exact cst7 | with_reducible exact cst8 | with_reducible exact cst14 | with_reducible exact cst15 | with_reducible exact cst25 | with_reducible exact cst30 | with_reducible exact cst31 | fail) ?_ ?_; · (repeat' (first | omega | refine And.intro ?_ ?_ | exact bnd_andl (by omega) | exact bnd_andr (by omega) | refine bnd_or ?_ ?_ | refine bnd_or31 ?_ ?_ | refine bnd_xor ?_ ?_ | refine bnd_xor31 ?_ ?_ | refine bnd_shr ?_ | refine bnd_shl ?_ ?_ | refine bnd_mod ?_ | refine bnd_andl ?_ | fail))) | fail) | (refine SideN.mk ?_ ?_; · first | kernel_rfl | omega | exact List.cons_ne_nil _ _ | (simp; done) | (simp; omega) | exact trivial | assumption | fail) | refine CallN.setB i _ _ _ _ hi (by simp) rfl (h1 _) rfl ?_ | refine SegN.mk _ (seg_rfl rfl) ?_ | refine DrawN.mk' [] ?_ | fail))); all_goals (conv => whnf)
  (repeat' ((conv => whnf); (first | (refine IfN.id ?_; first | refine IfN.ff rfl ?_ | fail) | (refine EqN.id ?_; first | (refine EqN.addN _ _ (by first | with_reducible rfl | with_reducible exact cst1 | with_reducible exact cst0 | with_reducible exact cst2 | with_reducible exact cst3 | with_reducible exact cst4 | with_reducible exact cst5 | with_reducible exact cst6 | with_reducible exact cst7 | with_reducible exact cst8 | with_reducible exact cst14 | with_reducible exact cst15 | with_reducible exact cst25 | with_reducible exact cst30 | with_reducible exact cst31 | fail) (by first | with_reducible rfl | with_reducible exact cst1 | with_reducible exact cst0 | with_reducible exact cst2 | with_reducible exact cst3 | with_reducible exact cst4 | with_reducible exact cst5 | with_reducible exact cst6 | with_reducible exact cst7 | with_reducible exact cst8 | with_reducible exact cst14 | with_reducible exact cst15 | with_reducible exact cst25 | with_reducible exact cst30 | with_reducible exact cst31 | fail) ?_ ?_; · (repeat' (first | omega | refine And.intro ?_ ?_ | exact bnd_andl (by omega) | exact bnd_andr (by omega) | refine bnd_or ?_ ?_ | refine bnd_or31 ?_ ?_ | refine bnd_xor ?_ ?_ | refine bnd_xor31 ?_ ?_ | refine bnd_shr ?_ | refine bnd_shl ?_ ?_ | refine bnd_mod ?_ | refine bnd_andl ?_ | fail))) | fail) | refine CallN.setB i _ _ _ _ (at_set hi) (by simp) rfl (h2 _) (List.set_set ..) ?_ | refine DrawN.mk' [] ?_ | fail))); all_goals (conv => whnf)
  exact EndN.setB (mpB_below _ _) trivial (Wk.refl _)
theorem add_c : ∀ f : Fm, f.Pr → AddIH f
  | .at c, _ => add_at c
  | .fa, _ => add_fa
  | .f1 k a, h => add_f1 k h.1 a (add_c a h.2)
  | .f2 k a b, h => add_f2 k h.1 a b (add_c a h.2.1) (add_c b h.2.2)
end Go.Proofs.YtekhodpmpjehaaaDoor
/-! text P10 -/
namespace Go.Proofs.YtekhodpmpjehaaaDoor
open Go.Vsi
open Go.Maps Go.Sort Go.Shelf Go.RowKit
open Go.WideElems (Fit rg)
open Go.WideShapes (sorted_perm)

/-! ### the sorted keys of a set of names -/
theorem sorts35 (m : Nat) : AnyZ.SortsIn Tryd.prog Tryd.sorted35_ren Fence.wide m :=
  ⟨fun blk off cap ss W hH hblk hsz => callsIn_wide.2 (AnyM.slices_Sort_string Tryd.sort46 blk off cap ss W hH hblk hsz),
   fun p cap W => callsIn_wide.2 (AnyM.slices_Sort_string_none Tryd.sort46 p cap W)⟩
def sortU (ks : List UInt8) : List UInt8 := ks.mergeSort (fun a b => decide (a ≤ b))
theorem ext_below {g : G} {w w' : World} (h : Below w.heap.size w w') : Ext g w g w' :=
  ⟨Nat.le_refl _, fun _ _ h => h, fun _ h => h, fun _ _ => rfl, fun _ _ => .inl rfl, fun _ _ _ h => h, h.os, h.tape, h.output, h.size, fun b hb _ => h.block b hb, fun b cs t fz hb => ⟨cs, by rw [h.block b (lt_size hb)]; exact hb, rfl, fun _ _ => rfl⟩⟩
theorem keys_of {g : G} {w : World} : ∀ {ks : List UInt8} {l : List Value}, LRel g w (ks.map fun c => .str (nm c)) l → l = ks.map fun c => .string (nm c)
  | [], _, h => by simpa [LRel] using h
  | c :: ks, _, h => by
    simp only [List.map_cons, LRel] at h
    obtain ⟨v, r, rfl, h1, h2⟩ := h
    simp only [VRel] at h1
    subst h1
    rw [keys_of h2]
    rfl
theorem nm_inj {c d : UInt8} (h : nm c = nm d) : c = d := by
  have := congrArg ByteArray.toList h
  rw [nm_list, nm_list] at this
  exact nmL_inj c d this
def keyB : Value → List UInt8
  | .string s => s.data.toList
  | _ => []
def anyR (_ : Value) : Option (DataW Unit × List MemPlace) := some (.nil, [])
theorem own_of {g : G} {w : World} {b : Nat} {es : Array MapEntry} {clk : Nat} {ks : List UInt8} (hb : w.heap[b]? = some (.map es clk)) (hclk : clk = es.size) (hbn : ∀ (j : Nat) e, es[j]? = some e → e.born = j)
    (hk : LRel g w (ks.map fun c => .str (nm c)) (es.toList.map (·.key))) (hn : ks.Nodup) (hl : ks.length ≤ 100000) : ∃ D0 : DataW Unit, w.ownsMap Tryd.prog 9 anyR b ks.length D0 ∧ (strKeys D0).Perm (ks.map fun c => nmL c) ∧ Maps.size D0 = ks.length := by
  have hk := keys_of hk
  have hlen : es.size = ks.length := by
    have := congrArg List.length hk
    simpa using this
  have hu : Tryd.prog.underlying 9 = some .string := Tryd.underlying9
  have hkey : ∀ x ∈ es.toList, ∃ c ∈ ks, x.key = .string (nm c) := fun x hx => by
    have : x.key ∈ es.toList.map (·.key) := List.mem_map.2 ⟨x, hx, rfl⟩
    rw [hk] at this
    obtain ⟨c, hc, e⟩ := List.mem_map.1 this
    exact ⟨c, hc, e.symm⟩
  have hrd : ∀ x ∈ es.toList, ∀ c, x.key = .string (nm c) → Go.WideElems.rd Tryd.prog 9 anyR x = some (.string (nmL c), .nil) := fun x hx c hc => by
    unfold Go.WideElems.rd keyOf
    rw [hu, hc]
    simp only [mapKey, hu]
    rw [if_pos (show (nm c).size ≤ maxLen by have := nmL_len c; rw [nm_size]; unfold maxLen; omega)]
    rfl
  refine ⟨_, ⟨es, clk, hb, ⟨by rw [hlen]; simp only [maxLen]; omega, ⟨fun x hx => ?_, ?_, ?_⟩, fun x hx => ?_⟩, by omega, rfl⟩, ?_, ?_⟩
  · obtain ⟨j, hj⟩ := List.getElem?_of_mem hx
    rw [Array.getElem?_toList] at hj
    have h1 := hbn j x hj
    have := (Array.getElem?_eq_some_iff.1 hj).1
    omega
  · have : es.toList.map (·.born) = List.range es.size := by
      apply List.ext_getElem?
      intro j
      rw [List.getElem?_map, Array.getElem?_toList]
      by_cases hj : j < es.size
      · rw [Array.getElem?_eq_getElem hj, List.getElem?_range hj]
        simp [hbn j _ (Array.getElem?_eq_getElem hj)]
      · rw [Array.getElem?_eq_none (by omega), List.getElem?_eq_none (by simpa using hj)]
        rfl
    rw [this]
    exact List.nodup_range
  · rw [hk]
    exact List.pairwise_map.2 (hn.imp fun {a b} hab e => hab (nm_inj (by simpa using e)))
  · obtain ⟨c, -, hc⟩ := hkey x hx
    exact ⟨_, hrd x hx c hc⟩
  · have h1 : (es.toList.map (rg Tryd.prog 9 anyR)).map (fun p => strOf p.1) = ks.map fun c => nmL c := by
      refine (List.map_map ..).trans ((List.map_congr_left (g := fun x => keyB x.key) fun x hx => ?_).trans ?_)
      · obtain ⟨c, -, hc⟩ := hkey x hx
        simp only [Function.comp]
        unfold rg
        rw [hrd x hx c hc, hc]
        rfl
      have h3 : es.toList.map (fun x => keyB x.key) = (es.toList.map (·.key)).map keyB := by rw [List.map_map]; rfl
      rw [h3, hk, List.map_map]
      rfl
    rw [← h1]
    exact (sorted_perm _).map _
  · show (((es.toList.map (rg Tryd.prog 9 anyR)).foldr DataW.insert []).length) = _
    rw [(sorted_perm _).length_eq]
    simp [hlen]
theorem sort_of {ks : List UInt8} {ss : List (List UInt8)} (h : ss.Perm (ks.map fun c => nmL c)) : (ss.mergeSort fun x y => decide (x ≤ y)) = (sortU ks).map fun c => nmL c := by
  refine (mergeSort_of_perm h).trans ?_
  unfold sortU
  refine (List.map_mergeSort fun a _ b _ => ?_).symm
  have : (a ≤ b) ↔ (nmL a ≤ nmL b) := by
    rw [← List.not_lt, nmL_lt, UInt8.le_iff_toNat_le]
    omega
  simp only [decide_eq_decide]
  exact this
theorem sorted_c (H : Heap) (i p : Nat) (ks : List UInt8) (hi : H[i]? = some (mpB ks)) (hp : H[p]? = some (.box 84 [.mp i])) (hn : ks.Nodup) (hl : ks.length ≤ 100000) :
    VDet Tryd.prog 35 [.clo (.func 47) [] [.ptr p 0]] H (.sl none ks.length ((sortU ks).flatMap encS)) := by
  refine ⟨⟨_, Tryd.func35, by kernel_rfl, rfl⟩, fun g w xs hH hL => ?_⟩
  obtain ⟨c, r, has, hc, hr⟩ := hL
  simp only [LRel] at hr
  subst hr
  simp only [VRel, fnG] at hc
  obtain ⟨-, f', c', rfl, hf, hc'⟩ := hc
  simp only [LRel, VRel] at hf hc'
  obtain ⟨q, r, hcl, ⟨-, rfl⟩, rfl⟩ := hc'
  have hf : f' = #[] := by simpa using congrArg List.toArray hf
  have hcl : c' = #[.pointer (some ⟨g.blk p, 0, none⟩)] := by simpa using congrArg List.toArray hcl
  have has : xs = #[.func (.func 47) f' c'] := by simpa using congrArg List.toArray has
  subst has hf hcl
  -- the map
  obtain ⟨es, clk, hb, ⟨hclk, hbn⟩, hk, -, -⟩ := hH.rel i _ (by simpa [Hp.all, Hp.of] using hi)
  obtain ⟨D0, hown, hperm, hsize⟩ := own_of hb hclk hbn hk hn hl
  -- its box
  obtain ⟨cs, hcs, hcr, -⟩ := hH.rel p _ (by simpa [Hp.all, Hp.of] using hp)
  simp only [LRel, VRel] at hcr
  obtain ⟨q, r, hcr, ⟨-, rfl⟩, rfl⟩ := hcr
  have hcr : cs = #[.map (some (g.blk i))] := by simpa using congrArg List.toArray hcr
  subst hcr
  have hseq : SeqGives Fence.wide 2 Tryd.prog 47 #[.pointer (some ⟨g.blk p, 0, none⟩)] encStr (fun ss => ss.Perm (strKeys D0)) (Maps.size D0) w :=
    AnyZ.keys_gives (ρ := Tryd.keys36_ren) { Tryd.keys36 with } Fence.wide _ trivial rfl (by omega) (g.blk p) (g.blk i) ks.length D0 w (lt_size hcs) (cell_iff.2 ⟨_, _, _, hcs, rfl⟩) hown
  have hcall := AnyZ.sorted_in Tryd.sorted35 Fence.wide 5 trivial trivial trivial trivial rfl (by omega) (sorts35 _) (enters_of Tryd.func46 (by kernel_rfl) rfl) 47 #[.pointer (some ⟨g.blk p, 0, none⟩)] trivial (enters_of Tryd.func47 (by kernel_rfl) rfl) _ _ (by rw [hsize]; unfold maxLen; omega) (by rw [hsize]; omega) w hseq
  change CallsIn _ _ Tryd.prog 35 _ _ _ at hcall
  refine (callsIn_wide.1 hcall).mono ?_
  rintro e w' ⟨v, ss, rfl, hS, hrow, hnil, hbel⟩
  have hsort := sort_of (hS.trans hperm)
  have hlen : ss.length = ks.length := by rw [(hS.trans hperm).length_eq]; simp
  rw [hsort] at hrow
  have hx : Ext g w g w' := ext_below hbel
  refine ⟨_, _, g, v, rfl, ⟨rfl, rfl⟩, hH.keepAll hx fun b hb => hbel.block b hb, ?_, hx⟩
  have henc : ((sortU ks).map fun c => nmL c).map encStr = (sortU ks).map fun c => .string (nm c) := by
    rw [List.map_map]; rfl
  rw [henc, hlen] at hrow
  simp only [VRel]
  rcases hrow.2 with ⟨rfl, h0⟩ | ⟨gb, cap, cur, rfl, hbase, hgb, h1, h2, h3, h4⟩
  · have : sortU ks = [] := by
      apply List.eq_nil_of_length_eq_zero
      have := hrow.1
      simp at this
      omega
    rw [this, h0]
    exact ⟨none, 0, rfl, Nat.le_refl _, .inl rfl, fun t e => by cases e⟩
  · refine ⟨_, cap, rfl, h1, .inr ⟨gb, 0, rfl, MRel.mk fun j u hj => ?_⟩, fun t e => by cases e⟩
    have hfm : (sortU ks).flatMap encS = (sortU ks).map fun c => .str (nm c) := by
      exact List.map_eq_flatMap.symm
    rw [hfm, List.getElem?_map] at hj
    obtain ⟨c, hc, rfl⟩ := Option.map_eq_some_iff.1 hj
    refine ⟨.string (nm c), cell_iff.2 ⟨cur, _, _, hgb, ?_⟩, by simp [VRel], fun ho => ?_⟩
    · have h5 := congrArg (fun l => l[j]?) h4
      simp only [List.getElem?_map, hc, Option.map_some] at h5
      rw [List.getElem?_take] at h5
      split at h5
      · simpa using h5
      · cases h5
    · have := hH.lt _ _ ho
      omega
end Go.Proofs.YtekhodpmpjehaaaDoor
/-! text Q10 -/
namespace Go.Proofs.YtekhodpmpjehaaaDoor
open Go.Vsi
set_option maxHeartbeats 1000000
attribute [local irreducible] VW VCall VO bits

theorem mpB_belowK (n : Nat) : ∀ ks : List UInt8, belowL n (ks.map fun c => .str (nm c))
  | [] => trivial
  | _ :: l => ⟨trivial, mpB_belowK n l⟩
theorem mpB_belowV (n : Nat) : ∀ ks : List UInt8, belowL n (ks.map fun _ => .bool true)
  | [] => trivial
  | _ :: l => ⟨trivial, mpB_belowV n l⟩
/-! ### the atoms of formulas -/
theorem getD_mem {α : Type} {d : α} : ∀ (l : List α) (j : Nat), j < l.length → l.getD j d ∈ l
  | [], _, h => absurd h (by simp)
  | _ :: _, 0, _ => by simp
  | _ :: l, j + 1, h => by
    simp only [List.getD_cons_succ]
    exact List.mem_cons_of_mem _ (getD_mem l j (by simpa using h))
def addL (ks : List UInt8) : List Fm → List UInt8
  | [] => ks
  | f :: l => addL (addA ks f) l
def namesL (l : List Fm) : List UInt8 := sortU (addL [] l)
theorem insK_nodup {ks : List UInt8} (h : ks.Nodup) (c : UInt8) : (insK ks c).Nodup := by
  unfold insK
  split
  · exact h
  · rename_i hc
    exact List.nodup_append.2 ⟨h, by simp, fun a ha b hb => by
      simp only [List.mem_singleton] at hb
      subst hb
      rintro rfl
      exact hc ha⟩
theorem addA_nodup : ∀ (f : Fm) {ks : List UInt8}, ks.Nodup → (addA ks f).Nodup
  | .at c, _, h => insK_nodup h c
  | .fa, _, h => h
  | .f1 _ a, _, h => addA_nodup a h
  | .f2 _ a b, _, h => addA_nodup b (addA_nodup a h)
theorem addL_nodup : ∀ (l : List Fm) {ks : List UInt8}, ks.Nodup → (addL ks l).Nodup
  | [], _, h => h
  | f :: l, _, h => addL_nodup l (addA_nodup f h)
theorem addA_len : ∀ (f : Fm) (ks : List UInt8), (addA ks f).length ≤ ks.length + f.nodes
  | .at c, ks => by simp only [addA, insK, Fm.nodes]; split <;> simp
  | .fa, ks => by simp [addA]
  | .f1 _ a, ks => by have := addA_len a ks; simp only [addA, Fm.nodes]; omega
  | .f2 _ a b, ks => by have := addA_len a ks; have := addA_len b (addA ks a); simp only [addA, Fm.nodes]; omega
def nodesL : List Fm → Nat
  | [] => 0
  | f :: l => f.nodes + nodesL l
theorem addL_len : ∀ (l : List Fm) (ks : List UInt8), (addL ks l).length ≤ ks.length + nodesL l
  | [], ks => by simp [addL]
  | f :: l, ks => by have := addA_len f ks; have := addL_len l (addA ks f); simp only [addL, nodesL]; omega
theorem addL_take (l : List Fm) (ks : List UInt8) (j : Nat) (hj : j < l.length) : addA (addL ks (l.take j)) (l.getD j .fa) = addL ks (l.take (j + 1)) := by
  induction l generalizing ks j with
  | nil => simp at hj
  | cons f l ih =>
    cases j with
    | zero => simp [addL]
    | succ j =>
      simp only [List.length_cons] at hj
      simp only [List.take_succ_cons, addL, List.getD_cons_succ]
      exact ih _ _ (by omega)
theorem keys_c (H : Heap) (i : Nat) : VCall Tryd.prog 36 [.mp i] H (fun r H' => r = .clo (.func 47) [] [.ptr (H.length + 0) 0] ∧ H' = H ++ [.box 84 [.mp i]]) := by
  refine fn_gen Tryd.E0 Tryd.mx Tryd.func36 (by kernel_rfl) rfl (Nat.le_of_ble_eq_true rfl) rfl fun hcl hbl => ?_
  (repeat' ((conv => whnf); (first | refine DrawN.mk' [] ?_ | fail))); all_goals (conv => whnf)
  exact EndN.keep _ (Wk.refl _) ⟨rfl, rfl⟩
theorem atoms_c (l : List Fm) (hl : ∀ f ∈ l, f.Pr) (hn : nodesL l ≤ 1000) (hlen : l.length ≤ 1000) (H : Heap) : VDet Tryd.prog 18 [.sl none l.length (l.flatMap Fm.cells)] H (.sl none (namesL l).length ((namesL l).flatMap encS)) := by
  refine fn_det Tryd.E0 Tryd.mx Tryd.func18 (by kernel_rfl) rfl (Nat.le_of_ble_eq_true rfl) rfl fun hcl hbl => ?_
  (repeat' ((conv => whnf); (first | refine DrawN.mk' [] ?_ | fail))); all_goals (conv => whnf)
  refine loop_R Tryd.E0 Tryd.mx (σ := Nat) (fun j => j ≤ l.length) (fun j => l.length - j) (fun j => [(9, .v (.int .i64 j))]) (fun j => [mpB (addL [] (l.take j))]) _ 0 rfl hcl [3, 7, 8] rfl (Nat.zero_le _) ⟨⟨_, rfl, Wk.refl _⟩, trivial⟩ rfl (fun _ _ => rfl) ?_
  intro j hj
  clear hbl
  have hpr : j < l.length → (l.getD j .fa).Pr := fun hjl => hl _ (getD_mem l j hjl)
  have h34 : ∀ (hjl : j < l.length) (X : Heap), VCall Tryd.prog 34 [.agg (l.getD j .fa).cells, .mp (H.length + 0)] (H ++ (mpB (addL [] (l.take j)) :: X)) (setR (H ++ (mpB (addL [] (l.take j)) :: X)) (H.length + 0) (mpB (addL [] (l.take (j + 1)))) (.tup [])) := fun hjl X => by
    rw [← addL_take l [] j hjl]
    exact add_c _ (hpr hjl) _ _ _ (by simp)
  (repeat' ((conv => whnf); (first | (refine IfN.id ?_; first | refine IfN.dec (fun _ => ?_) (fun _ => ?_) | fail) | (refine EqN.id ?_; first | (refine EqN.addN _ _ (by first | with_reducible rfl | with_reducible exact cst1 | with_reducible exact cst0 | with_reducible exact cst2 | with_reducible exact cst3 | with_reducible exact cst4 | with_reducible exact cst5 | with_reducible exact cst6 | with_reducible exact cst7 | with_reducible exact cst8 | with_reducible exact cst14 | with_reducible exact cst15 | with_reducible exact cst25 | with_reducible exact cst30 | with_reducible exact cst31 | fail) (by first | with_reducible rfl | with_reducible exact cst1 | with_reducible exact cst0 | with_reducible exact cst2 | with_reducible exact cst3 | with_reducible exact cst4 | with_reducible exact cst5 | with_reducible exact cst6 | with_reducible exact cst7 | with_reducible exact cst8 | with_reducible exact cst14 | with_reducible exact cst15 | with_reducible exact cst25 | with_reducible exact cst30 | with_reducible exact cst31 | fail) ?_ ?_; · (repeat' (first | omega | refine And.intro ?_ ?_ | exact bnd_andl (by omega) | exact bnd_andr (by omega) | refine bnd_or ?_ ?_ | refine bnd_or31 ?_ ?_ | refine bnd_xor ?_ ?_ | refine bnd_xor31 ?_ ?_ | refine bnd_shr ?_ | refine bnd_shl ?_ ?_ | refine bnd_mod ?_ | refine bnd_andl ?_ | fail))) | fail) | (refine SideN.mk ?_ ?_; · first | kernel_rfl | omega | exact List.cons_ne_nil _ _ | (simp; done) | (simp; omega) | exact trivial | assumption | fail) | refine SegN.nth .fa j rfl (by omega) (fun _ => rfl) ?_ | refine CallN.setL 0 _ _ _ rfl rfl (h34 (by omega) _) rfl ?_ | refine CallN.grow _ _ _ 2 (keys_c _ _) rfl rfl rfl ?_ | refine DrawN.mk' [] ?_ | fail))); all_goals (conv => whnf)
  · unfold mpB
    (refine ⟨⟨j + 1, by omega, by omega, ?_, .inl ⟨rfl, rfl⟩, rfl, _, rfl, ?_⟩⟩; rotate_left 1; (first | exact .inl rfl | exact .inr ⟨by simp [belowRE, below, belowL, tr, mpB_belowK, mpB_belowV, encS_below], by simp [belowH, Blk.below, belowL, below, mpB_belowK, mpB_belowV, encS_below]⟩ | fail); (repeat' (first | exact trivial | refine ⟨⟨_, rfl, ?_⟩, ?_⟩ | fail)); all_goals try (first | exact Wk.refl _ | exact Wk.of_eq (congrArg (AV.int _) (by omega)) | fail))
  · obtain rfl : j = l.length := by omega
    rw [List.take_length]
    have hk := addL_len l []
    have hs : (namesL l).length = (addL [] l).length := by unfold namesL sortU; exact List.length_mergeSort _
    have h35 := sorted_c (H ++ [mpB (addL [] l), .box 84 [.mp (H.length + 0)]]) (H.length + 0) ((H ++ [mpB (addL [] l)]).length + 0) (addL [] l) (by simp) (by simp) (addL_nodup l List.nodup_nil) (by simp at hk; omega)
    rw [← hs] at h35
    unfold namesL at hs ⊢
    (repeat' ((conv => whnf); (first | (refine CallN.id ?_; first | refine CallN.det _ (h35) ?_ | fail) | refine DrawN.mk' [] ?_ | fail))); all_goals (conv => whnf)
    exact EndN.det ⟨fun _ e => (nomatch e), encS_below _ _⟩ (Wk.refl _)
end Go.Proofs.YtekhodpmpjehaaaDoor
/-! text RA10 -/
namespace Go.Proofs.YtekhodpmpjehaaaDoor
open Go.Vsi
set_option maxHeartbeats 1000000
attribute [local irreducible] VW VCall VO bits

def ixV (n : Nat) : List AV := (List.range n).map fun j : Nat => .int .i64 (j : Int)
theorem ixV_below (n m : Nat) : belowL n (ixV m) := by
  unfold ixV
  induction List.range m with
  | nil => trivial
  | cons x l ih => exact ⟨trivial, ih⟩
/-! ### allRight -/
structure Fm.Good (f : Fm) : Prop where
  ok : f.Ok
  small : f.Small
  pr : f.Pr
theorem allRight_c (l : List Fm) (hl : ∀ f ∈ l, f.Good) (hlen : l.length ≤ 1000) (H : Heap) : VDet Tryd.prog 43 [.sl none l.length (l.flatMap Fm.cells)] H (.bool true) := by
  refine fn_det Tryd.E0 Tryd.mx Tryd.func43 (by kernel_rfl) rfl (Nat.le_of_ble_eq_true rfl) rfl fun hcl hbl => ?_
  (repeat' ((conv => whnf); (first | refine DrawN.mk' [] ?_ | fail))); all_goals (conv => whnf)
  refine loop_R Tryd.E0 Tryd.mx (σ := Nat) (fun j => j ≤ l.length) (fun j => l.length - j) (fun j => [(7, .v (.int .i64 j))]) (fun j => []) _ 0 rfl hcl [5, 6] rfl (Nat.zero_le _) ⟨⟨_, rfl, Wk.refl _⟩, trivial⟩ rfl (fun _ _ => rfl) ?_
  intro j hj
  clear hbl
  have hr : ∀ (X : Heap), j < l.length → VDet Tryd.prog 27 [.agg (l.getD j .fa).cells] X (.bool true) := fun X hjl => by
    have := hl _ (getD_mem (d := Fm.fa) l j hjl)
    exact right_c _ this.ok this.small this.pr _
  (repeat' ((conv => whnf); (first | (refine IfN.id ?_; first | refine IfN.not ?_ | refine IfN.tt rfl ?_ | refine IfN.dec (fun _ => ?_) (fun _ => ?_) | fail) | (refine EqN.id ?_; first | (refine EqN.addN _ _ (by first | with_reducible rfl | with_reducible exact cst1 | with_reducible exact cst0 | with_reducible exact cst2 | with_reducible exact cst3 | with_reducible exact cst4 | with_reducible exact cst5 | with_reducible exact cst6 | with_reducible exact cst7 | with_reducible exact cst8 | with_reducible exact cst14 | with_reducible exact cst15 | with_reducible exact cst25 | with_reducible exact cst30 | with_reducible exact cst31 | fail) (by first | with_reducible rfl | with_reducible exact cst1 | with_reducible exact cst0 | with_reducible exact cst2 | with_reducible exact cst3 | with_reducible exact cst4 | with_reducible exact cst5 | with_reducible exact cst6 | with_reducible exact cst7 | with_reducible exact cst8 | with_reducible exact cst14 | with_reducible exact cst15 | with_reducible exact cst25 | with_reducible exact cst30 | with_reducible exact cst31 | fail) ?_ ?_; · (repeat' (first | omega | refine And.intro ?_ ?_ | exact bnd_andl (by omega) | exact bnd_andr (by omega) | refine bnd_or ?_ ?_ | refine bnd_or31 ?_ ?_ | refine bnd_xor ?_ ?_ | refine bnd_xor31 ?_ ?_ | refine bnd_shr ?_ | refine bnd_shl ?_ ?_ | refine bnd_mod ?_ | refine bnd_andl ?_ | fail))) | fail) | (refine SideN.mk ?_ ?_; · first | kernel_rfl | omega | exact List.cons_ne_nil _ _ | (simp; done) | (simp; omega) | exact trivial | assumption | fail) | (refine CallN.id ?_; first | refine CallN.det _ (hr _ (by omega)) ?_ | fail) | refine SegN.nth .fa j rfl (by omega) (fun _ => rfl) ?_ | refine DrawN.mk' [] ?_ | fail))); all_goals (conv => whnf)
  · (refine ⟨⟨j + 1, by omega, by omega, ?_, .inl ⟨rfl, rfl⟩, rfl, _, rfl, ?_⟩⟩; rotate_left 1; (first | exact .inl rfl | exact .inr ⟨by simp [belowRE, below, belowL, tr, mpB_belowK, mpB_belowV, encS_below, ixV_below], by simp [belowH, Blk.below, belowL, below, mpB_belowK, mpB_belowV, encS_below, ixV_below]⟩ | fail); (repeat' (first | exact trivial | refine ⟨⟨_, rfl, ?_⟩, ?_⟩ | fail)); all_goals try (first | exact Wk.refl _ | exact Wk.of_eq (congrArg (AV.int _) (by omega)) | fail))
  · exact EndN.det trivial (Wk.refl _)

theorem mem_getD : ∀ (l : List UInt8) (c : UInt8), c ∈ l → ∃ i, i < l.length ∧ l.getD i 0 = c
  | [], _, h => by simp at h
  | d :: l, c, h => by
    rcases List.mem_cons.1 h with rfl | h
    · exact ⟨0, by simp, rfl⟩
    · obtain ⟨i, h1, h2⟩ := mem_getD l c h
      exact ⟨i + 1, by simpa using h1, by simpa using h2⟩
/-! ### slices.Contains -/
theorem index_c (l : List UInt8) (c : UInt8) (hlen : l.length ≤ 1000) (H : Heap) : VPure Tryd.prog 61 [.sl none l.length (l.flatMap encS), .str (nm c)] H (fun r => ∃ i : Int, r = .int .i64 i ∧ (0 ≤ i ↔ c ∈ l)) := by
  refine fn_pure Tryd.E0 Tryd.mx Tryd.func61 (by kernel_rfl) rfl (Nat.le_of_ble_eq_true rfl) rfl fun hcl hbl => ?_
  (repeat' ((conv => whnf); (first | refine DrawN.mk' [] ?_ | fail))); all_goals (conv => whnf)
  refine loop_R Tryd.E0 Tryd.mx (σ := Nat) (fun j => j ≤ l.length ∧ ∀ i, i < j → l.getD i 0 ≠ c) (fun j => l.length - j) (fun j => [(8, .v (.int .i64 j))]) (fun j => []) _ 0 rfl hcl [0, 1, 7] rfl ⟨Nat.zero_le _, fun i hi => absurd hi (by omega)⟩ ⟨⟨_, rfl, Wk.refl _⟩, trivial⟩ rfl (fun _ _ => rfl) ?_
  intro j hj
  clear hbl
  (repeat' ((conv => whnf); (first | (refine IfN.id ?_; first | refine IfN.dec (fun _ => ?_) (fun _ => ?_) | (refine IfN.mk ?_ ?_ <;> intro _) | fail) | (refine EqN.id ?_; first | (refine EqN.addN _ _ (by first | with_reducible rfl | with_reducible exact cst1 | with_reducible exact cst0 | with_reducible exact cst2 | with_reducible exact cst3 | with_reducible exact cst4 | with_reducible exact cst5 | with_reducible exact cst6 | with_reducible exact cst7 | with_reducible exact cst8 | with_reducible exact cst14 | with_reducible exact cst15 | with_reducible exact cst25 | with_reducible exact cst30 | with_reducible exact cst31 | fail) (by first | with_reducible rfl | with_reducible exact cst1 | with_reducible exact cst0 | with_reducible exact cst2 | with_reducible exact cst3 | with_reducible exact cst4 | with_reducible exact cst5 | with_reducible exact cst6 | with_reducible exact cst7 | with_reducible exact cst8 | with_reducible exact cst14 | with_reducible exact cst15 | with_reducible exact cst25 | with_reducible exact cst30 | with_reducible exact cst31 | fail) ?_ ?_; · (repeat' (first | omega | refine And.intro ?_ ?_ | exact bnd_andl (by omega) | exact bnd_andr (by omega) | refine bnd_or ?_ ?_ | refine bnd_or31 ?_ ?_ | refine bnd_xor ?_ ?_ | refine bnd_xor31 ?_ ?_ | refine bnd_shr ?_ | refine bnd_shl ?_ ?_ | refine bnd_mod ?_ | refine bnd_andl ?_ | fail))) | fail) | (refine SideN.mk ?_ ?_; · first | kernel_rfl | omega | exact List.cons_ne_nil _ _ | (simp; done) | (simp; omega) | exact trivial | assumption | fail) | refine SegN.nth 0 j rfl (by omega) (fun _ => rfl) ?_ | refine DrawN.mk' [] ?_ | fail))); all_goals (conv => whnf)
  · rename_i h1 h2
    rw [nm_eq] at h2
    refine EndN.pure (v := .int .i64 j) trivial (Wk.refl _) ⟨j, rfl, ⟨fun _ => ?_, fun _ => by omega⟩⟩
    rw [eq_of_beq h2]
    exact getD_mem l j (by omega)
  · rename_i h1 h2
    rw [nm_eq] at h2
    have hno : l.getD j 0 ≠ c := fun e => by rw [e] at h2; simp at h2
    (refine ⟨⟨j + 1, ⟨by omega, fun i hi => by
      rcases Nat.lt_or_ge i j with h | h
      · exact hj.2 i h
      · obtain rfl : i = j := by omega
        exact hno⟩, by omega, ?_, .inl ⟨rfl, rfl⟩, rfl, _, rfl, ?_⟩⟩; rotate_left 1; (first | exact .inl rfl | exact .inr ⟨by simp [belowRE, below, belowL, tr, mpB_belowK, mpB_belowV, encS_below, ixV_below], by simp [belowH, Blk.below, belowL, below, mpB_belowK, mpB_belowV, encS_below, ixV_below]⟩ | fail); (repeat' (first | exact trivial | refine ⟨⟨_, rfl, ?_⟩, ?_⟩ | fail)); all_goals try (first | exact Wk.refl _ | exact Wk.of_eq (congrArg (AV.int _) (by omega)) | fail))
  · refine EndN.pure (v := .int .i64 (-1)) trivial (Wk.refl _) ⟨-1, rfl, ⟨fun h => absurd h (by omega), fun hc => ?_⟩⟩
    obtain ⟨i, hi, e⟩ := mem_getD l c hc
    exact absurd e (hj.2 i (by omega))
theorem contains_c (l : List UInt8) (c : UInt8) (hlen : l.length ≤ 1000) (H : Heap) : VDet Tryd.prog 48 [.sl none l.length (l.flatMap encS), .str (nm c)] H (.bool (decide (c ∈ l))) := by
  refine fn_det Tryd.E0 Tryd.mx Tryd.func48 (by kernel_rfl) rfl (Nat.le_of_ble_eq_true rfl) rfl fun hcl hbl => ?_
  (repeat' ((conv => whnf); (first | refine CallN.pure _ rfl rfl (index_c l c hlen _) ?_ | refine DrawN.mk' [] ?_ | fail))); all_goals (conv => whnf)
  rintro r ⟨i, rfl, hi⟩
  (repeat' ((conv => whnf); (first | refine DrawN.mk' [] ?_ | fail))); all_goals (conv => whnf)
  exact EndN.det trivial (Wk.of_eq (by simp [hi]))
/-! ### the table -/
def opsK : List AV := [.int .u8 2, .int .u8 3, .int .u8 4, .int .u8 5, .int .u8 6, .int .u8 7]
def opsV : List AV := [.clo (.func 52) [] [], .clo (.func 53) [] [], .clo (.func 54) [] [], .clo (.func 55) [] [], .clo (.func 56) [] [], .clo (.func 57) [] []]
def keyV (l : List UInt8) : List AV := l.map fun c => .str (nm c)
def tblV (l : List UInt8) : AV := .rptr [.rmp (keyV l) (ixV l.length), .rmp opsK opsV]
theorem ixV_succ (n : Nat) : ixV (n + 1) = ixV n ++ [.int .i64 n] := by
  unfold ixV
  rw [List.range_succ, List.map_append]
  rfl
theorem NmOk.lt {l : List UInt8} (h : NmOk l) : ∀ (k i : Nat), i < k → k < l.length → (l.getD i 0).toNat < (l.getD k 0).toNat
  | 0, i, hi, _ => by omega
  | k + 1, i, hi, hk => by
    have h1 := h.inc (k + 1) (by omega) hk
    rw [Nat.add_sub_cancel] at h1
    rcases Nat.lt_or_ge i k with h2 | h2
    · have := NmOk.lt h k i h2 (by omega)
      omega
    · obtain rfl : i = k := by omega
      exact h1
theorem getD_take (l : List UInt8) (j i : Nat) (h : i < j) : (l.take j).getD i 0 = l.getD i 0 := by
  simp only [List.getD_eq_getElem?_getD, List.getElem?_take, if_pos h]
theorem take_snoc (l : List UInt8) (j : Nat) (h : j < l.length) : l.take (j + 1) = l.take j ++ [l.getD j 0] := by
  rw [List.take_add_one, List.getElem?_eq_getElem h]
  simp [List.getD_eq_getElem?_getD, List.getElem?_eq_getElem h]
theorem put_ix (l : List UInt8) (hl : NmOk l) (j : Nat) (h : j < l.length) : MPut (eqV Tryd.kn Tryd.T 20 9) (keyV (l.take j)) (ixV j) (.str (nm (l.getD j 0))) (.int .i64 j) (keyV (l.take (j + 1))) (ixV (j + 1)) := by
  have hno : l.getD j 0 ∉ l.take j := fun hm => by
    obtain ⟨i, h1, h2⟩ := mem_getD _ _ hm
    simp only [List.length_take] at h1
    rw [getD_take l j i (by omega)] at h2
    have := hl.lt j i (by omega) h
    rw [h2] at this
    omega
  have := MPut.new (vs := ixV j) (v := .int .i64 j) ((mfind_nm (l.getD j 0) (l.take j)).2 hno)
  rw [ixV_succ, take_snoc l j h]
  unfold keyV
  rw [List.map_append]
  exact this
theorem newTable_c (l : List UInt8) (hl : NmOk l) (H : Heap) : VDet Tryd.prog 44 [.sl none l.length (l.flatMap encS)] H (tblV l) := by
  have hlen := hl.len
  refine fn_det Tryd.E0 Tryd.mx Tryd.func44 (by kernel_rfl) rfl (Nat.le_of_ble_eq_true rfl) rfl fun hcl hbl => ?_
  (repeat' ((conv => whnf); (first | refine RelN.mk _ _ ⟨⟨_, rfl⟩, .new (by kernel_rfl)⟩ ?_ | (refine PtrN.id ?_; first | refine PtrN.loc _ rfl ?_ | fail) | refine DrawN.mk' [] ?_ | fail))); all_goals (conv => whnf)
  refine loop_R Tryd.E0 Tryd.mx (σ := Nat) (fun j => j ≤ l.length) (fun j => l.length - j) (fun j => [(13, .v (.int .i64 j))]) (fun j => [.mp (keyV (l.take j)) (ixV j), .mp opsK opsV, .box 100 [.mp (H.length + 0), .mp (H.length + 1)]]) _ 0 rfl hcl [3, 11, 12] rfl (Nat.zero_le _) ⟨⟨_, rfl, Wk.refl _⟩, trivial⟩ rfl (fun _ _ => rfl) ?_
  intro j hj
  clear hbl
  (repeat' ((conv => whnf); (first | (refine IfN.id ?_; first | refine IfN.dec (fun _ => ?_) (fun _ => ?_) | fail) | (refine EqN.id ?_; first | (refine EqN.addN _ _ (by first | with_reducible rfl | with_reducible exact cst1 | with_reducible exact cst0 | with_reducible exact cst2 | with_reducible exact cst3 | with_reducible exact cst4 | with_reducible exact cst5 | with_reducible exact cst6 | with_reducible exact cst7 | with_reducible exact cst8 | with_reducible exact cst14 | with_reducible exact cst15 | with_reducible exact cst25 | with_reducible exact cst30 | with_reducible exact cst31 | fail) (by first | with_reducible rfl | with_reducible exact cst1 | with_reducible exact cst0 | with_reducible exact cst2 | with_reducible exact cst3 | with_reducible exact cst4 | with_reducible exact cst5 | with_reducible exact cst6 | with_reducible exact cst7 | with_reducible exact cst8 | with_reducible exact cst14 | with_reducible exact cst15 | with_reducible exact cst25 | with_reducible exact cst30 | with_reducible exact cst31 | fail) ?_ ?_; · (repeat' (first | omega | refine And.intro ?_ ?_ | exact bnd_andl (by omega) | exact bnd_andr (by omega) | refine bnd_or ?_ ?_ | refine bnd_or31 ?_ ?_ | refine bnd_xor ?_ ?_ | refine bnd_xor31 ?_ ?_ | refine bnd_shr ?_ | refine bnd_shl ?_ ?_ | refine bnd_mod ?_ | refine bnd_andl ?_ | fail))) | fail) | (refine SideN.mk ?_ ?_; · first | kernel_rfl | omega | exact List.cons_ne_nil _ _ | (simp; done) | (simp; omega) | exact trivial | assumption | fail) | refine SegN.nth 0 j rfl (by omega) (fun _ => rfl) ?_ | refine RelN.mk _ _ ⟨⟨_, rfl⟩, put_ix l hl j (by omega)⟩ ?_ | (refine PtrN.id ?_; first | refine PtrN.loc _ rfl ?_ | fail) | refine DrawN.mk' [] ?_ | fail))); all_goals (conv => whnf)
  · (refine ⟨⟨j + 1, by omega, by omega, ?_, .inl ⟨rfl, rfl⟩, rfl, _, rfl, ?_⟩⟩; rotate_left 1; (first | exact .inl rfl | exact .inr ⟨by simp [belowRE, below, belowL, tr, mpB_belowK, mpB_belowV, encS_below, ixV_below], by simp [belowH, Blk.below, belowL, below, mpB_belowK, mpB_belowV, encS_below, ixV_below]⟩ | fail); (repeat' (first | exact trivial | refine ⟨⟨_, rfl, ?_⟩, ?_⟩ | fail)); all_goals try (first | exact Wk.refl _ | exact Wk.of_eq (congrArg (AV.int _) (by omega)) | fail))
  · obtain rfl : j = l.length := by omega
    rw [List.take_length]
    refine EndN.detF (u' := tblV l) ?_ ?_ (Wk.refl _)
    · unfold tblV opsK opsV
      simp [below, belowL, fnBelow, mpB_belowK, keyV, ixV_below]
    · unfold tblV
      refine Frz.ptr rfl rfl (FrzL.cons (Frz.mp rfl (FrzL.refl _) (FrzL.refl _)) (FrzL.cons (Frz.mp rfl (FrzL.refl _) (FrzL.refl _)) FrzL.nil))
end Go.Proofs.YtekhodpmpjehaaaDoor
/-! text RB10 -/
namespace Go.Proofs.YtekhodpmpjehaaaDoor
open Go.Vsi
set_option maxHeartbeats 1000000

/-! ### numbers made of bits -/
def mkBits : Nat → (Nat → Bool) → Nat
  | 0, _ => 0
  | n + 1, g => (g 0).toNat + 2 * mkBits n fun i => g (i + 1)
theorem testBit_mk : ∀ (n : Nat) (g : Nat → Bool) (i : Nat), (mkBits n g).testBit i = (decide (i < n) && g i)
  | 0, g, i => by simp [mkBits]
  | n + 1, g, 0 => by
    simp only [mkBits, Nat.testBit_zero]
    cases g 0 <;> simp <;> omega
  | n + 1, g, i + 1 => by
    have h : (mkBits (n + 1) g) / 2 = mkBits n fun i => g (i + 1) := by
      simp only [mkBits]
      cases g 0 <;> simp <;> omega
    rw [Nat.testBit_succ, h, testBit_mk]
    simp
theorem mk_lt : ∀ (n : Nat) (g : Nat → Bool), mkBits n g < 2 ^ n
  | 0, _ => by simp [mkBits]
  | n + 1, g => by
    have := mk_lt n fun i => g (i + 1)
    simp only [mkBits, Nat.pow_succ]
    cases g 0 <;> simp <;> omega
theorem eq_mk {n x : Nat} {g : Nat → Bool} (hx : x < 2 ^ n) (h : ∀ i, i < n → x.testBit i = g i) : x = mkBits n g := by
  apply Nat.eq_of_testBit_eq
  intro i
  rw [testBit_mk]
  by_cases hi : i < n
  · simp [hi, h i hi]
  · rw [Nat.testBit_lt_two_pow (Nat.lt_of_lt_of_le hx (Nat.pow_le_pow_right (by omega) (by omega)))]
    simp [hi]
theorem mk_congr {n : Nat} {g h : Nat → Bool} (e : ∀ i, i < n → g i = h i) : mkBits n g = mkBits n h :=
  eq_mk (mk_lt n g) fun i hi => by rw [testBit_mk]; simp [hi, e i hi]
theorem wu64 {m : Nat} (h : m < 2 ^ 64) : IntKind.u64.wrap (m : Int) = m := IntWalk.u64_in m (by omega)
theorem ofInt64u (m : Nat) (h : m < 2 ^ 64) : (BitVec.ofInt 64 (m : Int)).toNat = m := by
  rw [BitVec.toNat_ofInt, Int.emod_eq_of_lt (by omega) (by omega)]
  simp
theorem bits_u64 (op : BinOp) (x y : Int) : bits op .u64 x y = ((match op with
      | .and => BitVec.ofInt 64 x &&& BitVec.ofInt 64 y
      | .or => BitVec.ofInt 64 x ||| BitVec.ofInt 64 y
      | .xor => BitVec.ofInt 64 x ^^^ BitVec.ofInt 64 y
      | _ => BitVec.ofInt 64 x &&& ~~~BitVec.ofInt 64 y).toNat : Nat) := by
  have : ∀ b : BitVec 64, IntKind.u64.wrap (b.toNat : Int) = b.toNat := fun b => wu64 b.isLt
  unfold bits
  cases op <;> exact this _
theorem tbU (m : Nat) (h : m < 2 ^ 64) (i : Nat) : (BitVec.ofInt 64 (m : Int)).toNat.testBit i = m.testBit i := by rw [ofInt64u m h]
theorem bits_and (g h : Nat → Bool) : bits .and .u64 (mkBits 64 g : Nat) (mkBits 64 h : Nat) = (mkBits 64 fun i => g i && h i : Nat) := by
  rw [bits_u64]
  refine congrArg Int.ofNat (eq_mk (BitVec.isLt _) fun i hi => ?_)
  simp only [BitVec.toNat_and, Nat.testBit_and, tbU _ (mk_lt 64 _), testBit_mk, hi, decide_true, Bool.true_and]
theorem bits_or (g h : Nat → Bool) : bits .or .u64 (mkBits 64 g : Nat) (mkBits 64 h : Nat) = (mkBits 64 fun i => g i || h i : Nat) := by
  rw [bits_u64]
  refine congrArg Int.ofNat (eq_mk (BitVec.isLt _) fun i hi => ?_)
  simp only [BitVec.toNat_or, Nat.testBit_or, tbU _ (mk_lt 64 _), testBit_mk, hi, decide_true, Bool.true_and]
theorem bits_xor (g h : Nat → Bool) : bits .xor .u64 (mkBits 64 g : Nat) (mkBits 64 h : Nat) = (mkBits 64 fun i => g i ^^ h i : Nat) := by
  rw [bits_u64]
  refine congrArg Int.ofNat (eq_mk (BitVec.isLt _) fun i hi => ?_)
  simp only [BitVec.toNat_xor, Nat.testBit_xor, tbU _ (mk_lt 64 _), testBit_mk, hi, decide_true, Bool.true_and]
theorem bits_andNot (g h : Nat → Bool) : bits .andNot .u64 (mkBits 64 g : Nat) (mkBits 64 h : Nat) = (mkBits 64 fun i => g i && !h i : Nat) := by
  rw [bits_u64]
  refine congrArg Int.ofNat (eq_mk (BitVec.isLt _) fun i hi => ?_)
  simp only [BitVec.toNat_and, BitVec.toNat_not, Nat.testBit_and]
  rw [Nat.sub_sub, Nat.add_comm 1, Nat.testBit_two_pow_sub_succ (BitVec.isLt _)]
  simp only [tbU _ (mk_lt 64 _), testBit_mk, hi, decide_true, Bool.true_and]
theorem comU : comK .u64 = ((mkBits 64 fun _ => true : Nat) : Int) := by decide
theorem bits_com (g : Nat → Bool) : bits .xor .u64 (comK .u64) (mkBits 64 g : Nat) = (mkBits 64 fun i => !g i : Nat) := by
  rw [comU, bits_xor]
  exact congrArg _ (mk_congr fun i _ => by simp)

/-! ### the closures of a table -/
attribute [local irreducible] VW VCall VO bits
def U (g : Nat → Bool) : AV := .int .u64 ((mkBits 64 g : Nat) : Int)
theorem op2_c (g h : Nat → Bool) (H : Heap) : VDet Tryd.prog 52 [U g, U h] H (U fun _ => false) := by
  unfold U
  refine fn_det Tryd.E0 Tryd.mx Tryd.func52 (by kernel_rfl) rfl (Nat.le_of_ble_eq_true rfl) rfl fun hcl hbl => ?_
  (repeat' ((conv => whnf); (first | refine DrawN.mk' [] ?_ | fail))); all_goals (conv => whnf)
  exact EndN.det trivial (Wk.of_eq (congrArg (AV.int .u64) (by decide)))
theorem op3_c (g h : Nat → Bool) (H : Heap) : VDet Tryd.prog 53 [U g, U h] H (U fun i => !g i) := by
  unfold U
  refine fn_det Tryd.E0 Tryd.mx Tryd.func53 (by kernel_rfl) rfl (Nat.le_of_ble_eq_true rfl) rfl fun hcl hbl => ?_
  (repeat' ((conv => whnf); (first | (refine EqN.id ?_; first | refine EqN.mk _ rfl ?_ | fail) | refine DrawN.mk' [] ?_ | fail))); all_goals (conv => whnf)
  exact EndN.det trivial (Wk.of_eq (congrArg (AV.int .u64) (bits_com g)))
theorem op4_c (g h : Nat → Bool) (H : Heap) : VDet Tryd.prog 54 [U g, U h] H (U fun i => g i && h i) := by
  unfold U
  refine fn_det Tryd.E0 Tryd.mx Tryd.func54 (by kernel_rfl) rfl (Nat.le_of_ble_eq_true rfl) rfl fun hcl hbl => ?_
  (repeat' ((conv => whnf); (first | (refine EqN.id ?_; first | refine EqN.mk _ rfl ?_ | fail) | refine DrawN.mk' [] ?_ | fail))); all_goals (conv => whnf)
  exact EndN.det trivial (Wk.of_eq (congrArg (AV.int .u64) (bits_and g h)))
theorem op5_c (g h : Nat → Bool) (H : Heap) : VDet Tryd.prog 55 [U g, U h] H (U fun i => g i || h i) := by
  unfold U
  refine fn_det Tryd.E0 Tryd.mx Tryd.func55 (by kernel_rfl) rfl (Nat.le_of_ble_eq_true rfl) rfl fun hcl hbl => ?_
  (repeat' ((conv => whnf); (first | (refine EqN.id ?_; first | refine EqN.mk _ rfl ?_ | fail) | refine DrawN.mk' [] ?_ | fail))); all_goals (conv => whnf)
  exact EndN.det trivial (Wk.of_eq (congrArg (AV.int .u64) (bits_or g h)))
theorem op6_c (g h : Nat → Bool) (H : Heap) : VDet Tryd.prog 56 [U g, U h] H (U fun i => !g i || h i) := by
  unfold U
  refine fn_det Tryd.E0 Tryd.mx Tryd.func56 (by kernel_rfl) rfl (Nat.le_of_ble_eq_true rfl) rfl fun hcl hbl => ?_
  (repeat' ((conv => whnf); (first | (refine EqN.id ?_; first | refine EqN.mk _ rfl ?_ | fail) | refine DrawN.mk' [] ?_ | fail))); all_goals (conv => whnf)
  exact EndN.det trivial (Wk.of_eq (congrArg (AV.int .u64) (by rw [bits_com, bits_or])))
theorem op7_c (g h : Nat → Bool) (H : Heap) : VDet Tryd.prog 57 [U g, U h] H (U fun i => g i == h i) := by
  unfold U
  refine fn_det Tryd.E0 Tryd.mx Tryd.func57 (by kernel_rfl) rfl (Nat.le_of_ble_eq_true rfl) rfl fun hcl hbl => ?_
  (repeat' ((conv => whnf); (first | (refine EqN.id ?_; first | refine EqN.mk _ rfl ?_ | fail) | refine DrawN.mk' [] ?_ | fail))); all_goals (conv => whnf)
  exact EndN.det trivial (Wk.of_eq (congrArg (AV.int .u64) (by
    rw [bits_xor, bits_com]
    exact congrArg _ (mk_congr fun i _ => by cases g i <;> cases h i <;> rfl))))
end Go.Proofs.YtekhodpmpjehaaaDoor
