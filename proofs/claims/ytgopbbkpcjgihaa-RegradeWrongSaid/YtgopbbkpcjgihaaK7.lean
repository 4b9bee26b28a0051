/- A text of the proof: the parts T38. -/
import Derived.Test.YtgopbbkpcjgihaaRows
import Derived.Test.YtgopbbkpcjgihaaK6
set_option linter.unusedSimpArgs false
set_option linter.unusedVariables false
/-! text T38 -/
namespace Go.Proofs.Ytgopbbkpcjgihaa
open Go.Vsi
def Try.gl : List (Nat × List AV) := []
theorem Try.gl_low : ∀ p ∈ Try.gl, belowL 0 p.2 := fun _ hp => (List.not_mem_nil hp).elim
instance Try.glob : Glob := ⟨Try.gl, Try.gl_low⟩
def Try.tl : List (Option TI) := [
  some ⟨.other, 1, 0, (some [.junk])⟩,
  some ⟨.fn, 1, 8, (some [.nilf])⟩,
  some ⟨.int .i64, 1, 8, (some [.int .i64 0])⟩,
  some ⟨.int .i64, 1, 8, (some [.int .i64 0])⟩,
  some ⟨.bool, 1, 1, (some [.bool false])⟩,
  some ⟨.int .u8, 1, 1, (some [.int .u8 0])⟩,
  some ⟨.int .u8, 1, 1, (some [.int .u8 0])⟩,
  some ⟨.st [(2, 0, 1, false), (3, 1, 1, false), (4, 2, 1, false), (6, 3, 1, false)], 4, 24, (some [.int .i64 0, .int .i64 0, .bool false, .int .u8 0])⟩,
  some ⟨.st [(2, 0, 1, false), (3, 1, 1, false), (4, 2, 1, false), (6, 3, 1, false)], 4, 24, (some [.int .i64 0, .int .i64 0, .bool false, .int .u8 0])⟩,
  some ⟨.str, 1, 16, (some [.str .empty])⟩,
  some ⟨.str, 1, 16, (some [.str .empty])⟩,
  some ⟨.str, 1, 16, (some [.str .empty])⟩,
  some ⟨.int .u64, 1, 8, (some [.int .u64 0])⟩,
  some ⟨.st [(9, 0, 1, false), (12, 1, 1, false)], 2, 24, (some [.str .empty, .int .u64 0])⟩,
  some ⟨.st [(9, 0, 1, false), (12, 1, 1, false)], 2, 24, (some [.str .empty, .int .u64 0])⟩,
  some ⟨.ptr 207, 1, 8, (some [.nilp])⟩,
  some ⟨.ptr 210, 1, 8, (some [.nilp])⟩,
  some ⟨.ptr 218, 1, 8, (some [.nilp])⟩,
  some ⟨.st [(17, 0, 1, false)], 1, 8, (some [.nilp])⟩,
  some ⟨.st [(17, 0, 1, false)], 1, 8, (some [.nilp])⟩,
  some ⟨.ifc, 1, 16, (some [.nili])⟩,
  some ⟨.int .i32, 1, 4, (some [.int .i32 0])⟩,
  some ⟨.sl 79, 1, 24, (some [.nils])⟩,
  some ⟨.sl 34, 1, 24, (some [.nils])⟩,
  some ⟨.st [(22, 0, 1, false), (23, 1, 1, false)], 2, 48, (some [.nils, .nils])⟩,
  some ⟨.st [(22, 0, 1, false), (23, 1, 1, false)], 2, 48, (some [.nils, .nils])⟩,
  some ⟨.sl 128, 1, 24, (some [.nils])⟩,
  some ⟨.st [(3, 0, 1, false), (3, 1, 1, false), (26, 2, 1, false), (3, 3, 1, false), (3, 4, 1, false), (3, 5, 1, false), (5, 6, 1, false)], 7, 72, (some [.int .i64 0, .int .i64 0, .nils, .int .i64 0, .int .i64 0, .int .i64 0, .int .u8 0])⟩,
  some ⟨.st [(3, 0, 1, false), (3, 1, 1, false), (26, 2, 1, false), (3, 3, 1, false), (3, 4, 1, false), (3, 5, 1, false), (5, 6, 1, false)], 7, 72, (some [.int .i64 0, .int .i64 0, .nils, .int .i64 0, .int .i64 0, .int .i64 0, .int .u8 0])⟩,
  some ⟨.st [(3, 0, 1, false), (28, 1, 7, false)], 8, 80, (some [.int .i64 0, .int .i64 0, .int .i64 0, .nils, .int .i64 0, .int .i64 0, .int .i64 0, .int .u8 0])⟩,
  some ⟨.st [(3, 0, 1, false), (28, 1, 7, false)], 8, 80, (some [.int .i64 0, .int .i64 0, .int .i64 0, .nils, .int .i64 0, .int .i64 0, .int .i64 0, .int .u8 0])⟩,
  some ⟨.st [(3, 0, 1, false), (3, 1, 1, false), (3, 2, 1, false), (3, 3, 1, false)], 4, 32, (some [.int .i64 0, .int .i64 0, .int .i64 0, .int .i64 0])⟩,
  some ⟨.st [(3, 0, 1, false), (3, 1, 1, false), (3, 2, 1, false), (3, 3, 1, false)], 4, 32, (some [.int .i64 0, .int .i64 0, .int .i64 0, .int .i64 0])⟩,
  some ⟨.st [(9, 0, 1, false), (9, 1, 1, false), (3, 2, 1, false), (32, 3, 4, false)], 7, 72, (some [.str .empty, .str .empty, .int .i64 0, .int .i64 0, .int .i64 0, .int .i64 0, .int .i64 0])⟩,
  some ⟨.st [(9, 0, 1, false), (9, 1, 1, false), (3, 2, 1, false), (32, 3, 4, false)], 7, 72, (some [.str .empty, .str .empty, .int .i64 0, .int .i64 0, .int .i64 0, .int .i64 0, .int .i64 0])⟩,
  some ⟨.fn, 1, 8, (some [.nilf])⟩,
  some ⟨.fn, 1, 8, (some [.nilf])⟩,
  some ⟨.sl 112, 1, 24, (some [.nils])⟩,
  some ⟨.sl 57, 1, 24, (some [.nils])⟩,
  some ⟨.st [(37, 0, 1, false), (38, 1, 1, false)], 2, 48, (some [.nils, .nils])⟩,
  some ⟨.st [(37, 0, 1, false), (38, 1, 1, false)], 2, 48, (some [.nils, .nils])⟩,
  some ⟨.fn, 1, 8, (some [.nilf])⟩,
  some ⟨.int .i64, 1, 8, (some [.int .i64 0])⟩,
  some ⟨.other, 1, 0, (some [.junk])⟩,
  some ⟨.fn, 1, 8, (some [.nilf])⟩,
  some ⟨.fn, 1, 8, (some [.nilf])⟩,
  some ⟨.sl 129, 1, 24, (some [.nils])⟩,
  some ⟨.st [(3, 0, 1, false), (3, 1, 1, false), (46, 2, 1, false), (3, 3, 1, false), (3, 4, 1, false), (3, 5, 1, false), (5, 6, 1, false)], 7, 72, (some [.int .i64 0, .int .i64 0, .nils, .int .i64 0, .int .i64 0, .int .i64 0, .int .u8 0])⟩,
  some ⟨.st [(3, 0, 1, false), (3, 1, 1, false), (46, 2, 1, false), (3, 3, 1, false), (3, 4, 1, false), (3, 5, 1, false), (5, 6, 1, false)], 7, 72, (some [.int .i64 0, .int .i64 0, .nils, .int .i64 0, .int .i64 0, .int .i64 0, .int .u8 0])⟩,
  some ⟨.fn, 1, 8, (some [.nilf])⟩,
  some ⟨.st [(3, 0, 1, false), (48, 1, 7, false)], 8, 80, (some [.int .i64 0, .int .i64 0, .int .i64 0, .nils, .int .i64 0, .int .i64 0, .int .i64 0, .int .u8 0])⟩,
  some ⟨.st [(3, 0, 1, false), (48, 1, 7, false)], 8, 80, (some [.int .i64 0, .int .i64 0, .int .i64 0, .nils, .int .i64 0, .int .i64 0, .int .i64 0, .int .u8 0])⟩,
  some ⟨.other, 1, 0, (some [.junk])⟩,
  some ⟨.fn, 1, 8, (some [.nilf])⟩,
  some ⟨.fn, 1, 8, (some [.nilf])⟩,
  some ⟨.st [(3, 0, 1, false), (3, 1, 1, false), (3, 2, 1, false), (3, 3, 1, false)], 4, 32, (some [.int .i64 0, .int .i64 0, .int .i64 0, .int .i64 0])⟩,
  some ⟨.st [(9, 0, 1, false), (9, 1, 1, false), (3, 2, 1, false), (55, 3, 4, false)], 7, 72, (some [.str .empty, .str .empty, .int .i64 0, .int .i64 0, .int .i64 0, .int .i64 0, .int .i64 0])⟩,
  some ⟨.st [(9, 0, 1, false), (9, 1, 1, false), (3, 2, 1, false), (55, 3, 4, false)], 7, 72, (some [.str .empty, .str .empty, .int .i64 0, .int .i64 0, .int .i64 0, .int .i64 0, .int .i64 0])⟩,
  some ⟨.fn, 1, 8, (some [.nilf])⟩,
  some ⟨.fn, 1, 8, (some [.nilf])⟩,
  some ⟨.fn, 1, 8, (some [.nilf])⟩,
  some ⟨.fn, 1, 8, (some [.nilf])⟩,
  some ⟨.sl 74, 1, 24, (some [.nils])⟩,
  some ⟨.other, 1, 0, (some [.junk])⟩,
  some ⟨.fn, 1, 8, (some [.nilf])⟩,
  some ⟨.sl 83, 1, 24, (some [.nils])⟩,
  some ⟨.other, 1, 0, (some [.junk])⟩,
  some ⟨.fn, 1, 8, (some [.nilf])⟩,
  some ⟨.int .u16, 1, 2, (some [.int .u16 0])⟩,
  some ⟨.sl 5, 1, 24, (some [.nils])⟩,
  some ⟨.st [(68, 0, 1, false), (5, 1, 1, false), (5, 2, 1, false), (5, 3, 1, false), (5, 4, 1, false), (5, 5, 1, false), (69, 6, 1, false), (69, 7, 1, false)], 8, 56, (some [.int .u16 0, .int .u8 0, .int .u8 0, .int .u8 0, .int .u8 0, .int .u8 0, .nils, .nils])⟩,
  some ⟨.st [(68, 0, 1, false), (5, 1, 1, false), (5, 2, 1, false), (5, 3, 1, false), (5, 4, 1, false), (5, 5, 1, false), (69, 6, 1, false), (69, 7, 1, false)], 8, 56, (some [.int .u16 0, .int .u8 0, .int .u8 0, .int .u8 0, .int .u8 0, .int .u8 0, .nils, .nils])⟩,
  some ⟨.int .u64, 1, 8, (some [.int .u64 0])⟩,
  some ⟨.st [(5, 0, 1, false), (5, 1, 1, false), (5, 2, 1, false), (5, 3, 1, false), (71, 4, 8, false), (72, 12, 1, false), (5, 13, 1, false), (5, 14, 1, false)], 15, 80, (some [.int .u8 0, .int .u8 0, .int .u8 0, .int .u8 0, .int .u16 0, .int .u8 0, .int .u8 0, .int .u8 0, .int .u8 0, .int .u8 0, .nils, .nils, .int .u64 0, .int .u8 0, .int .u8 0])⟩,
  some ⟨.st [(5, 0, 1, false), (5, 1, 1, false), (5, 2, 1, false), (5, 3, 1, false), (71, 4, 8, false), (72, 12, 1, false), (5, 13, 1, false), (5, 14, 1, false)], 15, 80, (some [.int .u8 0, .int .u8 0, .int .u8 0, .int .u8 0, .int .u16 0, .int .u8 0, .int .u8 0, .int .u8 0, .int .u8 0, .int .u8 0, .nils, .nils, .int .u64 0, .int .u8 0, .int .u8 0])⟩,
  some ⟨.fn, 1, 8, (some [.nilf])⟩,
  some ⟨.fn, 1, 8, (some [.nilf])⟩,
  some ⟨.sl 30, 1, 24, (some [.nils])⟩,
  some ⟨.st [(9, 0, 1, false), (77, 1, 1, false)], 2, 40, (some [.str .empty, .nils])⟩,
  some ⟨.st [(9, 0, 1, false), (77, 1, 1, false)], 2, 40, (some [.str .empty, .nils])⟩,
  some ⟨.fn, 1, 8, (some [.nilf])⟩,
  some ⟨.fn, 1, 8, (some [.nilf])⟩,
  some ⟨.st [(9, 0, 1, false), (9, 1, 1, false), (3, 2, 1, false)], 3, 40, (some [.str .empty, .str .empty, .int .i64 0])⟩,
  some ⟨.st [(9, 0, 1, false), (9, 1, 1, false), (3, 2, 1, false)], 3, 40, (some [.str .empty, .str .empty, .int .i64 0])⟩,
  some ⟨.fn, 1, 8, (some [.nilf])⟩,
  some ⟨.fn, 1, 8, (some [.nilf])⟩,
  some ⟨.sl 3, 1, 24, (some [.nils])⟩,
  some ⟨.fn, 1, 8, (some [.nilf])⟩,
  some ⟨.sl 32, 1, 24, (some [.nils])⟩,
  some ⟨.sl 97, 1, 24, (some [.nils])⟩,
  some ⟨.other, 1, 0, (some [.junk])⟩,
  some ⟨.fn, 1, 8, (some [.nilf])⟩,
  some ⟨.other, 1, 0, (some [.junk])⟩,
  some ⟨.fn, 1, 8, (some [.nilf])⟩,
  some ⟨.other, 1, 0, (some [.junk])⟩,
  some ⟨.fn, 1, 8, (some [.nilf])⟩,
  some ⟨.st [(3, 0, 1, false), (3, 1, 1, false), (3, 2, 1, false), (3, 3, 1, false), (3, 4, 1, false)], 5, 40, (some [.int .i64 0, .int .i64 0, .int .i64 0, .int .i64 0, .int .i64 0])⟩,
  some ⟨.st [(3, 0, 1, false), (3, 1, 1, false), (3, 2, 1, false), (3, 3, 1, false), (3, 4, 1, false)], 5, 40, (some [.int .i64 0, .int .i64 0, .int .i64 0, .int .i64 0, .int .i64 0])⟩,
  some ⟨.other, 1, 0, (some [.junk])⟩,
  some ⟨.fn, 1, 8, (some [.nilf])⟩,
  some ⟨.fn, 1, 8, (some [.nilf])⟩,
  some ⟨.fn, 1, 8, (some [.nilf])⟩,
  some ⟨.fn, 1, 8, (some [.nilf])⟩,
  some ⟨.fn, 1, 8, (some [.nilf])⟩,
  some ⟨.st [(9, 0, 1, false), (30, 1, 8, false)], 9, 96, (some [.str .empty, .int .i64 0, .int .i64 0, .int .i64 0, .nils, .int .i64 0, .int .i64 0, .int .i64 0, .int .u8 0])⟩,
  some ⟨.sl 104, 1, 24, (some [.nils])⟩,
  some ⟨.st [(34, 0, 7, false), (42, 7, 1, false)], 8, 80, (some [.str .empty, .str .empty, .int .i64 0, .int .i64 0, .int .i64 0, .int .i64 0, .int .i64 0, .int .i64 0])⟩,
  some ⟨.sl 106, 1, 24, (some [.nils])⟩,
  some ⟨.fn, 1, 8, (some [.nilf])⟩,
  some ⟨.fn, 1, 8, (some [.nilf])⟩,
  some ⟨.sl 51, 1, 24, (some [.nils])⟩,
  some ⟨.st [(9, 0, 1, false), (110, 1, 1, false)], 2, 40, (some [.str .empty, .nils])⟩,
  some ⟨.st [(9, 0, 1, false), (110, 1, 1, false)], 2, 40, (some [.str .empty, .nils])⟩,
  some ⟨.fn, 1, 8, (some [.nilf])⟩,
  some ⟨.fn, 1, 8, (some [.nilf])⟩,
  some ⟨.fn, 1, 8, (some [.nilf])⟩,
  some ⟨.other, 1, 0, (some [.junk])⟩,
  some ⟨.fn, 1, 8, (some [.nilf])⟩,
  some ⟨.fn, 1, 8, (some [.nilf])⟩,
  some ⟨.fn, 1, 8, (some [.nilf])⟩,
  some ⟨.other, 1, 0, (some [.junk])⟩,
  some ⟨.fn, 1, 8, (some [.nilf])⟩,
  some ⟨.fn, 1, 8, (some [.nilf])⟩,
  some ⟨.fn, 1, 8, (some [.nilf])⟩,
  some ⟨.fn, 1, 8, (some [.nilf])⟩,
  some ⟨.other, 1, 0, (some [.junk])⟩,
  some ⟨.fn, 1, 8, (some [.nilf])⟩,
  some ⟨.st [(3, 0, 1, false), (3, 1, 1, false)], 2, 16, (some [.int .i64 0, .int .i64 0])⟩,
  some ⟨.st [(3, 0, 1, false), (3, 1, 1, false)], 2, 16, (some [.int .i64 0, .int .i64 0])⟩,
  some ⟨.st [(3, 0, 1, false), (3, 1, 1, false)], 2, 16, (some [.int .i64 0, .int .i64 0])⟩,
  some ⟨.fn, 1, 8, (some [.nilf])⟩,
  some ⟨.fn, 1, 8, (some [.nilf])⟩,
  some ⟨.fn, 1, 8, (some [.nilf])⟩,
  some ⟨.other, 1, 0, (some [.junk])⟩,
  some ⟨.fn, 1, 8, (some [.nilf])⟩,
  some ⟨.fn, 1, 8, (some [.nilf])⟩,
  some ⟨.fn, 1, 8, (some [.nilf])⟩,
  some ⟨.mp 139 3, 1, 8, (some [.nilm])⟩,
  some ⟨.st [(9, 0, 1, false), (9, 1, 1, false)], 2, 32, (some [.str .empty, .str .empty])⟩,
  some ⟨.st [(9, 0, 1, false), (9, 1, 1, false)], 2, 32, (some [.str .empty, .str .empty])⟩,
  some ⟨.mp 139 88, 1, 8, (some [.nilm])⟩,
  some ⟨.fn, 1, 8, (some [.nilf])⟩,
  some ⟨.fn, 1, 8, (some [.nilf])⟩,
  some ⟨.fn, 1, 8, (some [.nilf])⟩,
  some ⟨.fn, 1, 8, (some [.nilf])⟩,
  some ⟨.sl 9, 1, 24, (some [.nils])⟩,
  some ⟨.fn, 1, 8, (some [.nilf])⟩,
  some ⟨.fn, 1, 8, (some [.nilf])⟩,
  some ⟨.fn, 1, 8, (some [.nilf])⟩,
  some ⟨.sl 153, 1, 24, (some [.nils])⟩,
  some ⟨.fn, 1, 8, (some [.nilf])⟩,
  some ⟨.fn, 1, 8, (some [.nilf])⟩,
  some ⟨.st [(5, 0, 1, false), (151, 1, 1, false)], 2, 16, (some [.int .u8 0, .nilf])⟩,
  some ⟨.st [(5, 0, 1, false), (151, 1, 1, false)], 2, 16, (some [.int .u8 0, .nilf])⟩,
  some ⟨.fn, 1, 8, (some [.nilf])⟩,
  some ⟨.fn, 1, 8, (some [.nilf])⟩,
  some ⟨.fn, 1, 8, (some [.nilf])⟩,
  some ⟨.fn, 1, 8, (some [.nilf])⟩,
  some ⟨.fn, 1, 8, (some [.nilf])⟩,
  some ⟨.fn, 1, 8, (some [.nilf])⟩,
  some ⟨.int .u64, 1, 8, (some [.int .u64 0])⟩,
  some ⟨.fn, 1, 8, (some [.nilf])⟩,
  some ⟨.fn, 1, 8, (some [.nilf])⟩,
  some ⟨.other, 1, 0, (some [.junk])⟩,
  some ⟨.fn, 1, 8, (some [.nilf])⟩,
  some ⟨.fn, 1, 8, (some [.nilf])⟩,
  some ⟨.fn, 1, 8, (some [.nilf])⟩,
  some ⟨.fn, 1, 8, (some [.nilf])⟩,
  some ⟨.fn, 1, 8, (some [.nilf])⟩,
  some ⟨.fn, 1, 8, (some [.nilf])⟩,
  some ⟨.ptr 3, 1, 8, (some [.nilp])⟩,
  some ⟨.arr 3 170, 3, 24, (some [.nilp, .nilp, .nilp])⟩,
  some ⟨.sl 174, 1, 24, (some [.nils])⟩,
  some ⟨.fn, 1, 8, (some [.nilf])⟩,
  some ⟨.fn, 1, 8, (some [.nilf])⟩,
  some ⟨.fn, 1, 8, (some [.nilf])⟩,
  some ⟨.fn, 1, 8, (some [.nilf])⟩,
  some ⟨.fn, 1, 8, (some [.nilf])⟩,
  some ⟨.fn, 1, 8, (some [.nilf])⟩,
  some ⟨.fn, 1, 8, (some [.nilf])⟩,
  some ⟨.fn, 1, 8, (some [.nilf])⟩,
  some ⟨.fn, 1, 8, (some [.nilf])⟩,
  some ⟨.fn, 1, 8, (some [.nilf])⟩,
  some ⟨.int .i64, 1, 8, (some [.int .i64 0])⟩,
  some ⟨.other, 1, 0, (some [.junk])⟩,
  some ⟨.fn, 1, 8, (some [.nilf])⟩,
  some ⟨.fn, 1, 8, (some [.nilf])⟩,
  some ⟨.fn, 1, 8, (some [.nilf])⟩,
  some ⟨.fn, 1, 8, (some [.nilf])⟩,
  some ⟨.fn, 1, 8, (some [.nilf])⟩,
  some ⟨.int .u32, 1, 4, (some [.int .u32 0])⟩,
  some ⟨.fn, 1, 8, (some [.nilf])⟩,
  some ⟨.other, 1, 0, (some [.junk])⟩,
  some ⟨.fn, 1, 8, (some [.nilf])⟩,
  some ⟨.fn, 1, 8, (some [.nilf])⟩,
  some ⟨.fn, 1, 8, (some [.nilf])⟩,
  some ⟨.fn, 1, 8, (some [.nilf])⟩,
  some ⟨.int .u64, 1, 8, (some [.int .u64 0])⟩,
  some ⟨.fn, 1, 8, (some [.nilf])⟩,
  some ⟨.fn, 1, 8, (some [.nilf])⟩,
  some ⟨.fn, 1, 8, (some [.nilf])⟩,
  some ⟨.fn, 1, 8, (some [.nilf])⟩,
  some ⟨.ptr 197, 1, 8, (some [.nilp])⟩,
  some ⟨.other, 1, 0, (some [.junk])⟩,
  some ⟨.fn, 1, 8, (some [.nilf])⟩,
  some ⟨.fn, 1, 8, (some [.nilf])⟩,
  some ⟨.st [(17, 0, 1, false), (17, 1, 1, false), (17, 2, 1, false), (9, 3, 1, false)], 4, 40, (some [.nilp, .nilp, .nilp, .str .empty])⟩,
  some ⟨.st [(17, 0, 1, false), (17, 1, 1, false), (17, 2, 1, false), (9, 3, 1, false)], 4, 40, (some [.nilp, .nilp, .nilp, .str .empty])⟩,
  some ⟨.arr 0 16, 0, 0, (some [])⟩,
  some ⟨.st [(208, 0, 0, true)], 0, 0, (some [])⟩,
  some ⟨.st [(208, 0, 0, true)], 0, 0, (some [])⟩,
  some ⟨.int .u8, 1, 1, (some [.int .u8 0])⟩,
  some ⟨.int .u8, 1, 1, (some [.int .u8 0])⟩,
  some ⟨.fn, 1, 8, (some [.nilf])⟩,
  some ⟨.ptr 5, 1, 8, (some [.nilp])⟩,
  some ⟨.int .i32, 1, 4, (some [.int .i32 0])⟩,
  some ⟨.int .i32, 1, 4, (some [.int .i32 0])⟩,
  some ⟨.st [(12, 0, 1, false), (12, 1, 1, false), (190, 2, 1, false), (211, 3, 1, false), (5, 4, 1, false), (5, 5, 1, false), (212, 6, 1, false), (213, 7, 1, false), (214, 8, 1, false), (215, 9, 1, false), (216, 10, 1, false)], 11, 48, (some [.int .u64 0, .int .u64 0, .int .u32 0, .int .u8 0, .int .u8 0, .int .u8 0, .int .u8 0, .nilf, .nilp, .int .i32 0, .int .i32 0])⟩,
  some ⟨.st [(12, 0, 1, false), (12, 1, 1, false), (190, 2, 1, false), (211, 3, 1, false), (5, 4, 1, false), (5, 5, 1, false), (212, 6, 1, false), (213, 7, 1, false), (214, 8, 1, false), (215, 9, 1, false), (216, 10, 1, false)], 11, 48, (some [.int .u64 0, .int .u64 0, .int .u32 0, .int .u8 0, .int .u8 0, .int .u8 0, .int .u8 0, .nilf, .nilp, .int .i32 0, .int .i32 0])⟩,
  some ⟨.other, 1, 8, (some [.nilp])⟩]
theorem Try.tl_ok : (List.range 220).map (tiOf Try.prog) = Try.tl := by kernel_rfl
def Try.T (t : TypeId) : Option TI := match lget Try.tl t with
  | some x => x
  | none => none
theorem Try.T_ok : TOk Try.prog Try.T := by
  intro t ti h
  unfold Try.T at h
  rw [lget_eq] at h
  cases hx : Try.tl[t]? with
  | none => simp [hx] at h
  | some x =>
    simp only [hx] at h
    subst h
    rw [← Try.tl_ok] at hx
    simp only [List.getElem?_map, Option.map_eq_some_iff] at hx
    obtain ⟨j, h1, h2⟩ := hx
    have : j = t := by
      have hl := (List.getElem?_eq_some_iff.1 h1).1
      rw [List.getElem?_range (by simpa using hl)] at h1
      simpa using h1.symm
    subst this
    exact h2
def Try.eqs : List Nat := [83, 32, 128, 97, 139]
def memB (t : Nat) : List Nat → Bool
  | [] => false
  | x :: l => match Nat.beq x t with
    | true => true
    | false => memB t l
theorem memB_mem {t : Nat} : ∀ {l : List Nat}, memB t l = true → t ∈ l
  | [], h => by cases h
  | x :: l, h => by
    simp only [memB] at h
    split at h
    · rename_i hb; rw [Nat.eq_of_beq_eq_true hb]; simp
    · exact List.mem_cons_of_mem _ (memB_mem h)
theorem Try.kn_all : (List.range 220).all (fieldsKnown Try.prog) = true := by kernel_rfl
theorem Try.zr_all : (List.range 220).all (zeroShape Try.prog) = true := by kernel_rfl
theorem Try.eq_all : Try.eqs.all (fun t => !Try.prog.stoodInHeld t && !Try.prog.eqGuardType Try.prog.depth t) = true := by kernel_rfl
def Try.kn (t : TypeId) : Nat := match memB t Try.eqs with
  | true => 2
  | false => match Nat.blt t 220 with
    | true => 1
    | false => 0
theorem Try.E0 : Env0 Try.prog Try.T Try.kn := ⟨(fun t ti h => by
  have h1 := Try.zr_all
  rw [List.all_eq_true] at h1
  refine h1 t (List.mem_range.2 ?_)
  unfold Try.T at h
  rw [lget_eq] at h
  rcases Nat.lt_or_ge t 220 with hl | hl
  · exact hl
  · rw [List.getElem?_eq_none (Nat.le_trans (Nat.le_of_ble_eq_true (by kernel_rfl)) hl)] at h
    cases h), Try.T_ok, (fun t n h => by
  have h1 := Try.kn_all
  rw [List.all_eq_true] at h1
  unfold Try.kn at h
  refine h1 t (List.mem_range.2 ?_)
  split at h
  · rename_i hm
    have : ∀ x ∈ Try.eqs, x < 220 := by decide
    exact this t (memB_mem hm)
  · split at h
    · rename_i hb; simp [Nat.blt] at hb; omega
    · cases h), (fun t n h => by
  have h1 := Try.eq_all
  rw [List.all_eq_true] at h1
  unfold Try.kn at h
  split at h
  · rename_i hm
    have := h1 t (memB_mem hm)
    simpa using this
  · split at h <;> omega)⟩
theorem Try.mx : Try.prog.follows .mixedOrders = true := by kernel_rfl
end Go.Proofs.Ytgopbbkpcjgihaa
