/- A text of the proof: the parts T10y. -/
import Derived.Test.YtekhodpmpjehaaaGreatDoorRows
import Derived.Test.YtekhodpmpjehaaaGreatDoorK6
set_option linter.unusedSimpArgs false
set_option linter.unusedVariables false
set_option maxHeartbeats 8000000
namespace Go.Proofs.YtekhodpmpjehaaaGreatDoor
open Go.Vsi
def Tryz.gl:List (Nat×List AV):=[(0,[.int .u64 12297829382473034410,.int .u64 14757395258967641292,.int .u64 17361641481138401520,.int .u64 18374966859414961920,.int .u64 18446462603027742720,.int .u64 18446744069414584320]),(1,[.int .u8 0,.int .u8 1,.int .u8 56,.int .u8 2,.int .u8 57,.int .u8 49,.int .u8 28,.int .u8 3,.int .u8 61,.int .u8 58,.int .u8 42,.int .u8 50,.int .u8 38,.int .u8 29,.int .u8 17,.int .u8 4,.int .u8 62,.int .u8 47,.int .u8 59,.int .u8 36,.int .u8 45,.int .u8 43,.int .u8 51,.int .u8 22,.int .u8 53,.int .u8 39,.int .u8 33,.int .u8 30,.int .u8 24,.int .u8 18,.int .u8 12,.int .u8 5,.int .u8 63,.int .u8 55,.int .u8 48,.int .u8 27,.int .u8 60,.int .u8 41,.int .u8 37,.int .u8 16,.int .u8 46,.int .u8 35,.int .u8 44,.int .u8 21,.int .u8 52,.int .u8 32,.int .u8 23,.int .u8 11,.int .u8 54,.int .u8 26,.int .u8 40,.int .u8 15,.int .u8 34,.int .u8 20,.int .u8 31,.int .u8 10,.int .u8 25,.int .u8 14,.int .u8 19,.int .u8 9,.int .u8 13,.int .u8 8,.int .u8 7,.int .u8 6]),(2,[.bool false,.bool false,.int .u8 0,.int .i64 0,.int .i64 0,.bool true,.bool true,.int .u8 1,.int .i64 4,.int .i64 0,.bool true,.bool true,.int .u8 0,.int .i64 0,.int .i64 0,.bool true,.bool true,.int .u8 0,.int .i64 0,.int .i64 1,.bool true,.bool true,.int .u8 0,.int .i64 0,.int .i64 2,.bool true,.bool true,.int .u8 0,.int .i64 0,.int .i64 2,.bool true,.bool true,.int .u8 0,.int .i64 0,.int .i64 2,.bool true,.bool true,.int .u8 0,.int .i64 0,.int .i64 2,.bool true,.bool true,.int .u8 2,.int .i64 0,.int .i64 1,.bool true,.bool true,.int .u8 2,.int .i64 0,.int .i64 1,.bool true,.bool true,.int .u8 0,.int .i64 0,.int .i64 1,.bool true,.bool true,.int .u8 0,.int .i64 0,.int .i64 1,.bool true,.bool true,.int .u8 0,.int .i64 0,.int .i64 1,.bool true,.bool true,.int .u8 0,.int .i64 0,.int .i64 1,.bool true,.bool true,.int .u8 0,.int .i64 0,.int .i64 2,.bool false,.bool true,.int .u8 3,.int .i64 0,.int .i64 0,.bool false,.bool true,.int .u8 3,.int .i64 2,.int .i64 0])]
theorem Tryz.gl_low:∀ p∈Tryz.gl,zae 0 p.2:=by
 intro p hp
 simp only [Tryz.gl,List.mem_cons,List.not_mem_nil,or_false] at hp
 (repeat' rcases hp with hp|hp) <;> try subst hp
 all_goals first
 | exact hp.elim
 | (repeat' (first|exact trivial|refine And.intro ?_ ?_))
instance Tryz.glob:Glob:=⟨Tryz.gl,Tryz.gl_low⟩
def Tryz.tl:List (Option TI):=[
 some ⟨.other,1,0,(some [.junk])⟩,
 some ⟨.fn,1,8,(some [.nilf])⟩,
 some ⟨.int .i64,1,8,(some [.int .i64 0])⟩,
 some ⟨.int .i64,1,8,(some [.int .i64 0])⟩,
 some ⟨.bool,1,1,(some [.bool false])⟩,
 some ⟨.int .u8,1,1,(some [.int .u8 0])⟩,
 some ⟨.int .u8,1,1,(some [.int .u8 0])⟩,
 some ⟨.st [(2,0,1,false),(3,1,1,false),(4,2,1,false),(6,3,1,false)],4,24,(some [.int .i64 0,.int .i64 0,.bool false,.int .u8 0])⟩,
 some ⟨.st [(2,0,1,false),(3,1,1,false),(4,2,1,false),(6,3,1,false)],4,24,(some [.int .i64 0,.int .i64 0,.bool false,.int .u8 0])⟩,
 some ⟨.str,1,16,(some [.str .empty])⟩,
 some ⟨.str,1,16,(some [.str .empty])⟩,
 some ⟨.str,1,16,(some [.str .empty])⟩,
 some ⟨.int .u64,1,8,(some [.int .u64 0])⟩,
 some ⟨.st [(9,0,1,false),(12,1,1,false)],2,24,(some [.str .empty,.int .u64 0])⟩,
 some ⟨.st [(9,0,1,false),(12,1,1,false)],2,24,(some [.str .empty,.int .u64 0])⟩,
 some ⟨.ptr 171,1,8,(some [.nilp])⟩,
 some ⟨.ptr 174,1,8,(some [.nilp])⟩,
 some ⟨.ptr 182,1,8,(some [.nilp])⟩,
 some ⟨.st [(17,0,1,false)],1,8,(some [.nilp])⟩,
 some ⟨.st [(17,0,1,false)],1,8,(some [.nilp])⟩,
 some ⟨.ifc,1,16,(some [.nili])⟩,
 some ⟨.int .i32,1,4,(some [.int .i32 0])⟩,
 some ⟨.sl 40,1,24,(some [.nils])⟩,
 some ⟨.st [(22,0,1,false),(22,1,1,false)],2,48,(some [.nils,.nils])⟩,
 some ⟨.st [(22,0,1,false),(22,1,1,false)],2,48,(some [.nils,.nils])⟩,
 some ⟨.fn,1,8,(some [.nilf])⟩,
 some ⟨.fn,1,8,(some [.nilf])⟩,
 some ⟨.fn,1,8,(some [.nilf])⟩,
 some ⟨.int .i64,1,8,(some [.int .i64 0])⟩,
 some ⟨.other,1,0,(some [.junk])⟩,
 some ⟨.fn,1,8,(some [.nilf])⟩,
 some ⟨.other,1,0,(some [.junk])⟩,
 some ⟨.fn,1,8,(some [.nilf])⟩,
 some ⟨.sl 9,1,24,(some [.nils])⟩,
 some ⟨.fn,1,8,(some [.nilf])⟩,
 some ⟨.fn,1,8,(some [.nilf])⟩,
 some ⟨.fn,1,8,(some [.nilf])⟩,
 some ⟨.fn,1,8,(some [.nilf])⟩,
 some ⟨.sl 115,1,24,(some [.nils])⟩,
 some ⟨.st [(5,0,1,false),(9,1,1,false),(38,2,1,false),(22,3,1,false)],4,72,(some [.int .u8 0,.str .empty,.nils,.nils])⟩,
 some ⟨.st [(5,0,1,false),(9,1,1,false),(38,2,1,false),(22,3,1,false)],4,72,(some [.int .u8 0,.str .empty,.nils,.nils])⟩,
 some ⟨.fn,1,8,(some [.nilf])⟩,
 some ⟨.fn,1,8,(some [.nilf])⟩,
 some ⟨.fn,1,8,(some [.nilf])⟩,
 some ⟨.fn,1,8,(some [.nilf])⟩,
 some ⟨.sl 4,1,24,(some [.nils])⟩,
 some ⟨.other,1,0,(some [.junk])⟩,
 some ⟨.fn,1,8,(some [.nilf])⟩,
 some ⟨.other,1,0,(some [.junk])⟩,
 some ⟨.fn,1,8,(some [.nilf])⟩,
 some ⟨.sl 3,1,24,(some [.nils])⟩,
 some ⟨.sl 90,1,24,(some [.nils])⟩,
 some ⟨.sl 128,1,24,(some [.nils])⟩,
 some ⟨.sl 130,1,24,(some [.nils])⟩,
 some ⟨.st [(5,0,1,false),(3,1,1,false),(50,2,1,false),(3,3,1,false),(51,4,1,false),(52,5,1,false),(53,6,1,false)],7,120,(some [.int .u8 0,.int .i64 0,.nils,.int .i64 0,.nils,.nils,.nils])⟩,
 some ⟨.st [(5,0,1,false),(3,1,1,false),(50,2,1,false),(3,3,1,false),(51,4,1,false),(52,5,1,false),(53,6,1,false)],7,120,(some [.int .u8 0,.int .i64 0,.nils,.int .i64 0,.nils,.nils,.nils])⟩,
 some ⟨.other,1,0,(some [.junk])⟩,
 some ⟨.fn,1,8,(some [.nilf])⟩,
 some ⟨.fn,1,8,(some [.nilf])⟩,
 some ⟨.fn,1,8,(some [.nilf])⟩,
 some ⟨.fn,1,8,(some [.nilf])⟩,
 some ⟨.fn,1,8,(some [.nilf])⟩,
 some ⟨.fn,1,8,(some [.nilf])⟩,
 some ⟨.fn,1,8,(some [.nilf])⟩,
 some ⟨.fn,1,8,(some [.nilf])⟩,
 some ⟨.fn,1,8,(some [.nilf])⟩,
 some ⟨.fn,1,8,(some [.nilf])⟩,
 some ⟨.ptr 107,1,8,(some [.nilp])⟩,
 some ⟨.other,1,0,(some [.junk])⟩,
 some ⟨.fn,1,8,(some [.nilf])⟩,
 some ⟨.fn,1,8,(some [.nilf])⟩,
 some ⟨.fn,1,8,(some [.nilf])⟩,
 some ⟨.int .u64,1,8,(some [.int .u64 0])⟩,
 some ⟨.fn,1,8,(some [.nilf])⟩,
 some ⟨.fn,1,8,(some [.nilf])⟩,
 some ⟨.fn,1,8,(some [.nilf])⟩,
 some ⟨.mp 9 4,1,8,(some [.nilm])⟩,
 some ⟨.fn,1,8,(some [.nilf])⟩,
 some ⟨.fn,1,8,(some [.nilf])⟩,
 some ⟨.fn,1,8,(some [.nilf])⟩,
 some ⟨.fn,1,8,(some [.nilf])⟩,
 some ⟨.fn,1,8,(some [.nilf])⟩,
 some ⟨.fn,1,8,(some [.nilf])⟩,
 some ⟨.fn,1,8,(some [.nilf])⟩,
 some ⟨.fn,1,8,(some [.nilf])⟩,
 some ⟨.fn,1,8,(some [.nilf])⟩,
 some ⟨.fn,1,8,(some [.nilf])⟩,
 some ⟨.fn,1,8,(some [.nilf])⟩,
 some ⟨.fn,1,8,(some [.nilf])⟩,
 some ⟨.st [(9,0,1,false),(3,1,1,false),(3,2,1,false)],3,32,(some [.str .empty,.int .i64 0,.int .i64 0])⟩,
 some ⟨.st [(9,0,1,false),(3,1,1,false),(3,2,1,false)],3,32,(some [.str .empty,.int .i64 0,.int .i64 0])⟩,
 some ⟨.fn,1,8,(some [.nilf])⟩,
 some ⟨.fn,1,8,(some [.nilf])⟩,
 some ⟨.fn,1,8,(some [.nilf])⟩,
 some ⟨.fn,1,8,(some [.nilf])⟩,
 some ⟨.fn,1,8,(some [.nilf])⟩,
 some ⟨.fn,1,8,(some [.nilf])⟩,
 some ⟨.fn,1,8,(some [.nilf])⟩,
 some ⟨.fn,1,8,(some [.nilf])⟩,
 some ⟨.fn,1,8,(some [.nilf])⟩,
 some ⟨.fn,1,8,(some [.nilf])⟩,
 some ⟨.fn,1,8,(some [.nilf])⟩,
 some ⟨.sl 22,1,24,(some [.nils])⟩,
 some ⟨.fn,1,8,(some [.nilf])⟩,
 some ⟨.mp 9 3,1,8,(some [.nilm])⟩,
 some ⟨.mp 5 110,1,8,(some [.nilm])⟩,
 some ⟨.st [(104,0,1,false),(105,1,1,false)],2,16,(some [.nilm,.nilm])⟩,
 some ⟨.st [(104,0,1,false),(105,1,1,false)],2,16,(some [.nilm,.nilm])⟩,
 some ⟨.arr 6 72,6,48,(some [.int .u64 0,.int .u64 0,.int .u64 0,.int .u64 0,.int .u64 0,.int .u64 0])⟩,
 some ⟨.arr 2 72,2,16,(some [.int .u64 0,.int .u64 0])⟩,
 some ⟨.fn,1,8,(some [.nilf])⟩,
 some ⟨.arr 64 5,64,64,(some [.int .u8 0,.int .u8 0,.int .u8 0,.int .u8 0,.int .u8 0,.int .u8 0,.int .u8 0,.int .u8 0,.int .u8 0,.int .u8 0,.int .u8 0,.int .u8 0,.int .u8 0,.int .u8 0,.int .u8 0,.int .u8 0,.int .u8 0,.int .u8 0,.int .u8 0,.int .u8 0,.int .u8 0,.int .u8 0,.int .u8 0,.int .u8 0,.int .u8 0,.int .u8 0,.int .u8 0,.int .u8 0,.int .u8 0,.int .u8 0,.int .u8 0,.int .u8 0,.int .u8 0,.int .u8 0,.int .u8 0,.int .u8 0,.int .u8 0,.int .u8 0,.int .u8 0,.int .u8 0,.int .u8 0,.int .u8 0,.int .u8 0,.int .u8 0,.int .u8 0,.int .u8 0,.int .u8 0,.int .u8 0,.int .u8 0,.int .u8 0,.int .u8 0,.int .u8 0,.int .u8 0,.int .u8 0,.int .u8 0,.int .u8 0,.int .u8 0,.int .u8 0,.int .u8 0,.int .u8 0,.int .u8 0,.int .u8 0,.int .u8 0,.int .u8 0])⟩,
 some ⟨.int .u64,1,8,(some [.int .u64 0])⟩,
 some ⟨.fn,1,8,(some [.nilf])⟩,
 some ⟨.st [(4,0,1,false),(9,1,1,false),(38,2,1,false)],3,48,(some [.bool false,.str .empty,.nils])⟩,
 some ⟨.st [(4,0,1,false),(9,1,1,false),(38,2,1,false)],3,48,(some [.bool false,.str .empty,.nils])⟩,
 some ⟨.fn,1,8,(some [.nilf])⟩,
 some ⟨.fn,1,8,(some [.nilf])⟩,
 some ⟨.sl 5,1,24,(some [.nils])⟩,
 some ⟨.fn,1,8,(some [.nilf])⟩,
 some ⟨.st [(4,0,1,false),(3,1,1,false),(3,2,1,false)],3,24,(some [.bool false,.int .i64 0,.int .i64 0])⟩,
 some ⟨.st [(4,0,1,false),(3,1,1,false),(3,2,1,false)],3,24,(some [.bool false,.int .i64 0,.int .i64 0])⟩,
 some ⟨.fn,1,8,(some [.nilf])⟩,
 some ⟨.fn,1,8,(some [.nilf])⟩,
 some ⟨.fn,1,8,(some [.nilf])⟩,
 some ⟨.fn,1,8,(some [.nilf])⟩,
 some ⟨.fn,1,8,(some [.nilf])⟩,
 some ⟨.st [(9,0,1,false),(3,1,1,false),(50,2,1,false)],3,48,(some [.str .empty,.int .i64 0,.nils])⟩,
 some ⟨.st [(9,0,1,false),(3,1,1,false),(50,2,1,false)],3,48,(some [.str .empty,.int .i64 0,.nils])⟩,
 some ⟨.st [(9,0,1,false),(3,1,1,false)],2,24,(some [.str .empty,.int .i64 0])⟩,
 some ⟨.st [(9,0,1,false),(3,1,1,false)],2,24,(some [.str .empty,.int .i64 0])⟩,
 some ⟨.fn,1,8,(some [.nilf])⟩,
 some ⟨.fn,1,8,(some [.nilf])⟩,
 some ⟨.fn,1,8,(some [.nilf])⟩,
 some ⟨.fn,1,8,(some [.nilf])⟩,
 some ⟨.fn,1,8,(some [.nilf])⟩,
 some ⟨.fn,1,8,(some [.nilf])⟩,
 some ⟨.ptr 121,1,8,(some [.nilp])⟩,
 some ⟨.fn,1,8,(some [.nilf])⟩,
 some ⟨.st [(4,0,1,false),(4,1,1,false),(5,2,1,false),(3,3,1,false),(3,4,1,false)],5,24,(some [.bool false,.bool false,.int .u8 0,.int .i64 0,.int .i64 0])⟩,
 some ⟨.st [(4,0,1,false),(4,1,1,false),(5,2,1,false),(3,3,1,false),(3,4,1,false)],5,24,(some [.bool false,.bool false,.int .u8 0,.int .i64 0,.int .i64 0])⟩,
 some ⟨.arr 17 140,85,408,(some [.bool false,.bool false,.int .u8 0,.int .i64 0,.int .i64 0,.bool false,.bool false,.int .u8 0,.int .i64 0,.int .i64 0,.bool false,.bool false,.int .u8 0,.int .i64 0,.int .i64 0,.bool false,.bool false,.int .u8 0,.int .i64 0,.int .i64 0,.bool false,.bool false,.int .u8 0,.int .i64 0,.int .i64 0,.bool false,.bool false,.int .u8 0,.int .i64 0,.int .i64 0,.bool false,.bool false,.int .u8 0,.int .i64 0,.int .i64 0,.bool false,.bool false,.int .u8 0,.int .i64 0,.int .i64 0,.bool false,.bool false,.int .u8 0,.int .i64 0,.int .i64 0,.bool false,.bool false,.int .u8 0,.int .i64 0,.int .i64 0,.bool false,.bool false,.int .u8 0,.int .i64 0,.int .i64 0,.bool false,.bool false,.int .u8 0,.int .i64 0,.int .i64 0,.bool false,.bool false,.int .u8 0,.int .i64 0,.int .i64 0,.bool false,.bool false,.int .u8 0,.int .i64 0,.int .i64 0,.bool false,.bool false,.int .u8 0,.int .i64 0,.int .i64 0,.bool false,.bool false,.int .u8 0,.int .i64 0,.int .i64 0,.bool false,.bool false,.int .u8 0,.int .i64 0,.int .i64 0])⟩,
 some ⟨.fn,1,8,(some [.nilf])⟩,
 some ⟨.fn,1,8,(some [.nilf])⟩,
 some ⟨.fn,1,8,(some [.nilf])⟩,
 some ⟨.fn,1,8,(some [.nilf])⟩,
 some ⟨.fn,1,8,(some [.nilf])⟩,
 some ⟨.fn,1,8,(some [.nilf])⟩,
 some ⟨.int .i64,1,8,(some [.int .i64 0])⟩,
 some ⟨.other,1,0,(some [.junk])⟩,
 some ⟨.fn,1,8,(some [.nilf])⟩,
 some ⟨.fn,1,8,(some [.nilf])⟩,
 some ⟨.fn,1,8,(some [.nilf])⟩,
 some ⟨.fn,1,8,(some [.nilf])⟩,
 some ⟨.other,1,0,(some [.junk])⟩,
 some ⟨.fn,1,8,(some [.nilf])⟩,
 some ⟨.fn,1,8,(some [.nilf])⟩,
 some ⟨.int .u32,1,4,(some [.int .u32 0])⟩,
 some ⟨.fn,1,8,(some [.nilf])⟩,
 some ⟨.fn,1,8,(some [.nilf])⟩,
 some ⟨.fn,1,8,(some [.nilf])⟩,
 some ⟨.int .u64,1,8,(some [.int .u64 0])⟩,
 some ⟨.fn,1,8,(some [.nilf])⟩,
 some ⟨.fn,1,8,(some [.nilf])⟩,
 some ⟨.ptr 3,1,8,(some [.nilp])⟩,
 some ⟨.fn,1,8,(some [.nilf])⟩,
 some ⟨.ptr 161,1,8,(some [.nilp])⟩,
 some ⟨.other,1,0,(some [.junk])⟩,
 some ⟨.fn,1,8,(some [.nilf])⟩,
 some ⟨.fn,1,8,(some [.nilf])⟩,
 some ⟨.st [(17,0,1,false),(17,1,1,false),(17,2,1,false),(9,3,1,false)],4,40,(some [.nilp,.nilp,.nilp,.str .empty])⟩,
 some ⟨.st [(17,0,1,false),(17,1,1,false),(17,2,1,false),(9,3,1,false)],4,40,(some [.nilp,.nilp,.nilp,.str .empty])⟩,
 some ⟨.arr 0 16,0,0,(some [])⟩,
 some ⟨.st [(172,0,0,true)],0,0,(some [])⟩,
 some ⟨.st [(172,0,0,true)],0,0,(some [])⟩,
 some ⟨.int .u8,1,1,(some [.int .u8 0])⟩,
 some ⟨.int .u8,1,1,(some [.int .u8 0])⟩,
 some ⟨.fn,1,8,(some [.nilf])⟩,
 some ⟨.ptr 5,1,8,(some [.nilp])⟩,
 some ⟨.int .i32,1,4,(some [.int .i32 0])⟩,
 some ⟨.int .i32,1,4,(some [.int .i32 0])⟩,
 some ⟨.st [(12,0,1,false),(12,1,1,false),(157,2,1,false),(175,3,1,false),(5,4,1,false),(5,5,1,false),(176,6,1,false),(177,7,1,false),(178,8,1,false),(179,9,1,false),(180,10,1,false)],11,48,(some [.int .u64 0,.int .u64 0,.int .u32 0,.int .u8 0,.int .u8 0,.int .u8 0,.int .u8 0,.nilf,.nilp,.int .i32 0,.int .i32 0])⟩,
 some ⟨.st [(12,0,1,false),(12,1,1,false),(157,2,1,false),(175,3,1,false),(5,4,1,false),(5,5,1,false),(176,6,1,false),(177,7,1,false),(178,8,1,false),(179,9,1,false),(180,10,1,false)],11,48,(some [.int .u64 0,.int .u64 0,.int .u32 0,.int .u8 0,.int .u8 0,.int .u8 0,.int .u8 0,.nilf,.nilp,.int .i32 0,.int .i32 0])⟩,
 some ⟨.other,1,8,(some [.nilp])⟩]
theorem Tryz.tl_ok:(List.range 184).map (tiOf Tryz.prog)=Tryz.tl:=by kernel_rfl
def Tryz.T (t:TypeId):Option TI:=match lget Tryz.tl t with
 | some x=>x
 | none=>none
theorem zdy:TOk Tryz.prog Tryz.T:=by
 intro t ti h
 unfold Tryz.T at h
 rw [zay] at h
 cases hx:Tryz.tl[t]? with
 | none=>simp [hx] at h
 | some x =>
   simp only [hx] at h
   subst h
   rw [← Tryz.tl_ok] at hx
   simp only [List.getElem?_map,Option.map_eq_some_iff] at hx
   obtain ⟨j,h1,h2⟩:=hx
   have:j=t:=by
    have hl:=(List.getElem?_eq_some_iff.1 h1).1
    rw [List.getElem?_range (by simpa using hl)] at h1
    simpa using h1.symm
   subst this
   exact h2
def Tryz.eqs:List Nat:=[90]
def memB (t:Nat):List Nat→Bool
 | []=>false
 | x::l=>match Nat.beq x t with
   | true=>true
   | false=>memB t l
theorem memB_mem {t:Nat}:∀ {l:List Nat},memB t l=true→t∈l
 | [],h=>by cases h
 | x::l,h=>by
   simp only [memB] at h
   split at h
   ·rename_i hb;rw [Nat.eq_of_beq_eq_true hb];simp
   ·exact List.mem_cons_of_mem _ (memB_mem h)
theorem Tryz.kn_all:(List.range 184).all (zdt Tryz.prog)=true:=by kernel_rfl
theorem Tryz.zr_all:(List.range 184).all (zcy Tryz.prog)=true:=by kernel_rfl
theorem Tryz.eq_all:Tryz.eqs.all (fun t=>!Tryz.prog.stoodInHeld t&&!Tryz.prog.eqGuardType Tryz.prog.depth t)=true:=by kernel_rfl
def Tryz.kn (t:TypeId):Nat:=match memB t Tryz.eqs with
 | true=>2
 | false=>match Nat.blt t 184 with
   | true=>1
   | false=>0
theorem Tryz.E0:Env0 Tryz.prog Tryz.T Tryz.kn:=⟨(fun t ti h=>by
 have h1:=Tryz.zr_all
 rw [List.all_eq_true] at h1
 refine h1 t (List.mem_range.2 ?_)
 unfold Tryz.T at h
 rw [zay] at h
 rcases Nat.lt_or_ge t 184 with hl|hl
 ·exact hl
 ·rw [List.getElem?_eq_none (Nat.le_trans (Nat.le_of_ble_eq_true (by kernel_rfl)) hl)] at h
  cases h),zdy,(fun t n h=>by
 have h1:=Tryz.kn_all
 rw [List.all_eq_true] at h1
 unfold Tryz.kn at h
 refine h1 t (List.mem_range.2 ?_)
 split at h
 ·rename_i hm
  have:∀ x∈Tryz.eqs,x<184:=by decide
  exact this t (memB_mem hm)
 ·split at h
  ·rename_i hb;simp [Nat.blt] at hb;omega
  ·cases h),(fun t n h=>by
 have h1:=Tryz.eq_all
 rw [List.all_eq_true] at h1
 unfold Tryz.kn at h
 split at h
 ·rename_i hm
  have:=h1 t (memB_mem hm)
  simpa using this
 ·split at h <;> omega)⟩
theorem zak:Tryz.prog.follows .mixedOrders=true:=by kernel_rfl
theorem Tryz.nms:Tryz.prog.funcs.all (fun f=>!(f.name == "runtime.NumGoroutine"))=true:=by kernel_rfl
theorem Tryz.nm {F:FuncId} {fn:Func} (hf:Tryz.prog.funcs[F]? = some fn):(fn.name == "runtime.NumGoroutine")=false:=by
 have h:=Array.all_eq_true'.1 Tryz.nms fn (Array.mem_of_getElem? hf)
 simpa using h
theorem fdG {F:FuncId} {fn:Func} {c:Code} {args:List AV} {H:Heap} {R:AV→Heap→Prop} {re:RE} (hf:Tryz.prog.funcs[F]? = some fn) (hx:fn.body=some c∧Nat.ble args.length fn.ntmps=true∧argO 0 args=some re)
  (h:zf8 H→zae H.length args→wpC Tryz.prog Tryz.kn Tryz.T ⟨fn.ntmps,none⟩ H.length c (endQ Tryz.T H.length fn.results.toList H R) re [] H 0 []):VCall Tryz.prog F args H R :=
 fn_gen Tryz.E0 zak hf (Tryz.nm hf) hx.1 (Nat.le_of_ble_eq_true hx.2.1) hx.2.2 h
theorem fdD {F:FuncId} {fn:Func} {c:Code} {args:List AV} {H:Heap} {v:AV} {re:RE} (hf:Tryz.prog.funcs[F]? = some fn) (hx:fn.body=some c∧Nat.ble args.length fn.ntmps=true∧argO 0 args=some re)
  (h:zf8 H→zae H.length args→wpC Tryz.prog Tryz.kn Tryz.T ⟨fn.ntmps,none⟩ H.length c (endQ Tryz.T H.length fn.results.toList H (detR H v)) re [] H 0 []):VDet Tryz.prog F args H v :=
 fdG hf hx h
theorem fdP {F:FuncId} {fn:Func} {c:Code} {args:List AV} {H:Heap} {R:AV→Prop} {re:RE} (hf:Tryz.prog.funcs[F]? = some fn) (hx:fn.body=some c∧Nat.ble args.length fn.ntmps=true∧argO 0 args=some re)
  (h:zf8 H→zae H.length args→wpC Tryz.prog Tryz.kn Tryz.T ⟨fn.ntmps,none⟩ H.length c (endQ Tryz.T H.length fn.results.toList H (pureR H R)) re [] H 0 []):VPure Tryz.prog F args H R :=
 fdG hf hx h
end Go.Proofs.YtekhodpmpjehaaaGreatDoor
