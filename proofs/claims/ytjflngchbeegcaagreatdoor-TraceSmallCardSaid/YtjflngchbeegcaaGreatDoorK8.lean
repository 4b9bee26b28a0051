/- A text of the proof: the parts T13z. -/
import Derived.Test.YtjflngchbeegcaaGreatDoorRows
import Derived.Test.YtjflngchbeegcaaGreatDoorK7
set_option linter.unusedSimpArgs false
set_option linter.unusedVariables false
set_option maxHeartbeats 8000000
namespace Go.Proofs.YtjflngchbeegcaaGreatDoor
open Go.Vsi
def Tryz.gl:List (Nat×List AV):=[(1,[.bool false,.bool false,.int .u8 0,.int .i64 0,.int .i64 0,.bool true,.bool true,.int .u8 1,.int .i64 4,.int .i64 0,.bool true,.bool true,.int .u8 0,.int .i64 0,.int .i64 0,.bool true,.bool true,.int .u8 0,.int .i64 0,.int .i64 1,.bool true,.bool true,.int .u8 0,.int .i64 0,.int .i64 2,.bool true,.bool true,.int .u8 0,.int .i64 0,.int .i64 2,.bool true,.bool true,.int .u8 0,.int .i64 0,.int .i64 2,.bool true,.bool true,.int .u8 0,.int .i64 0,.int .i64 2,.bool true,.bool true,.int .u8 2,.int .i64 0,.int .i64 1,.bool true,.bool true,.int .u8 2,.int .i64 0,.int .i64 1,.bool true,.bool true,.int .u8 0,.int .i64 0,.int .i64 1,.bool true,.bool true,.int .u8 0,.int .i64 0,.int .i64 1,.bool true,.bool true,.int .u8 0,.int .i64 0,.int .i64 1,.bool true,.bool true,.int .u8 0,.int .i64 0,.int .i64 1,.bool true,.bool true,.int .u8 0,.int .i64 0,.int .i64 2,.bool false,.bool true,.int .u8 3,.int .i64 0,.int .i64 0,.bool false,.bool true,.int .u8 3,.int .i64 2,.int .i64 0])]
theorem zsm:∀ p∈Tryz.gl,zaa 0 p.2:=by
 intro p hp
 simp only [Tryz.gl,yay,ycx,or_false] at hp
 (repeat' rcases hp with hp|hp) <;> try subst hp
 all_goals first
 | exact hp.elim
 | (repeat' (first|exact trivial|refine yb3 ?_ ?_))
instance Tryz.glob:Glob:=⟨Tryz.gl,zsm⟩
def Tryz.tl:List (Option TI):=[
 some ⟨.other,1,0,(some [.junk])⟩,
 some ⟨.fn,1,8,(some [.nilf])⟩,
 some ⟨.int .i64,1,8,(some [.int .i64 0])⟩,
 some ⟨.int .i64,1,8,(some [.int .i64 0])⟩,
 some ⟨.bool,1,1,(some [.bool false])⟩,
 some ⟨.int .u8,1,1,(some [.int .u8 0])⟩,
 some ⟨.int .u8,1,1,(some [.int .u8 0])⟩,
 some ⟨.st [(2,0,1,false),(3,1,1,false),(4,2,1,false),(6,3,1,false)],4,24,(some [.int .i64 0,.int .i64 0,.bool false,.int .u8 0])⟩,
 some ⟨.st [(2,0,1,false),(3,1,1,false),(4,2,1,false),(6,3,1,false)],4,24,(some [.int .i64 0,.int .i64 0,.bool false,.int .u8 0])⟩,
 some ⟨.str,1,16,(some [.str .empty])⟩,
 some ⟨.str,1,16,(some [.str .empty])⟩,
 some ⟨.str,1,16,(some [.str .empty])⟩,
 some ⟨.int .u64,1,8,(some [.int .u64 0])⟩,
 some ⟨.st [(9,0,1,false),(12,1,1,false)],2,24,(some [.str .empty,.int .u64 0])⟩,
 some ⟨.st [(9,0,1,false),(12,1,1,false)],2,24,(some [.str .empty,.int .u64 0])⟩,
 some ⟨.ptr 197,1,8,(some [.nilp])⟩,
 some ⟨.ptr 200,1,8,(some [.nilp])⟩,
 some ⟨.ptr 209,1,8,(some [.nilp])⟩,
 some ⟨.st [(17,0,1,false)],1,8,(some [.nilp])⟩,
 some ⟨.st [(17,0,1,false)],1,8,(some [.nilp])⟩,
 some ⟨.ifc,1,16,(some [.nili])⟩,
 some ⟨.int .i32,1,4,(some [.int .i32 0])⟩,
 some ⟨.sl 3,1,24,(some [.nils])⟩,
 some ⟨.sl 60,1,24,(some [.nils])⟩,
 some ⟨.sl 56,1,24,(some [.nils])⟩,
 some ⟨.sl 58,1,24,(some [.nils])⟩,
 some ⟨.st [(5,0,1,false),(3,1,1,false),(22,2,1,false),(3,3,1,false),(23,4,1,false),(24,5,1,false),(25,6,1,false)],7,120,(some [.int .u8 0,.int .i64 0,.nils,.int .i64 0,.nils,.nils,.nils])⟩,
 some ⟨.st [(5,0,1,false),(3,1,1,false),(22,2,1,false),(3,3,1,false),(23,4,1,false),(24,5,1,false),(25,6,1,false)],7,120,(some [.int .u8 0,.int .i64 0,.nils,.int .i64 0,.nils,.nils,.nils])⟩,
 some ⟨.sl 9,1,24,(some [.nils])⟩,
 some ⟨.fn,1,8,(some [.nilf])⟩,
 some ⟨.fn,1,8,(some [.nilf])⟩,
 some ⟨.fn,1,8,(some [.nilf])⟩,
 some ⟨.fn,1,8,(some [.nilf])⟩,
 some ⟨.int .i64,1,8,(some [.int .i64 0])⟩,
 some ⟨.other,1,0,(some [.junk])⟩,
 some ⟨.fn,1,8,(some [.nilf])⟩,
 some ⟨.other,1,0,(some [.junk])⟩,
 some ⟨.fn,1,8,(some [.nilf])⟩,
 some ⟨.other,1,0,(some [.junk])⟩,
 some ⟨.fn,1,8,(some [.nilf])⟩,
 some ⟨.fn,1,8,(some [.nilf])⟩,
 some ⟨.fn,1,8,(some [.nilf])⟩,
 some ⟨.fn,1,8,(some [.nilf])⟩,
 some ⟨.fn,1,8,(some [.nilf])⟩,
 some ⟨.fn,1,8,(some [.nilf])⟩,
 some ⟨.fn,1,8,(some [.nilf])⟩,
 some ⟨.fn,1,8,(some [.nilf])⟩,
 some ⟨.sl 63,1,24,(some [.nils])⟩,
 some ⟨.sl 50,1,24,(some [.nils])⟩,
 some ⟨.st [(5,0,1,false),(9,1,1,false),(47,2,1,false),(48,3,1,false)],4,72,(some [.int .u8 0,.str .empty,.nils,.nils])⟩,
 some ⟨.st [(5,0,1,false),(9,1,1,false),(47,2,1,false),(48,3,1,false)],4,72,(some [.int .u8 0,.str .empty,.nils,.nils])⟩,
 some ⟨.fn,1,8,(some [.nilf])⟩,
 some ⟨.fn,1,8,(some [.nilf])⟩,
 some ⟨.fn,1,8,(some [.nilf])⟩,
 some ⟨.fn,1,8,(some [.nilf])⟩,
 some ⟨.st [(9,0,1,false),(3,1,1,false),(22,2,1,false)],3,48,(some [.str .empty,.int .i64 0,.nils])⟩,
 some ⟨.st [(9,0,1,false),(3,1,1,false),(22,2,1,false)],3,48,(some [.str .empty,.int .i64 0,.nils])⟩,
 some ⟨.st [(9,0,1,false),(3,1,1,false)],2,24,(some [.str .empty,.int .i64 0])⟩,
 some ⟨.st [(9,0,1,false),(3,1,1,false)],2,24,(some [.str .empty,.int .i64 0])⟩,
 some ⟨.st [(9,0,1,false),(3,1,1,false),(3,2,1,false)],3,32,(some [.str .empty,.int .i64 0,.int .i64 0])⟩,
 some ⟨.st [(9,0,1,false),(3,1,1,false),(3,2,1,false)],3,32,(some [.str .empty,.int .i64 0,.int .i64 0])⟩,
 some ⟨.sl 28,1,24,(some [.nils])⟩,
 some ⟨.st [(4,0,1,false),(9,1,1,false),(47,2,1,false)],3,48,(some [.bool false,.str .empty,.nils])⟩,
 some ⟨.st [(4,0,1,false),(9,1,1,false),(47,2,1,false)],3,48,(some [.bool false,.str .empty,.nils])⟩,
 some ⟨.arr 3 5,3,3,(some [.int .u8 0,.int .u8 0,.int .u8 0])⟩,
 some ⟨.sl 5,1,24,(some [.nils])⟩,
 some ⟨.int .u16,1,2,(some [.int .u16 0])⟩,
 some ⟨.fn,1,8,(some [.nilf])⟩,
 some ⟨.fn,1,8,(some [.nilf])⟩,
 some ⟨.fn,1,8,(some [.nilf])⟩,
 some ⟨.fn,1,8,(some [.nilf])⟩,
 some ⟨.fn,1,8,(some [.nilf])⟩,
 some ⟨.int .u64,1,8,(some [.int .u64 0])⟩,
 some ⟨.fn,1,8,(some [.nilf])⟩,
 some ⟨.fn,1,8,(some [.nilf])⟩,
 some ⟨.fn,1,8,(some [.nilf])⟩,
 some ⟨.st [(50,0,4,false),(3,4,1,false)],5,80,(some [.int .u8 0,.str .empty,.nils,.nils,.int .i64 0])⟩,
 some ⟨.sl 76,1,24,(some [.nils])⟩,
 some ⟨.fn,1,8,(some [.nilf])⟩,
 some ⟨.fn,1,8,(some [.nilf])⟩,
 some ⟨.fn,1,8,(some [.nilf])⟩,
 some ⟨.fn,1,8,(some [.nilf])⟩,
 some ⟨.fn,1,8,(some [.nilf])⟩,
 some ⟨.fn,1,8,(some [.nilf])⟩,
 some ⟨.fn,1,8,(some [.nilf])⟩,
 some ⟨.fn,1,8,(some [.nilf])⟩,
 some ⟨.fn,1,8,(some [.nilf])⟩,
 some ⟨.fn,1,8,(some [.nilf])⟩,
 some ⟨.fn,1,8,(some [.nilf])⟩,
 some ⟨.fn,1,8,(some [.nilf])⟩,
 some ⟨.fn,1,8,(some [.nilf])⟩,
 some ⟨.fn,1,8,(some [.nilf])⟩,
 some ⟨.fn,1,8,(some [.nilf])⟩,
 some ⟨.fn,1,8,(some [.nilf])⟩,
 some ⟨.fn,1,8,(some [.nilf])⟩,
 some ⟨.fn,1,8,(some [.nilf])⟩,
 some ⟨.fn,1,8,(some [.nilf])⟩,
 some ⟨.fn,1,8,(some [.nilf])⟩,
 some ⟨.fn,1,8,(some [.nilf])⟩,
 some ⟨.fn,1,8,(some [.nilf])⟩,
 some ⟨.fn,1,8,(some [.nilf])⟩,
 some ⟨.fn,1,8,(some [.nilf])⟩,
 some ⟨.fn,1,8,(some [.nilf])⟩,
 some ⟨.fn,1,8,(some [.nilf])⟩,
 some ⟨.mp 9 3,1,8,(some [.nilm])⟩,
 some ⟨.mp 5 88,1,8,(some [.nilm])⟩,
 some ⟨.fn,1,8,(some [.nilf])⟩,
 some ⟨.fn,1,8,(some [.nilf])⟩,
 some ⟨.other,1,0,(some [.junk])⟩,
 some ⟨.other,1,0,(some [.junk])⟩,
 some ⟨.ptr 139,1,8,(some [.nilp])⟩,
 some ⟨.other,1,0,(some [.junk])⟩,
 some ⟨.fn,1,8,(some [.nilf])⟩,
 some ⟨.int .u64,1,8,(some [.int .u64 0])⟩,
 some ⟨.fn,1,8,(some [.nilf])⟩,
 some ⟨.fn,1,8,(some [.nilf])⟩,
 some ⟨.fn,1,8,(some [.nilf])⟩,
 some ⟨.fn,1,8,(some [.nilf])⟩,
 some ⟨.fn,1,8,(some [.nilf])⟩,
 some ⟨.fn,1,8,(some [.nilf])⟩,
 some ⟨.fn,1,8,(some [.nilf])⟩,
 some ⟨.fn,1,8,(some [.nilf])⟩,
 some ⟨.fn,1,8,(some [.nilf])⟩,
 some ⟨.fn,1,8,(some [.nilf])⟩,
 some ⟨.fn,1,8,(some [.nilf])⟩,
 some ⟨.fn,1,8,(some [.nilf])⟩,
 some ⟨.fn,1,8,(some [.nilf])⟩,
 some ⟨.fn,1,8,(some [.nilf])⟩,
 some ⟨.fn,1,8,(some [.nilf])⟩,
 some ⟨.fn,1,8,(some [.nilf])⟩,
 some ⟨.sl 4,1,24,(some [.nils])⟩,
 some ⟨.fn,1,8,(some [.nilf])⟩,
 some ⟨.fn,1,8,(some [.nilf])⟩,
 some ⟨.fn,1,8,(some [.nilf])⟩,
 some ⟨.fn,1,8,(some [.nilf])⟩,
 some ⟨.fn,1,8,(some [.nilf])⟩,
 some ⟨.fn,1,8,(some [.nilf])⟩,
 some ⟨.mp 5 142,1,8,(some [.nilm])⟩,
 some ⟨.st [(104,0,1,false),(137,1,1,false)],2,16,(some [.nilm,.nilm])⟩,
 some ⟨.st [(104,0,1,false),(137,1,1,false)],2,16,(some [.nilm,.nilm])⟩,
 some ⟨.arr 6 113,6,48,(some [.int .u64 0,.int .u64 0,.int .u64 0,.int .u64 0,.int .u64 0,.int .u64 0])⟩,
 some ⟨.arr 2 113,2,16,(some [.int .u64 0,.int .u64 0])⟩,
 some ⟨.fn,1,8,(some [.nilf])⟩,
 some ⟨.fn,1,8,(some [.nilf])⟩,
 some ⟨.fn,1,8,(some [.nilf])⟩,
 some ⟨.fn,1,8,(some [.nilf])⟩,
 some ⟨.fn,1,8,(some [.nilf])⟩,
 some ⟨.fn,1,8,(some [.nilf])⟩,
 some ⟨.fn,1,8,(some [.nilf])⟩,
 some ⟨.st [(4,0,1,false),(3,1,1,false),(3,2,1,false)],3,24,(some [.bool false,.int .i64 0,.int .i64 0])⟩,
 some ⟨.st [(4,0,1,false),(3,1,1,false),(3,2,1,false)],3,24,(some [.bool false,.int .i64 0,.int .i64 0])⟩,
 some ⟨.fn,1,8,(some [.nilf])⟩,
 some ⟨.fn,1,8,(some [.nilf])⟩,
 some ⟨.fn,1,8,(some [.nilf])⟩,
 some ⟨.mp 9 4,1,8,(some [.nilm])⟩,
 some ⟨.fn,1,8,(some [.nilf])⟩,
 some ⟨.fn,1,8,(some [.nilf])⟩,
 some ⟨.fn,1,8,(some [.nilf])⟩,
 some ⟨.fn,1,8,(some [.nilf])⟩,
 some ⟨.fn,1,8,(some [.nilf])⟩,
 some ⟨.fn,1,8,(some [.nilf])⟩,
 some ⟨.fn,1,8,(some [.nilf])⟩,
 some ⟨.ptr 150,1,8,(some [.nilp])⟩,
 some ⟨.st [(4,0,1,false),(4,1,1,false),(5,2,1,false),(3,3,1,false),(3,4,1,false)],5,24,(some [.bool false,.bool false,.int .u8 0,.int .i64 0,.int .i64 0])⟩,
 some ⟨.st [(4,0,1,false),(4,1,1,false),(5,2,1,false),(3,3,1,false),(3,4,1,false)],5,24,(some [.bool false,.bool false,.int .u8 0,.int .i64 0,.int .i64 0])⟩,
 some ⟨.arr 17 164,85,408,(some [.bool false,.bool false,.int .u8 0,.int .i64 0,.int .i64 0,.bool false,.bool false,.int .u8 0,.int .i64 0,.int .i64 0,.bool false,.bool false,.int .u8 0,.int .i64 0,.int .i64 0,.bool false,.bool false,.int .u8 0,.int .i64 0,.int .i64 0,.bool false,.bool false,.int .u8 0,.int .i64 0,.int .i64 0,.bool false,.bool false,.int .u8 0,.int .i64 0,.int .i64 0,.bool false,.bool false,.int .u8 0,.int .i64 0,.int .i64 0,.bool false,.bool false,.int .u8 0,.int .i64 0,.int .i64 0,.bool false,.bool false,.int .u8 0,.int .i64 0,.int .i64 0,.bool false,.bool false,.int .u8 0,.int .i64 0,.int .i64 0,.bool false,.bool false,.int .u8 0,.int .i64 0,.int .i64 0,.bool false,.bool false,.int .u8 0,.int .i64 0,.int .i64 0,.bool false,.bool false,.int .u8 0,.int .i64 0,.int .i64 0,.bool false,.bool false,.int .u8 0,.int .i64 0,.int .i64 0,.bool false,.bool false,.int .u8 0,.int .i64 0,.int .i64 0,.bool false,.bool false,.int .u8 0,.int .i64 0,.int .i64 0,.bool false,.bool false,.int .u8 0,.int .i64 0,.int .i64 0])⟩,
 some ⟨.fn,1,8,(some [.nilf])⟩,
 some ⟨.fn,1,8,(some [.nilf])⟩,
 some ⟨.fn,1,8,(some [.nilf])⟩,
 some ⟨.fn,1,8,(some [.nilf])⟩,
 some ⟨.fn,1,8,(some [.nilf])⟩,
 some ⟨.fn,1,8,(some [.nilf])⟩,
 some ⟨.fn,1,8,(some [.nilf])⟩,
 some ⟨.fn,1,8,(some [.nilf])⟩,
 some ⟨.fn,1,8,(some [.nilf])⟩,
 some ⟨.fn,1,8,(some [.nilf])⟩,
 some ⟨.fn,1,8,(some [.nilf])⟩,
 some ⟨.int .i64,1,8,(some [.int .i64 0])⟩,
 some ⟨.other,1,0,(some [.junk])⟩,
 some ⟨.fn,1,8,(some [.nilf])⟩,
 some ⟨.fn,1,8,(some [.nilf])⟩,
 some ⟨.fn,1,8,(some [.nilf])⟩,
 some ⟨.fn,1,8,(some [.nilf])⟩,
 some ⟨.fn,1,8,(some [.nilf])⟩,
 some ⟨.int .u32,1,4,(some [.int .u32 0])⟩,
 some ⟨.fn,1,8,(some [.nilf])⟩,
 some ⟨.int .u64,1,8,(some [.int .u64 0])⟩,
 some ⟨.fn,1,8,(some [.nilf])⟩,
 some ⟨.fn,1,8,(some [.nilf])⟩,
 some ⟨.fn,1,8,(some [.nilf])⟩,
 some ⟨.ptr 3,1,8,(some [.nilp])⟩,
 some ⟨.fn,1,8,(some [.nilf])⟩,
 some ⟨.ptr 186,1,8,(some [.nilp])⟩,
 some ⟨.other,1,0,(some [.junk])⟩,
 some ⟨.fn,1,8,(some [.nilf])⟩,
 some ⟨.fn,1,8,(some [.nilf])⟩,
 some ⟨.st [(17,0,1,false),(17,1,1,false),(17,2,1,false),(9,3,1,false)],4,40,(some [.nilp,.nilp,.nilp,.str .empty])⟩,
 some ⟨.st [(17,0,1,false),(17,1,1,false),(17,2,1,false),(9,3,1,false)],4,40,(some [.nilp,.nilp,.nilp,.str .empty])⟩,
 some ⟨.arr 0 16,0,0,(some [])⟩,
 some ⟨.st [(198,0,0,true)],0,0,(some [])⟩,
 some ⟨.st [(198,0,0,true)],0,0,(some [])⟩,
 some ⟨.fn,1,8,(some [.nilf])⟩,
 some ⟨.int .u8,1,1,(some [.int .u8 0])⟩,
 some ⟨.int .u8,1,1,(some [.int .u8 0])⟩,
 some ⟨.fn,1,8,(some [.nilf])⟩,
 some ⟨.ptr 5,1,8,(some [.nilp])⟩,
 some ⟨.int .i32,1,4,(some [.int .i32 0])⟩,
 some ⟨.int .i32,1,4,(some [.int .i32 0])⟩,
 some ⟨.st [(12,0,1,false),(12,1,1,false),(184,2,1,false),(202,3,1,false),(5,4,1,false),(5,5,1,false),(203,6,1,false),(204,7,1,false),(205,8,1,false),(206,9,1,false),(207,10,1,false)],11,48,(some [.int .u64 0,.int .u64 0,.int .u32 0,.int .u8 0,.int .u8 0,.int .u8 0,.int .u8 0,.nilf,.nilp,.int .i32 0,.int .i32 0])⟩,
 some ⟨.st [(12,0,1,false),(12,1,1,false),(184,2,1,false),(202,3,1,false),(5,4,1,false),(5,5,1,false),(203,6,1,false),(204,7,1,false),(205,8,1,false),(206,9,1,false),(207,10,1,false)],11,48,(some [.int .u64 0,.int .u64 0,.int .u32 0,.int .u8 0,.int .u8 0,.int .u8 0,.int .u8 0,.nilf,.nilp,.int .i32 0,.int .i32 0])⟩,
 some ⟨.other,1,8,(some [.nilp])⟩]
theorem zwm:(List.range 211).map (tiOf Tryz.prog)=Tryz.tl:=by kernel_rfl
def Tryz.T (t:TypeId):Option TI:=match lget Tryz.tl t with
 | some x=>x
 | none=>none
theorem zp1:TOk Tryz.prog Tryz.T:=by
 intro t ti h
 unfold Tryz.T at h
 rw [zav] at h
 cases hx:Tryz.tl[t]? with
 | none=>simp [hx] at h
 | some x =>
   simp only [hx] at h
   subst h
   rw [← zwm] at hx
   simp only [ya7,yba] at hx
   obtain ⟨j,h1,h2⟩:=hx
   have:j=t:=by
    have hl:=(yac.1 h1).1
    rw [ydc (by simpa using hl)] at h1
    simpa using h1.symm
   subst this
   exact h2
def Tryz.eqs:List Nat:=[60,58]
def memB (t:Nat):List Nat→Bool
 | []=>false
 | x::l=>match Nat.beq x t with
   | true=>true
   | false=>memB t l
theorem zm8 {t:Nat}:∀ {l:List Nat},memB t l=true→t∈l
 | [],h=>by cases h
 | x::l,h=>by
   simp only [memB] at h
   split at h
   ·rename_i hb;rw [yap hb];simp
   ·exact ya4 _ (zm8 h)
theorem zsl:(List.range 211).all (zem Tryz.prog)=true:=by kernel_rfl
theorem zsk:(List.range 211).all (zdj Tryz.prog)=true:=by kernel_rfl
theorem zsn:Tryz.eqs.all (fun t=>!Tryz.prog.stoodInHeld t&&!Tryz.prog.eqGuardType Tryz.prog.depth t)=true:=by kernel_rfl
def Tryz.kn (t:TypeId):Nat:=match memB t Tryz.eqs with
 | true=>2
 | false=>match Nat.blt t 211 with
   | true=>1
   | false=>0
theorem Tryz.E0:Env0 Tryz.prog Tryz.T Tryz.kn:=⟨(fun t ti h=>by
 have h1:=zsk
 rw [yao] at h1
 refine h1 t (ybs.2 ?_)
 unfold Tryz.T at h
 rw [zav] at h
 rcases yag t 211 with hl|hl
 ·exact hl
 ·rw [ycl (ybi (ybz (by kernel_rfl)) hl)] at h
  cases h),zp1,(fun t n h=>by
 have h1:=zsl
 rw [yao] at h1
 unfold Tryz.kn at h
 refine h1 t (ybs.2 ?_)
 split at h
 ·rename_i hm
  have:∀ x∈Tryz.eqs,x<211:=by decide
  exact this t (zm8 hm)
 ·split at h
  ·rename_i hb;simp [Nat.blt] at hb;omega
  ·cases h),(fun t n h=>by
 have h1:=zsn
 rw [yao] at h1
 unfold Tryz.kn at h
 split at h
 ·rename_i hm
  have:=h1 t (zm8 hm)
  simpa using this
 ·split at h <;> omega)⟩
theorem zaf:Tryz.prog.follows .mixedOrders=true:=by kernel_rfl
theorem Tryz.nms:Tryz.prog.funcs.all (fun f=>!(f.name == "runtime.NumGoroutine"))=true:=by kernel_rfl
theorem Tryz.nm {F:FuncId} {fn:Func} (hf:Tryz.prog.funcs[F]? = some fn):(fn.name == "runtime.NumGoroutine")=false:=by
 have h:=Array.all_eq_true'.1 Tryz.nms fn (Array.mem_of_getElem? hf)
 simpa using h
theorem fdG {F:FuncId} {fn:Func} {c:Code} {args:List AV} {H:Heap} {R:AV→Heap→Prop} {re:RE} (hf:Tryz.prog.funcs[F]? = some fn) (hx:fn.body=some c∧Nat.ble args.length fn.ntmps=true∧argO 0 args=some re)
  (h:zdq H→zaa H.length args→wpC Tryz.prog Tryz.kn Tryz.T ⟨fn.ntmps,none⟩ H.length c (endQ Tryz.T H.length fn.results.toList H R) re [] H 0 []):VCall Tryz.prog F args H R :=
 fn_gen Tryz.E0 zaf hf (Tryz.nm hf) hx.1 (ybz hx.2.1) hx.2.2 h
theorem fdD {F:FuncId} {fn:Func} {c:Code} {args:List AV} {H:Heap} {v:AV} {re:RE} (hf:Tryz.prog.funcs[F]? = some fn) (hx:fn.body=some c∧Nat.ble args.length fn.ntmps=true∧argO 0 args=some re)
  (h:zdq H→zaa H.length args→wpC Tryz.prog Tryz.kn Tryz.T ⟨fn.ntmps,none⟩ H.length c (endQ Tryz.T H.length fn.results.toList H (detR H v)) re [] H 0 []):VDet Tryz.prog F args H v :=
 fdG hf hx h
end Go.Proofs.YtjflngchbeegcaaGreatDoor
