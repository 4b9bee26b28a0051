/- A text of the proof: the parts T38z. -/
import Derived.Test.YtgopbbkpcjgihaaGreatRows
import Derived.Test.YtgopbbkpcjgihaaGreatK6
set_option linter.unusedSimpArgs false
set_option linter.unusedVariables false
set_option maxHeartbeats 8000000
namespace Go.Proofs.YtgopbbkpcjgihaaGreat
open Go.Vsi
def Tryz.gl:List (Nat×List AV):=[]
theorem Tryz.gl_low:∀ p∈Tryz.gl,zac 0 p.2:=fun _ hp=>(ycu hp).elim
instance Tryz.glob:Glob:=⟨Tryz.gl,Tryz.gl_low⟩
def Tryz.tl:List (Option TI):=[
 some ⟨.other,1,0,(some [.junk])⟩,
 some ⟨.fn,1,8,(some [.nilf])⟩,
 some ⟨.int .i64,1,8,(some [.int .i64 0])⟩,
 some ⟨.int .i64,1,8,(some [.int .i64 0])⟩,
 some ⟨.bool,1,1,(some [.bool false])⟩,
 some ⟨.int .u8,1,1,(some [.int .u8 0])⟩,
 some ⟨.int .u8,1,1,(some [.int .u8 0])⟩,
 some ⟨.st [(2,0,1,false),(3,1,1,false),(4,2,1,false),(6,3,1,false)],4,24,(some [.int .i64 0,.int .i64 0,.bool false,.int .u8 0])⟩,
 some ⟨.st [(2,0,1,false),(3,1,1,false),(4,2,1,false),(6,3,1,false)],4,24,(some [.int .i64 0,.int .i64 0,.bool false,.int .u8 0])⟩,
 some ⟨.str,1,16,(some [.str .empty])⟩,
 some ⟨.str,1,16,(some [.str .empty])⟩,
 some ⟨.str,1,16,(some [.str .empty])⟩,
 some ⟨.int .u64,1,8,(some [.int .u64 0])⟩,
 some ⟨.st [(9,0,1,false),(12,1,1,false)],2,24,(some [.str .empty,.int .u64 0])⟩,
 some ⟨.st [(9,0,1,false),(12,1,1,false)],2,24,(some [.str .empty,.int .u64 0])⟩,
 some ⟨.ptr 194,1,8,(some [.nilp])⟩,
 some ⟨.ptr 197,1,8,(some [.nilp])⟩,
 some ⟨.ptr 205,1,8,(some [.nilp])⟩,
 some ⟨.st [(17,0,1,false)],1,8,(some [.nilp])⟩,
 some ⟨.st [(17,0,1,false)],1,8,(some [.nilp])⟩,
 some ⟨.ifc,1,16,(some [.nili])⟩,
 some ⟨.int .i32,1,4,(some [.int .i32 0])⟩,
 some ⟨.sl 69,1,24,(some [.nils])⟩,
 some ⟨.sl 80,1,24,(some [.nils])⟩,
 some ⟨.st [(22,0,1,false),(23,1,1,false)],2,48,(some [.nils,.nils])⟩,
 some ⟨.st [(22,0,1,false),(23,1,1,false)],2,48,(some [.nils,.nils])⟩,
 some ⟨.fn,1,8,(some [.nilf])⟩,
 some ⟨.fn,1,8,(some [.nilf])⟩,
 some ⟨.sl 83,1,24,(some [.nils])⟩,
 some ⟨.sl 89,1,24,(some [.nils])⟩,
 some ⟨.st [(28,0,1,false),(29,1,1,false)],2,48,(some [.nils,.nils])⟩,
 some ⟨.st [(28,0,1,false),(29,1,1,false)],2,48,(some [.nils,.nils])⟩,
 some ⟨.fn,1,8,(some [.nilf])⟩,
 some ⟨.fn,1,8,(some [.nilf])⟩,
 some ⟨.sl 63,1,24,(some [.nils])⟩,
 some ⟨.st [(3,0,1,false),(3,1,1,false),(34,2,1,false),(3,3,1,false),(3,4,1,false),(3,5,1,false),(5,6,1,false)],7,72,(some [.int .i64 0,.int .i64 0,.nils,.int .i64 0,.int .i64 0,.int .i64 0,.int .u8 0])⟩,
 some ⟨.st [(3,0,1,false),(3,1,1,false),(34,2,1,false),(3,3,1,false),(3,4,1,false),(3,5,1,false),(5,6,1,false)],7,72,(some [.int .i64 0,.int .i64 0,.nils,.int .i64 0,.int .i64 0,.int .i64 0,.int .u8 0])⟩,
 some ⟨.int .i64,1,8,(some [.int .i64 0])⟩,
 some ⟨.other,1,0,(some [.junk])⟩,
 some ⟨.fn,1,8,(some [.nilf])⟩,
 some ⟨.sl 105,1,24,(some [.nils])⟩,
 some ⟨.other,1,0,(some [.junk])⟩,
 some ⟨.fn,1,8,(some [.nilf])⟩,
 some ⟨.sl 60,1,24,(some [.nils])⟩,
 some ⟨.other,1,0,(some [.junk])⟩,
 some ⟨.fn,1,8,(some [.nilf])⟩,
 some ⟨.fn,1,8,(some [.nilf])⟩,
 some ⟨.fn,1,8,(some [.nilf])⟩,
 some ⟨.fn,1,8,(some [.nilf])⟩,
 some ⟨.sl 115,1,24,(some [.nils])⟩,
 some ⟨.st [(3,0,1,false),(3,1,1,false),(49,2,1,false),(3,3,1,false),(3,4,1,false),(3,5,1,false),(5,6,1,false)],7,72,(some [.int .i64 0,.int .i64 0,.nils,.int .i64 0,.int .i64 0,.int .i64 0,.int .u8 0])⟩,
 some ⟨.st [(3,0,1,false),(3,1,1,false),(49,2,1,false),(3,3,1,false),(3,4,1,false),(3,5,1,false),(5,6,1,false)],7,72,(some [.int .i64 0,.int .i64 0,.nils,.int .i64 0,.int .i64 0,.int .i64 0,.int .u8 0])⟩,
 some ⟨.other,1,0,(some [.junk])⟩,
 some ⟨.fn,1,8,(some [.nilf])⟩,
 some ⟨.sl 61,1,24,(some [.nils])⟩,
 some ⟨.fn,1,8,(some [.nilf])⟩,
 some ⟨.fn,1,8,(some [.nilf])⟩,
 some ⟨.sl 120,1,24,(some [.nils])⟩,
 some ⟨.fn,1,8,(some [.nilf])⟩,
 some ⟨.st [(3,0,1,false),(3,1,1,false),(3,2,1,false),(3,3,1,false),(3,4,1,false)],5,40,(some [.int .i64 0,.int .i64 0,.int .i64 0,.int .i64 0,.int .i64 0])⟩,
 some ⟨.st [(3,0,1,false),(3,1,1,false),(3,2,1,false),(3,3,1,false),(3,4,1,false)],5,40,(some [.int .i64 0,.int .i64 0,.int .i64 0,.int .i64 0,.int .i64 0])⟩,
 some ⟨.st [(3,0,1,false),(3,1,1,false),(3,2,1,false),(3,3,1,false),(3,4,1,false)],5,40,(some [.int .i64 0,.int .i64 0,.int .i64 0,.int .i64 0,.int .i64 0])⟩,
 some ⟨.st [(3,0,1,false),(3,1,1,false)],2,16,(some [.int .i64 0,.int .i64 0])⟩,
 some ⟨.st [(3,0,1,false),(3,1,1,false)],2,16,(some [.int .i64 0,.int .i64 0])⟩,
 some ⟨.fn,1,8,(some [.nilf])⟩,
 some ⟨.fn,1,8,(some [.nilf])⟩,
 some ⟨.fn,1,8,(some [.nilf])⟩,
 some ⟨.sl 71,1,24,(some [.nils])⟩,
 some ⟨.st [(9,0,1,false),(67,1,1,false)],2,40,(some [.str .empty,.nils])⟩,
 some ⟨.st [(9,0,1,false),(67,1,1,false)],2,40,(some [.str .empty,.nils])⟩,
 some ⟨.st [(3,0,1,false),(36,1,7,false)],8,80,(some [.int .i64 0,.int .i64 0,.int .i64 0,.nils,.int .i64 0,.int .i64 0,.int .i64 0,.int .u8 0])⟩,
 some ⟨.st [(3,0,1,false),(36,1,7,false)],8,80,(some [.int .i64 0,.int .i64 0,.int .i64 0,.nils,.int .i64 0,.int .i64 0,.int .i64 0,.int .u8 0])⟩,
 some ⟨.other,1,0,(some [.junk])⟩,
 some ⟨.fn,1,8,(some [.nilf])⟩,
 some ⟨.fn,1,8,(some [.nilf])⟩,
 some ⟨.fn,1,8,(some [.nilf])⟩,
 some ⟨.fn,1,8,(some [.nilf])⟩,
 some ⟨.st [(3,0,1,false),(3,1,1,false),(3,2,1,false),(3,3,1,false)],4,32,(some [.int .i64 0,.int .i64 0,.int .i64 0,.int .i64 0])⟩,
 some ⟨.st [(3,0,1,false),(3,1,1,false),(3,2,1,false),(3,3,1,false)],4,32,(some [.int .i64 0,.int .i64 0,.int .i64 0,.int .i64 0])⟩,
 some ⟨.st [(9,0,1,false),(9,1,1,false),(3,2,1,false),(78,3,4,false)],7,72,(some [.str .empty,.str .empty,.int .i64 0,.int .i64 0,.int .i64 0,.int .i64 0,.int .i64 0])⟩,
 some ⟨.st [(9,0,1,false),(9,1,1,false),(3,2,1,false),(78,3,4,false)],7,72,(some [.str .empty,.str .empty,.int .i64 0,.int .i64 0,.int .i64 0,.int .i64 0,.int .i64 0])⟩,
 some ⟨.sl 86,1,24,(some [.nils])⟩,
 some ⟨.st [(9,0,1,false),(81,1,1,false)],2,40,(some [.str .empty,.nils])⟩,
 some ⟨.st [(9,0,1,false),(81,1,1,false)],2,40,(some [.str .empty,.nils])⟩,
 some ⟨.fn,1,8,(some [.nilf])⟩,
 some ⟨.st [(3,0,1,false),(51,1,7,false)],8,80,(some [.int .i64 0,.int .i64 0,.int .i64 0,.nils,.int .i64 0,.int .i64 0,.int .i64 0,.int .u8 0])⟩,
 some ⟨.st [(3,0,1,false),(51,1,7,false)],8,80,(some [.int .i64 0,.int .i64 0,.int .i64 0,.nils,.int .i64 0,.int .i64 0,.int .i64 0,.int .u8 0])⟩,
 some ⟨.st [(3,0,1,false),(3,1,1,false),(3,2,1,false),(3,3,1,false)],4,32,(some [.int .i64 0,.int .i64 0,.int .i64 0,.int .i64 0])⟩,
 some ⟨.st [(9,0,1,false),(9,1,1,false),(3,2,1,false),(87,3,4,false)],7,72,(some [.str .empty,.str .empty,.int .i64 0,.int .i64 0,.int .i64 0,.int .i64 0,.int .i64 0])⟩,
 some ⟨.st [(9,0,1,false),(9,1,1,false),(3,2,1,false),(87,3,4,false)],7,72,(some [.str .empty,.str .empty,.int .i64 0,.int .i64 0,.int .i64 0,.int .i64 0,.int .i64 0])⟩,
 some ⟨.fn,1,8,(some [.nilf])⟩,
 some ⟨.fn,1,8,(some [.nilf])⟩,
 some ⟨.fn,1,8,(some [.nilf])⟩,
 some ⟨.fn,1,8,(some [.nilf])⟩,
 some ⟨.other,1,0,(some [.junk])⟩,
 some ⟨.fn,1,8,(some [.nilf])⟩,
 some ⟨.fn,1,8,(some [.nilf])⟩,
 some ⟨.mp 100 101,1,8,(some [.nilm])⟩,
 some ⟨.fn,1,8,(some [.nilf])⟩,
 some ⟨.st [(9,0,1,false),(9,1,1,false)],2,32,(some [.str .empty,.str .empty])⟩,
 some ⟨.st [(9,0,1,false),(9,1,1,false)],2,32,(some [.str .empty,.str .empty])⟩,
 some ⟨.sl 78,1,24,(some [.nils])⟩,
 some ⟨.other,1,0,(some [.junk])⟩,
 some ⟨.fn,1,8,(some [.nilf])⟩,
 some ⟨.st [(9,0,1,false),(9,1,1,false),(3,2,1,false)],3,40,(some [.str .empty,.str .empty,.int .i64 0])⟩,
 some ⟨.st [(9,0,1,false),(9,1,1,false),(3,2,1,false)],3,40,(some [.str .empty,.str .empty,.int .i64 0])⟩,
 some ⟨.fn,1,8,(some [.nilf])⟩,
 some ⟨.fn,1,8,(some [.nilf])⟩,
 some ⟨.fn,1,8,(some [.nilf])⟩,
 some ⟨.fn,1,8,(some [.nilf])⟩,
 some ⟨.other,1,0,(some [.junk])⟩,
 some ⟨.fn,1,8,(some [.nilf])⟩,
 some ⟨.fn,1,8,(some [.nilf])⟩,
 some ⟨.fn,1,8,(some [.nilf])⟩,
 some ⟨.mp 100 3,1,8,(some [.nilm])⟩,
 some ⟨.st [(3,0,1,false),(3,1,1,false)],2,16,(some [.int .i64 0,.int .i64 0])⟩,
 some ⟨.sl 87,1,24,(some [.nils])⟩,
 some ⟨.fn,1,8,(some [.nilf])⟩,
 some ⟨.other,1,0,(some [.junk])⟩,
 some ⟨.fn,1,8,(some [.nilf])⟩,
 some ⟨.st [(9,0,1,false),(9,1,1,false),(3,2,1,false)],3,40,(some [.str .empty,.str .empty,.int .i64 0])⟩,
 some ⟨.fn,1,8,(some [.nilf])⟩,
 some ⟨.other,1,0,(some [.junk])⟩,
 some ⟨.fn,1,8,(some [.nilf])⟩,
 some ⟨.fn,1,8,(some [.nilf])⟩,
 some ⟨.other,1,0,(some [.junk])⟩,
 some ⟨.fn,1,8,(some [.nilf])⟩,
 some ⟨.fn,1,8,(some [.nilf])⟩,
 some ⟨.other,1,0,(some [.junk])⟩,
 some ⟨.fn,1,8,(some [.nilf])⟩,
 some ⟨.fn,1,8,(some [.nilf])⟩,
 some ⟨.fn,1,8,(some [.nilf])⟩,
 some ⟨.other,1,0,(some [.junk])⟩,
 some ⟨.fn,1,8,(some [.nilf])⟩,
 some ⟨.fn,1,8,(some [.nilf])⟩,
 some ⟨.fn,1,8,(some [.nilf])⟩,
 some ⟨.fn,1,8,(some [.nilf])⟩,
 some ⟨.fn,1,8,(some [.nilf])⟩,
 some ⟨.sl 3,1,24,(some [.nils])⟩,
 some ⟨.fn,1,8,(some [.nilf])⟩,
 some ⟨.sl 144,1,24,(some [.nils])⟩,
 some ⟨.fn,1,8,(some [.nilf])⟩,
 some ⟨.fn,1,8,(some [.nilf])⟩,
 some ⟨.st [(5,0,1,false),(142,1,1,false)],2,16,(some [.int .u8 0,.nilf])⟩,
 some ⟨.st [(5,0,1,false),(142,1,1,false)],2,16,(some [.int .u8 0,.nilf])⟩,
 some ⟨.fn,1,8,(some [.nilf])⟩,
 some ⟨.fn,1,8,(some [.nilf])⟩,
 some ⟨.int .u64,1,8,(some [.int .u64 0])⟩,
 some ⟨.fn,1,8,(some [.nilf])⟩,
 some ⟨.fn,1,8,(some [.nilf])⟩,
 some ⟨.fn,1,8,(some [.nilf])⟩,
 some ⟨.fn,1,8,(some [.nilf])⟩,
 some ⟨.fn,1,8,(some [.nilf])⟩,
 some ⟨.fn,1,8,(some [.nilf])⟩,
 some ⟨.fn,1,8,(some [.nilf])⟩,
 some ⟨.fn,1,8,(some [.nilf])⟩,
 some ⟨.fn,1,8,(some [.nilf])⟩,
 some ⟨.fn,1,8,(some [.nilf])⟩,
 some ⟨.fn,1,8,(some [.nilf])⟩,
 some ⟨.fn,1,8,(some [.nilf])⟩,
 some ⟨.fn,1,8,(some [.nilf])⟩,
 some ⟨.ptr 3,1,8,(some [.nilp])⟩,
 some ⟨.arr 3 161,3,24,(some [.nilp,.nilp,.nilp])⟩,
 some ⟨.sl 165,1,24,(some [.nils])⟩,
 some ⟨.fn,1,8,(some [.nilf])⟩,
 some ⟨.fn,1,8,(some [.nilf])⟩,
 some ⟨.fn,1,8,(some [.nilf])⟩,
 some ⟨.int .i64,1,8,(some [.int .i64 0])⟩,
 some ⟨.other,1,0,(some [.junk])⟩,
 some ⟨.fn,1,8,(some [.nilf])⟩,
 some ⟨.fn,1,8,(some [.nilf])⟩,
 some ⟨.fn,1,8,(some [.nilf])⟩,
 some ⟨.fn,1,8,(some [.nilf])⟩,
 some ⟨.fn,1,8,(some [.nilf])⟩,
 some ⟨.int .u32,1,4,(some [.int .u32 0])⟩,
 some ⟨.fn,1,8,(some [.nilf])⟩,
 some ⟨.int .u64,1,8,(some [.int .u64 0])⟩,
 some ⟨.fn,1,8,(some [.nilf])⟩,
 some ⟨.fn,1,8,(some [.nilf])⟩,
 some ⟨.fn,1,8,(some [.nilf])⟩,
 some ⟨.fn,1,8,(some [.nilf])⟩,
 some ⟨.other,1,0,(some [.junk])⟩,
 some ⟨.fn,1,8,(some [.nilf])⟩,
 some ⟨.int .u64,1,8,(some [.int .u64 0])⟩,
 some ⟨.fn,1,8,(some [.nilf])⟩,
 some ⟨.fn,1,8,(some [.nilf])⟩,
 some ⟨.fn,1,8,(some [.nilf])⟩,
 some ⟨.fn,1,8,(some [.nilf])⟩,
 some ⟨.fn,1,8,(some [.nilf])⟩,
 some ⟨.fn,1,8,(some [.nilf])⟩,
 some ⟨.ptr 183,1,8,(some [.nilp])⟩,
 some ⟨.fn,1,8,(some [.nilf])⟩,
 some ⟨.fn,1,8,(some [.nilf])⟩,
 some ⟨.st [(17,0,1,false),(17,1,1,false),(17,2,1,false),(9,3,1,false)],4,40,(some [.nilp,.nilp,.nilp,.str .empty])⟩,
 some ⟨.st [(17,0,1,false),(17,1,1,false),(17,2,1,false),(9,3,1,false)],4,40,(some [.nilp,.nilp,.nilp,.str .empty])⟩,
 some ⟨.arr 0 16,0,0,(some [])⟩,
 some ⟨.st [(195,0,0,true)],0,0,(some [])⟩,
 some ⟨.st [(195,0,0,true)],0,0,(some [])⟩,
 some ⟨.int .u8,1,1,(some [.int .u8 0])⟩,
 some ⟨.int .u8,1,1,(some [.int .u8 0])⟩,
 some ⟨.fn,1,8,(some [.nilf])⟩,
 some ⟨.ptr 5,1,8,(some [.nilp])⟩,
 some ⟨.int .i32,1,4,(some [.int .i32 0])⟩,
 some ⟨.int .i32,1,4,(some [.int .i32 0])⟩,
 some ⟨.st [(12,0,1,false),(12,1,1,false),(174,2,1,false),(198,3,1,false),(5,4,1,false),(5,5,1,false),(199,6,1,false),(200,7,1,false),(201,8,1,false),(202,9,1,false),(203,10,1,false)],11,48,(some [.int .u64 0,.int .u64 0,.int .u32 0,.int .u8 0,.int .u8 0,.int .u8 0,.int .u8 0,.nilf,.nilp,.int .i32 0,.int .i32 0])⟩,
 some ⟨.st [(12,0,1,false),(12,1,1,false),(174,2,1,false),(198,3,1,false),(5,4,1,false),(5,5,1,false),(199,6,1,false),(200,7,1,false),(201,8,1,false),(202,9,1,false),(203,10,1,false)],11,48,(some [.int .u64 0,.int .u64 0,.int .u32 0,.int .u8 0,.int .u8 0,.int .u8 0,.int .u8 0,.nilf,.nilp,.int .i32 0,.int .i32 0])⟩,
 some ⟨.other,1,8,(some [.nilp])⟩]
theorem Tryz.tl_ok:(List.range 207).map (tiOf Tryz.prog)=Tryz.tl:=by kernel_rfl
def Tryz.T (t:TypeId):Option TI:=match lget Tryz.tl t with
 | some x=>x
 | none=>none
theorem zfy:TOk Tryz.prog Tryz.T:=by
 intro t ti h
 unfold Tryz.T at h
 rw [za9] at h
 cases hx:Tryz.tl[t]? with
 | none=>simp [hx] at h
 | some x =>
   simp only [hx] at h
   subst h
   rw [← Tryz.tl_ok] at hx
   simp only [ya7,yba] at hx
   obtain ⟨j,h1,h2⟩:=hx
   have:j=t:=by
    have hl:=(yac.1 h1).1
    rw [yc8 (by simpa using hl)] at h1
    simpa using h1.symm
   subst this
   exact h2
def Tryz.eqs:List Nat:=[105,78,63,60,100,120]
def memB (t:Nat):List Nat→Bool
 | []=>false
 | x::l=>match Nat.beq x t with
   | true=>true
   | false=>memB t l
theorem memB_mem {t:Nat}:∀ {l:List Nat},memB t l=true→t∈l
 | [],h=>by cases h
 | x::l,h=>by
   simp only [memB] at h
   split at h
   ·rename_i hb;rw [yap hb];simp
   ·exact ya4 _ (memB_mem h)
theorem Tryz.kn_all:(List.range 207).all (zeb Tryz.prog)=true:=by kernel_rfl
theorem Tryz.zr_all:(List.range 207).all (zdb Tryz.prog)=true:=by kernel_rfl
theorem Tryz.eq_all:Tryz.eqs.all (fun t=>!Tryz.prog.stoodInHeld t&&!Tryz.prog.eqGuardType Tryz.prog.depth t)=true:=by kernel_rfl
def Tryz.kn (t:TypeId):Nat:=match memB t Tryz.eqs with
 | true=>2
 | false=>match Nat.blt t 207 with
   | true=>1
   | false=>0
theorem Tryz.E0:Env0 Tryz.prog Tryz.T Tryz.kn:=⟨(fun t ti h=>by
 have h1:=Tryz.zr_all
 rw [yao] at h1
 refine h1 t (ybo.2 ?_)
 unfold Tryz.T at h
 rw [za9] at h
 rcases yag t 207 with hl|hl
 ·exact hl
 ·rw [ycg (ybg (ybv (by kernel_rfl)) hl)] at h
  cases h),zfy,(fun t n h=>by
 have h1:=Tryz.kn_all
 rw [yao] at h1
 unfold Tryz.kn at h
 refine h1 t (ybo.2 ?_)
 split at h
 ·rename_i hm
  have:∀ x∈Tryz.eqs,x<207:=by decide
  exact this t (memB_mem hm)
 ·split at h
  ·rename_i hb;simp [Nat.blt] at hb;omega
  ·cases h),(fun t n h=>by
 have h1:=Tryz.eq_all
 rw [yao] at h1
 unfold Tryz.kn at h
 split at h
 ·rename_i hm
  have:=h1 t (memB_mem hm)
  simpa using this
 ·split at h <;> omega)⟩
theorem zad:Tryz.prog.follows .mixedOrders=true:=by kernel_rfl
end Go.Proofs.YtgopbbkpcjgihaaGreat
