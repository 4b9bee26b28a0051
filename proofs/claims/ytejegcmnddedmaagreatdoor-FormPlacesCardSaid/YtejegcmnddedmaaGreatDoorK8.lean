/- A text of the proof: the parts T02z. -/
import Derived.Test.YtejegcmnddedmaaGreatDoorRows
import Derived.Test.YtejegcmnddedmaaGreatDoorK7
set_option linter.unusedSimpArgs false
set_option linter.unusedVariables false
set_option maxHeartbeats 8000000
namespace Go.Proofs.YtejegcmnddedmaaGreatDoor
open Go.Vsi
def Tryz.gl:List (Nat×List AV):=[(0,[.bool false,.bool false,.int .u8 0,.int .i64 0,.int .i64 0,.bool true,.bool true,.int .u8 1,.int .i64 4,.int .i64 0,.bool true,.bool true,.int .u8 0,.int .i64 0,.int .i64 0,.bool true,.bool true,.int .u8 0,.int .i64 0,.int .i64 1,.bool true,.bool true,.int .u8 0,.int .i64 0,.int .i64 2,.bool true,.bool true,.int .u8 0,.int .i64 0,.int .i64 2,.bool true,.bool true,.int .u8 0,.int .i64 0,.int .i64 2,.bool true,.bool true,.int .u8 0,.int .i64 0,.int .i64 2,.bool true,.bool true,.int .u8 2,.int .i64 0,.int .i64 1,.bool true,.bool true,.int .u8 2,.int .i64 0,.int .i64 1,.bool true,.bool true,.int .u8 0,.int .i64 0,.int .i64 1,.bool true,.bool true,.int .u8 0,.int .i64 0,.int .i64 1,.bool true,.bool true,.int .u8 0,.int .i64 0,.int .i64 1,.bool true,.bool true,.int .u8 0,.int .i64 0,.int .i64 1,.bool true,.bool true,.int .u8 0,.int .i64 0,.int .i64 2,.bool false,.bool true,.int .u8 3,.int .i64 0,.int .i64 0,.bool false,.bool true,.int .u8 3,.int .i64 2,.int .i64 0])]
theorem Tryz.gl_low:∀ p∈Tryz.gl,zae 0 p.2:=by
 intro p hp
 simp only [Tryz.gl,yax,ycm,or_false] at hp
 (repeat' rcases hp with hp|hp) <;> try subst hp
 all_goals first
 | exact hp.elim
 | (repeat' (first|exact trivial|refine ybu ?_ ?_))
instance Tryz.glob:Glob:=⟨Tryz.gl,Tryz.gl_low⟩
def Tryz.tl:List (Option TI):=[
 some ⟨.other,1,0,(some [.junk])⟩,
 some ⟨.fn,1,8,(some [.nilf])⟩,
 some ⟨.int .i64,1,8,(some [.int .i64 0])⟩,
 some ⟨.int .i64,1,8,(some [.int .i64 0])⟩,
 some ⟨.bool,1,1,(some [.bool false])⟩,
 some ⟨.int .u8,1,1,(some [.int .u8 0])⟩,
 some ⟨.int .u8,1,1,(some [.int .u8 0])⟩,
 some ⟨.st [(2,0,1,false),(3,1,1,false),(4,2,1,false),(6,3,1,false)],4,24,(some [.int .i64 0,.int .i64 0,.bool false,.int .u8 0])⟩,
 some ⟨.st [(2,0,1,false),(3,1,1,false),(4,2,1,false),(6,3,1,false)],4,24,(some [.int .i64 0,.int .i64 0,.bool false,.int .u8 0])⟩,
 some ⟨.str,1,16,(some [.str .empty])⟩,
 some ⟨.str,1,16,(some [.str .empty])⟩,
 some ⟨.str,1,16,(some [.str .empty])⟩,
 some ⟨.int .u64,1,8,(some [.int .u64 0])⟩,
 some ⟨.st [(9,0,1,false),(12,1,1,false)],2,24,(some [.str .empty,.int .u64 0])⟩,
 some ⟨.st [(9,0,1,false),(12,1,1,false)],2,24,(some [.str .empty,.int .u64 0])⟩,
 some ⟨.ptr 139,1,8,(some [.nilp])⟩,
 some ⟨.ptr 142,1,8,(some [.nilp])⟩,
 some ⟨.ptr 151,1,8,(some [.nilp])⟩,
 some ⟨.st [(17,0,1,false)],1,8,(some [.nilp])⟩,
 some ⟨.st [(17,0,1,false)],1,8,(some [.nilp])⟩,
 some ⟨.ifc,1,16,(some [.nili])⟩,
 some ⟨.int .i32,1,4,(some [.int .i32 0])⟩,
 some ⟨.sl 36,1,24,(some [.nils])⟩,
 some ⟨.sl 25,1,24,(some [.nils])⟩,
 some ⟨.st [(5,0,1,false),(9,1,1,false),(22,2,1,false),(23,3,1,false)],4,72,(some [.int .u8 0,.str .empty,.nils,.nils])⟩,
 some ⟨.st [(5,0,1,false),(9,1,1,false),(22,2,1,false),(23,3,1,false)],4,72,(some [.int .u8 0,.str .empty,.nils,.nils])⟩,
 some ⟨.fn,1,8,(some [.nilf])⟩,
 some ⟨.fn,1,8,(some [.nilf])⟩,
 some ⟨.fn,1,8,(some [.nilf])⟩,
 some ⟨.sl 3,1,24,(some [.nils])⟩,
 some ⟨.fn,1,8,(some [.nilf])⟩,
 some ⟨.int .u16,1,2,(some [.int .u16 0])⟩,
 some ⟨.fn,1,8,(some [.nilf])⟩,
 some ⟨.fn,1,8,(some [.nilf])⟩,
 some ⟨.fn,1,8,(some [.nilf])⟩,
 some ⟨.st [(4,0,1,false),(9,1,1,false),(22,2,1,false)],3,48,(some [.bool false,.str .empty,.nils])⟩,
 some ⟨.st [(4,0,1,false),(9,1,1,false),(22,2,1,false)],3,48,(some [.bool false,.str .empty,.nils])⟩,
 some ⟨.fn,1,8,(some [.nilf])⟩,
 some ⟨.int .i64,1,8,(some [.int .i64 0])⟩,
 some ⟨.other,1,0,(some [.junk])⟩,
 some ⟨.fn,1,8,(some [.nilf])⟩,
 some ⟨.fn,1,8,(some [.nilf])⟩,
 some ⟨.fn,1,8,(some [.nilf])⟩,
 some ⟨.fn,1,8,(some [.nilf])⟩,
 some ⟨.fn,1,8,(some [.nilf])⟩,
 some ⟨.fn,1,8,(some [.nilf])⟩,
 some ⟨.fn,1,8,(some [.nilf])⟩,
 some ⟨.sl 52,1,24,(some [.nils])⟩,
 some ⟨.fn,1,8,(some [.nilf])⟩,
 some ⟨.fn,1,8,(some [.nilf])⟩,
 some ⟨.fn,1,8,(some [.nilf])⟩,
 some ⟨.st [(9,0,1,false),(3,1,1,false)],2,24,(some [.str .empty,.int .i64 0])⟩,
 some ⟨.st [(9,0,1,false),(3,1,1,false)],2,24,(some [.str .empty,.int .i64 0])⟩,
 some ⟨.fn,1,8,(some [.nilf])⟩,
 some ⟨.other,1,0,(some [.junk])⟩,
 some ⟨.fn,1,8,(some [.nilf])⟩,
 some ⟨.fn,1,8,(some [.nilf])⟩,
 some ⟨.fn,1,8,(some [.nilf])⟩,
 some ⟨.fn,1,8,(some [.nilf])⟩,
 some ⟨.st [(4,0,1,false),(3,1,1,false),(3,2,1,false)],3,24,(some [.bool false,.int .i64 0,.int .i64 0])⟩,
 some ⟨.st [(4,0,1,false),(3,1,1,false),(3,2,1,false)],3,24,(some [.bool false,.int .i64 0,.int .i64 0])⟩,
 some ⟨.fn,1,8,(some [.nilf])⟩,
 some ⟨.fn,1,8,(some [.nilf])⟩,
 some ⟨.fn,1,8,(some [.nilf])⟩,
 some ⟨.other,1,0,(some [.junk])⟩,
 some ⟨.fn,1,8,(some [.nilf])⟩,
 some ⟨.ptr 25,1,8,(some [.nilp])⟩,
 some ⟨.fn,1,8,(some [.nilf])⟩,
 some ⟨.fn,1,8,(some [.nilf])⟩,
 some ⟨.fn,1,8,(some [.nilf])⟩,
 some ⟨.fn,1,8,(some [.nilf])⟩,
 some ⟨.fn,1,8,(some [.nilf])⟩,
 some ⟨.fn,1,8,(some [.nilf])⟩,
 some ⟨.fn,1,8,(some [.nilf])⟩,
 some ⟨.fn,1,8,(some [.nilf])⟩,
 some ⟨.mp 52 4,1,8,(some [.nilm])⟩,
 some ⟨.fn,1,8,(some [.nilf])⟩,
 some ⟨.fn,1,8,(some [.nilf])⟩,
 some ⟨.fn,1,8,(some [.nilf])⟩,
 some ⟨.fn,1,8,(some [.nilf])⟩,
 some ⟨.fn,1,8,(some [.nilf])⟩,
 some ⟨.fn,1,8,(some [.nilf])⟩,
 some ⟨.fn,1,8,(some [.nilf])⟩,
 some ⟨.fn,1,8,(some [.nilf])⟩,
 some ⟨.fn,1,8,(some [.nilf])⟩,
 some ⟨.fn,1,8,(some [.nilf])⟩,
 some ⟨.fn,1,8,(some [.nilf])⟩,
 some ⟨.fn,1,8,(some [.nilf])⟩,
 some ⟨.ptr 60,1,8,(some [.nilp])⟩,
 some ⟨.fn,1,8,(some [.nilf])⟩,
 some ⟨.st [(4,0,1,false),(4,1,1,false),(5,2,1,false),(3,3,1,false),(3,4,1,false)],5,24,(some [.bool false,.bool false,.int .u8 0,.int .i64 0,.int .i64 0])⟩,
 some ⟨.st [(4,0,1,false),(4,1,1,false),(5,2,1,false),(3,3,1,false),(3,4,1,false)],5,24,(some [.bool false,.bool false,.int .u8 0,.int .i64 0,.int .i64 0])⟩,
 some ⟨.arr 17 91,85,408,(some [.bool false,.bool false,.int .u8 0,.int .i64 0,.int .i64 0,.bool false,.bool false,.int .u8 0,.int .i64 0,.int .i64 0,.bool false,.bool false,.int .u8 0,.int .i64 0,.int .i64 0,.bool false,.bool false,.int .u8 0,.int .i64 0,.int .i64 0,.bool false,.bool false,.int .u8 0,.int .i64 0,.int .i64 0,.bool false,.bool false,.int .u8 0,.int .i64 0,.int .i64 0,.bool false,.bool false,.int .u8 0,.int .i64 0,.int .i64 0,.bool false,.bool false,.int .u8 0,.int .i64 0,.int .i64 0,.bool false,.bool false,.int .u8 0,.int .i64 0,.int .i64 0,.bool false,.bool false,.int .u8 0,.int .i64 0,.int .i64 0,.bool false,.bool false,.int .u8 0,.int .i64 0,.int .i64 0,.bool false,.bool false,.int .u8 0,.int .i64 0,.int .i64 0,.bool false,.bool false,.int .u8 0,.int .i64 0,.int .i64 0,.bool false,.bool false,.int .u8 0,.int .i64 0,.int .i64 0,.bool false,.bool false,.int .u8 0,.int .i64 0,.int .i64 0,.bool false,.bool false,.int .u8 0,.int .i64 0,.int .i64 0,.bool false,.bool false,.int .u8 0,.int .i64 0,.int .i64 0])⟩,
 some ⟨.fn,1,8,(some [.nilf])⟩,
 some ⟨.fn,1,8,(some [.nilf])⟩,
 some ⟨.fn,1,8,(some [.nilf])⟩,
 some ⟨.fn,1,8,(some [.nilf])⟩,
 some ⟨.fn,1,8,(some [.nilf])⟩,
 some ⟨.fn,1,8,(some [.nilf])⟩,
 some ⟨.fn,1,8,(some [.nilf])⟩,
 some ⟨.fn,1,8,(some [.nilf])⟩,
 some ⟨.fn,1,8,(some [.nilf])⟩,
 some ⟨.fn,1,8,(some [.nilf])⟩,
 some ⟨.fn,1,8,(some [.nilf])⟩,
 some ⟨.fn,1,8,(some [.nilf])⟩,
 some ⟨.fn,1,8,(some [.nilf])⟩,
 some ⟨.fn,1,8,(some [.nilf])⟩,
 some ⟨.fn,1,8,(some [.nilf])⟩,
 some ⟨.fn,1,8,(some [.nilf])⟩,
 some ⟨.fn,1,8,(some [.nilf])⟩,
 some ⟨.fn,1,8,(some [.nilf])⟩,
 some ⟨.fn,1,8,(some [.nilf])⟩,
 some ⟨.fn,1,8,(some [.nilf])⟩,
 some ⟨.fn,1,8,(some [.nilf])⟩,
 some ⟨.fn,1,8,(some [.nilf])⟩,
 some ⟨.int .u64,1,8,(some [.int .u64 0])⟩,
 some ⟨.fn,1,8,(some [.nilf])⟩,
 some ⟨.int .i64,1,8,(some [.int .i64 0])⟩,
 some ⟨.other,1,0,(some [.junk])⟩,
 some ⟨.fn,1,8,(some [.nilf])⟩,
 some ⟨.fn,1,8,(some [.nilf])⟩,
 some ⟨.fn,1,8,(some [.nilf])⟩,
 some ⟨.other,1,0,(some [.junk])⟩,
 some ⟨.fn,1,8,(some [.nilf])⟩,
 some ⟨.fn,1,8,(some [.nilf])⟩,
 some ⟨.int .u32,1,4,(some [.int .u32 0])⟩,
 some ⟨.fn,1,8,(some [.nilf])⟩,
 some ⟨.int .u64,1,8,(some [.int .u64 0])⟩,
 some ⟨.int .u64,1,8,(some [.int .u64 0])⟩,
 some ⟨.fn,1,8,(some [.nilf])⟩,
 some ⟨.fn,1,8,(some [.nilf])⟩,
 some ⟨.fn,1,8,(some [.nilf])⟩,
 some ⟨.ptr 3,1,8,(some [.nilp])⟩,
 some ⟨.fn,1,8,(some [.nilf])⟩,
 some ⟨.ptr 128,1,8,(some [.nilp])⟩,
 some ⟨.other,1,0,(some [.junk])⟩,
 some ⟨.fn,1,8,(some [.nilf])⟩,
 some ⟨.fn,1,8,(some [.nilf])⟩,
 some ⟨.st [(17,0,1,false),(17,1,1,false),(17,2,1,false),(9,3,1,false)],4,40,(some [.nilp,.nilp,.nilp,.str .empty])⟩,
 some ⟨.st [(17,0,1,false),(17,1,1,false),(17,2,1,false),(9,3,1,false)],4,40,(some [.nilp,.nilp,.nilp,.str .empty])⟩,
 some ⟨.arr 0 16,0,0,(some [])⟩,
 some ⟨.st [(140,0,0,true)],0,0,(some [])⟩,
 some ⟨.st [(140,0,0,true)],0,0,(some [])⟩,
 some ⟨.fn,1,8,(some [.nilf])⟩,
 some ⟨.int .u8,1,1,(some [.int .u8 0])⟩,
 some ⟨.int .u8,1,1,(some [.int .u8 0])⟩,
 some ⟨.fn,1,8,(some [.nilf])⟩,
 some ⟨.ptr 5,1,8,(some [.nilp])⟩,
 some ⟨.int .i32,1,4,(some [.int .i32 0])⟩,
 some ⟨.int .i32,1,4,(some [.int .i32 0])⟩,
 some ⟨.st [(12,0,1,false),(12,1,1,false),(125,2,1,false),(144,3,1,false),(5,4,1,false),(5,5,1,false),(145,6,1,false),(146,7,1,false),(147,8,1,false),(148,9,1,false),(149,10,1,false)],11,48,(some [.int .u64 0,.int .u64 0,.int .u32 0,.int .u8 0,.int .u8 0,.int .u8 0,.int .u8 0,.nilf,.nilp,.int .i32 0,.int .i32 0])⟩,
 some ⟨.st [(12,0,1,false),(12,1,1,false),(125,2,1,false),(144,3,1,false),(5,4,1,false),(5,5,1,false),(145,6,1,false),(146,7,1,false),(147,8,1,false),(148,9,1,false),(149,10,1,false)],11,48,(some [.int .u64 0,.int .u64 0,.int .u32 0,.int .u8 0,.int .u8 0,.int .u8 0,.int .u8 0,.nilf,.nilp,.int .i32 0,.int .i32 0])⟩,
 some ⟨.other,1,8,(some [.nilp])⟩]
theorem Tryz.tl_ok:(List.range 153).map (tiOf Tryz.prog)=Tryz.tl:=by kernel_rfl
def Tryz.T (t:TypeId):Option TI:=match lget Tryz.tl t with
 | some x=>x
 | none=>none
theorem zgo:TOk Tryz.prog Tryz.T:=by
 intro t ti h
 unfold Tryz.T at h
 rw [zat] at h
 cases hx:Tryz.tl[t]? with
 | none=>simp [hx] at h
 | some x =>
   simp only [hx] at h
   subst h
   rw [← Tryz.tl_ok] at hx
   simp only [ya5,ya7] at hx
   obtain ⟨j,h1,h2⟩:=hx
   have:j=t:=by
    have hl:=(yac.1 h1).1
    rw [ycy (by simpa using hl)] at h1
    simpa using h1.symm
   subst this
   exact h2
def Tryz.eqs:List Nat:=[52]
def memB (t:Nat):List Nat→Bool
 | []=>false
 | x::l=>match Nat.beq x t with
   | true=>true
   | false=>memB t l
theorem memB_mem {t:Nat}:∀ {l:List Nat},memB t l=true→t∈l
 | [],h=>by cases h
 | x::l,h=>by
   simp only [memB] at h
   split at h
   ·rename_i hb;rw [yap hb];simp
   ·exact ya2 _ (memB_mem h)
theorem Tryz.kn_all:(List.range 153).all (zdl Tryz.prog)=true:=by kernel_rfl
theorem Tryz.zr_all:(List.range 153).all (zcj Tryz.prog)=true:=by kernel_rfl
theorem Tryz.eq_all:Tryz.eqs.all (fun t=>!Tryz.prog.stoodInHeld t&&!Tryz.prog.eqGuardType Tryz.prog.depth t)=true:=by kernel_rfl
def Tryz.kn (t:TypeId):Nat:=match memB t Tryz.eqs with
 | true=>2
 | false=>match Nat.blt t 153 with
   | true=>1
   | false=>0
theorem Tryz.E0:Env0 Tryz.prog Tryz.T Tryz.kn:=⟨(fun t ti h=>by
 have h1:=Tryz.zr_all
 rw [yao] at h1
 refine h1 t (ybl.2 ?_)
 unfold Tryz.T at h
 rw [zat] at h
 rcases yag t 153 with hl|hl
 ·exact hl
 ·rw [yca (ybc (ybq (by kernel_rfl)) hl)] at h
  cases h),zgo,(fun t n h=>by
 have h1:=Tryz.kn_all
 rw [yao] at h1
 unfold Tryz.kn at h
 refine h1 t (ybl.2 ?_)
 split at h
 ·rename_i hm
  have:∀ x∈Tryz.eqs,x<153:=by decide
  exact this t (memB_mem hm)
 ·split at h
  ·rename_i hb;simp [Nat.blt] at hb;omega
  ·cases h),(fun t n h=>by
 have h1:=Tryz.eq_all
 rw [yao] at h1
 unfold Tryz.kn at h
 split at h
 ·rename_i hm
  have:=h1 t (memB_mem hm)
  simpa using this
 ·split at h <;> omega)⟩
theorem zab:Tryz.prog.follows .mixedOrders=true:=by kernel_rfl
end Go.Proofs.YtejegcmnddedmaaGreatDoor
