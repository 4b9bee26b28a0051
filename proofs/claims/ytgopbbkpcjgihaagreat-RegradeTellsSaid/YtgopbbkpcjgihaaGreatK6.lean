/- A text of the proof: the parts B0, B1, B2. -/
import Derived.RowKit
import Derived.RowKit3
import Derived.WideKeyArgs
import Derived.OpenShut
import Derived.Test.YtgopbbkpcjgihaaGreatK5
set_option linter.unusedSimpArgs false
set_option linter.unusedVariables false
set_option maxHeartbeats 8000000
namespace Go.Vsi
abbrev yai:=@Go.Vsi.IfN.id
abbrev ya1:=@Go.Vsi.EndN.det
abbrev ybd:=@Go.Vsi.LoopN.rounds
abbrev ybi:=@Go.Vsi.CallN.id
abbrev ycc:=@Go.Vsi.CallD.id
abbrev ycf:=@Go.Vsi.EqN.i64
abbrev ycp:=@Go.Vsi.EqN.id
abbrev yda:=@Go.Vsi.FrzL.refl
abbrev ydc:=@Go.Vsi.EndN.detF
abbrev ydp:=@Go.Vsi.CallN.grow
end Go.Vsi
namespace Go.Vsi
section
open Go.ChangeShapes Go.WideShapes
inductive Tm where
 | mk (v:Bool) (nm:ByteArray) (args:List Tm)
inductive Fo where
 | mk (op:Nat) (nm:ByteArray) (args:List Tm) (sub:List Fo)
mutual
def Tm.cells:Tm→List AV
 | .mk v s l=>[.bool v,.str s,.sl none l.length (Tm.cellsL l)]
def Tm.cellsL:List Tm→List AV
 | []=>[]
 | x::l=>x.cells++Tm.cellsL l
end
mutual
def Fo.cells:Fo→List AV
 | .mk op s l m=>[.int .u8 op,.str s,.sl none l.length (Tm.cellsL l),.sl none m.length (Fo.cellsL m)]
def Fo.cellsL:List Fo→List AV
 | []=>[]
 | x::l=>x.cells++Fo.cellsL l
end
theorem zfz:∀ l:List Tm,Tm.cellsL l=l.flatMap Tm.cells
 | []=>rfl
 | x::l=>by rw [Tm.cellsL,zfz l,ya6]
theorem Fo.cellsL_eq:∀ l:List Fo,Fo.cellsL l=l.flatMap Fo.cells
 | []=>rfl
 | x::l=>by rw [Fo.cellsL,Fo.cellsL_eq l,ya6]
theorem Tm.cells_mk (v:Bool) (s:ByteArray) (l:List Tm):(Tm.mk v s l).cells=[.bool v,.str s,.sl none l.length (l.flatMap Tm.cells)]:=by
 rw [← zfz]
 unfold Tm.cells
 rfl
theorem Fo.cells_mk (op:Nat) (s:ByteArray) (l:List Tm) (m:List Fo):(Fo.mk op s l m).cells=[.int .u8 op,.str s,.sl none l.length (l.flatMap Tm.cells),.sl none m.length (m.flatMap Fo.cells)]:=by
 rw [← zfz,← Fo.cellsL_eq]
 unfold Fo.cells
 rfl
mutual
def Tm.good:Tm→Prop
 | .mk _ s l=>s.size≤maxLen∧l.length≤maxLen∧Tm.goodL l
def Tm.goodL:List Tm→Prop
 | []=>True
 | x::l=>x.good∧Tm.goodL l
end
mutual
def Fo.good:Fo→Prop
 | .mk op s l m=>op≤255∧s.size≤maxLen∧l.length≤maxLen∧Tm.goodL l∧m.length≤maxLen∧Fo.goodL m
def Fo.goodL:List Fo→Prop
 | []=>True
 | x::l=>x.good∧Fo.goodL l
end
theorem zgs:∀ l:List Tm,(∀ x∈l,x.good)→Tm.goodL l
 | [],_=>trivial
 | x::l,h=>⟨h x (ybc ..),zgs l fun y hy=>h y (ya4 _ hy)⟩
theorem Fo.goodL_of:∀ l:List Fo,(∀ x∈l,x.good)→Fo.goodL l
 | [],_=>trivial
 | x::l,h=>⟨h x (ybc ..),Fo.goodL_of l fun y hy=>h y (ya4 _ hy)⟩
inductive Ty where
 | int (k:IntKind)
 | bool
 | str
 | sl (e:Ty)
 | unit
 | pair (a b:Ty)
 | tm
 | fo
def Ty.I:Ty→Type
 | .int _=>Int
 | .bool=>Bool
 | .str=>ByteArray
 | .sl e=>List e.I
 | .unit=>Unit
 | .pair a b=>a.I×b.I
 | .tm=>Tm
 | .fo=>Fo
def Ty.sz:Ty→Nat
 | .unit=>0
 | .pair a b=>a.sz+b.sz
 | .tm=>3
 | .fo=>4
 | _=>1
def Ty.enc:(τ:Ty)→τ.I→List AV
 | .int k,n=>[.int k n]
 | .bool,b=>[.bool b]
 | .str,s=>[.str s]
 | .sl e,l=>[.sl none (List.length (α:=e.I) l) (List.flatMap (α:=e.I) e.enc l)]
 | .unit,_=>[]
 | .pair a b,p=>a.enc p.1++b.enc p.2
 | .tm,x=>Tm.cells x
 | .fo,x=>Fo.cells x
def Ty.good:(τ:Ty)→τ.I→Prop
 | .int k,n=>(Lit.int k n).wf=true
 | .bool,_=>True
 | .str,s=>ByteArray.size s≤maxLen
 | .sl e,l=>List.length (α:=e.I) l≤maxLen∧∀ x,List.Mem (α:=e.I) x l→e.good x
 | .unit,_=>True
 | .pair a b,p=>a.good p.1∧b.good p.2
 | .tm,x=>Tm.good x
 | .fo,x=>Fo.good x
theorem zfb:∀ (τ:Ty) (x:τ.I),(τ.enc x).length=τ.sz
 | .int _,_=>rfl
 | .bool,_=>rfl
 | .str,_=>rfl
 | .sl _,_=>rfl
 | .unit,_=>rfl
 | .pair a b,p=>by
   simp only [Ty.enc,ya5,Ty.sz]
   rw [zfb a,zfb b]
 | .tm,.mk _ _ _=>by simp [Ty.enc,Tm.cells,Ty.sz]
 | .fo,.mk _ _ _ _=>by simp [Ty.enc,Fo.cells,Ty.sz]
def repTy:Nat→Ty→Ty
 | 0,_=>.unit
 | n+1,τ=>.pair τ (repTy n τ)
section
variable {P:Program}
mutual
inductive TyOk (P:Program):TypeId→Ty→Prop where
 | int {t:TypeId} {k:IntKind}:P.underlying t=some (.int k)→TyOk P t (.int k)
 | bool {t:TypeId}:P.underlying t=some .bool→TyOk P t .bool
 | str {t:TypeId}:P.underlying t=some .string→TyOk P t .str
 | sl {t e:TypeId} {τ:Ty}:P.underlying t=some (.slice e)→P.cellsOf e=τ.sz→0<τ.sz→TyOk P e τ→TyOk P t (.sl τ)
 | st {t:TypeId} {fs:Array Field} {τ:Ty}:P.underlying t=some (.struct fs)→P.cellsOf t=τ.sz→FldOk P fs.toList 0 τ→TyOk P t τ
 | arr {t e:TypeId} {n:Nat} {τ:Ty}:P.underlying t=some (.array n e)→P.cellsOf e=τ.sz→TyOk P e τ→P.cellsOf t=n * τ.sz→TyOk P t (repTy n τ)
 | tm {t:TypeId} {fs:Array Field} {f1 f2 f3:Field}:P.underlying t=some (.struct fs)→P.cellsOf t=3→fs.toList=[f1,f2,f3]→(f1.offset=0∧f2.offset=1∧f3.offset=2)→(P.cellsOf f1.type=1∧P.cellsOf f2.type=1∧P.cellsOf f3.type=1)→P.underlying f1.type=some .bool→P.underlying f2.type=some .string→P.underlying f3.type=some (.slice t)→TyOk P t .tm
 | fo {t u:TypeId} {fs:Array Field} {f1 f2 f3 f4:Field}:P.underlying t=some (.struct fs)→P.cellsOf t=4→fs.toList=[f1,f2,f3,f4]→(f1.offset=0∧f2.offset=1∧f3.offset=2∧f4.offset=3)→(P.cellsOf f1.type=1∧P.cellsOf f2.type=1∧P.cellsOf f3.type=1∧P.cellsOf f4.type=1)→P.underlying f1.type=some (.int .u8)→P.underlying f2.type=some .string→P.underlying f3.type=some (.slice u)→P.underlying f4.type=some (.slice t)→P.cellsOf u=3→TyOk P u .tm→TyOk P t .fo
inductive FldOk (P:Program):List Field→Nat→Ty→Prop where
 | nil {off:Nat}:FldOk P [] off .unit
 | cons {f:Field} {fs:List Field} {off:Nat} {a b:Ty}:f.offset=off→P.cellsOf f.type=a.sz→TyOk P f.type a→FldOk P fs (off+a.sz) b→FldOk P (f::fs) off (.pair a b)
end
def G.none:G:={ n:=0,blk:=fun _=>0,tk:=fun _=>⟨0,0,0,.none⟩,own:=fun _ _=>False,pend:=fun _=>False }
theorem hrel_none [Glob] (w:World) (hg:∀ p∈Glob.gl,MRel G.none w p.2 p.1 0):HRel G.none w (Hp.of []) :=
 ⟨rfl,rfl,fun i B h=>by simp [Hp.of,Hp.all] at h,fun b o h=>h.elim,fun i h=>h.elim,fun i j B C b h=>by simp [Hp.of,Hp.all] at h,hg⟩
variable {H:Type} {enc:TypeId×Value→H} {W:World} {sp:Nat→Bool}
theorem cells_mrel {w:World} {g:G} (hg:∀ b o,¬ g.own b o) {a:Addr} {n:Nat} {cs:List Value} {l:List AV} (hsp:a.spot=.none) (hc:w.cells? 0 a n=some cs) (hl:LRel g w l cs):MRel g w l a.block a.off:=by
 obtain ⟨-,h2,h3⟩:=World.cells?_some hc
 refine ydk fun j v hj=>?_
 obtain ⟨c,h4,h5⟩:=hl.get hj
 have hlt:j<n:=by rw [← h2,hl.length];exact (yac.1 hj).1
 have h6:=h3 j hlt
 rw [h4] at h6
 refine ⟨c,?_,h5,hg _ _⟩
 obtain ⟨b,o,s⟩:=a
 simp only at hsp
 subst hsp
 rw [Addr.add_lit] at h6
 exact h6
theorem flds_rel {g:G} {n:Nat} (ih:∀ {t:TypeId} {τ:Ty} {cs:List Value} {z:DataW H×List MemPlace},TyOk P t τ→DataW.trod enc P W 0 sp true n t cs=some z→∃ x:τ.I,LRel g W (τ.enc x) cs∧τ.good x∧cs.length=τ.sz) {cs:List Value} :
  ∀ {fs:List Field} {off:Nat} {τ:Ty},FldOk P fs off τ→(∀ f,f∈fs→∃ z,DataW.trod enc P W 0 sp true n f.type ((cs.drop f.offset).take (P.cellsOf f.type))=some z)→off+τ.sz=cs.length→∃ x:τ.I,LRel g W (τ.enc x) (cs.drop off)∧τ.good x
 | [],off,_,.nil,_,hlen=>by
   refine ⟨(),?_,trivial⟩
   simp only [Ty.sz,yby] at hlen
   rw [ycy (by omega)]
   simp [Ty.enc,LRel]
 | f::fs,off,_,@FldOk.cons _ _ _ _ a b h1 h2 h3 h4,hr,hlen=>by
   obtain ⟨z,hz⟩:=hr f (by simp)
   obtain ⟨x,e1,e2,e3⟩:=ih h3 hz
   simp only [Ty.sz] at hlen
   obtain ⟨y,e4,e5⟩:=flds_rel ih h4 (fun f hf=>hr f (by simp [hf])) (by omega)
   refine ⟨(x,y),?_,e2,e5⟩
   rw [h1,h2] at e1
   have:cs.drop off=(cs.drop off).take a.sz++cs.drop (off+a.sz):=by
    rw [← List.drop_drop,yck]
   rw [this]
   exact e1.append e4
theorem rep_rel {g:G} {n:Nat} {e:TypeId} {τ:Ty} (he:TyOk P e τ) (ih:∀ {t:TypeId} {τ:Ty} {cs:List Value} {z:DataW H×List MemPlace},TyOk P t τ→DataW.trod enc P W 0 sp true n t cs=some z→∃ x:τ.I,LRel g W (τ.enc x) cs∧τ.good x∧cs.length=τ.sz) {cs:List Value} :
  ∀ (m off:Nat),(∀ i,i<m→∃ z,DataW.trod enc P W 0 sp true n e ((cs.drop (off+i * τ.sz)).take τ.sz)=some z)→off+m * τ.sz=cs.length→∃ x:(repTy m τ).I,LRel g W ((repTy m τ).enc x) (cs.drop off)∧(repTy m τ).good x
 | 0,off,_,hlen=>by
   refine ⟨(),?_,trivial⟩
   rw [ycy (by omega)]
   simp [repTy,Ty.enc,LRel]
 | m+1,off,hr,hlen=>by
   obtain ⟨z,hz⟩:=hr 0 (by omega)
   simp only [Nat.zero_mul,yby] at hz
   obtain ⟨x,e1,e2,e3⟩:=ih he hz
   obtain ⟨y,e4,e5⟩:=rep_rel he ih m (off+τ.sz) (fun i hi=>by
    have:=hr (i+1) (by omega)
    rwa [show off+(i+1) * τ.sz=off+τ.sz+i * τ.sz by rw [yb4];omega] at this) (by rw [yb4] at hlen;omega)
   refine ⟨(x,y),?_,e2,e5⟩
   have:cs.drop off=(cs.drop off).take τ.sz++cs.drop (off+τ.sz):=by
    rw [← List.drop_drop,yck]
   rw [this]
   exact e1.append e4
theorem repTy_sz (τ:Ty):∀ m,(repTy m τ).sz=m * τ.sz
 | 0=>by simp [repTy,Ty.sz]
 | m+1=>by simp [repTy,Ty.sz,repTy_sz τ m,yb4,Nat.add_comm]
theorem row_mrel {g:G} (hg:∀ b o,¬ g.own b o) {τ:Ty} (h0:0<τ.sz) {a:Addr}:∀ (m:Nat) (q:Nat),(∀ i,i<m→∃ (x:τ.I) (cs:List Value),W.cells? 0 (a.add ((q+i) * τ.sz)) τ.sz=some cs∧LRel g W (τ.enc x) cs∧τ.good x) →
  ∃ l:List τ.I,l.length=m∧(∀ x∈l,τ.good x)∧MRel g W (l.flatMap τ.enc) a.block (a.off+q * τ.sz)
 | 0,q,_=>⟨[],rfl,by simp,by simp [MRel]⟩
 | m+1,q,h=>by
   obtain ⟨x,cs,e1,e2,e3⟩:=h 0 (by omega)
   obtain ⟨l,f1,f2,f3⟩:=row_mrel hg h0 m (q+1) (fun i hi=>by
    have:=h (i+1) (by omega)
    rwa [show q+(i+1)=q+1+i by omega] at this)
   refine ⟨x::l,by simp [f1],by
    intro y hy
    cases hy with
    | head=>exact e3
    | tail _ hm=>exact f2 y hm,?_⟩
   simp only [yby] at e1
   have hsp:(a.add (q * τ.sz)).spot=.none:=by
    have h3:=(World.cells?_some e1).2.2 0 h0
    have hl:=(World.cells?_some e1).2.1
    have:cs[0]? = some (cs[0]'(by omega)):=yal (by omega)
    rw [this] at h3
    have:=World.cell?_spot h3
    simpa [Addr.add] using this
   have hm:=cells_mrel hg hsp e1 e2
   have hb:(a.add (q * τ.sz)).block=a.block∧(a.add (q * τ.sz)).off=a.off+q * τ.sz:=by
    unfold Addr.add
    split
    ·rename_i hz;rw [hz];exact ⟨rfl,rfl⟩
    ·exact ⟨rfl,rfl⟩
   rw [hb.1,hb.2] at hm
   rw [ya6]
   refine ydk fun j v hj=>?_
   rcases yag j (τ.enc x).length with hlt|hge
   ·rw [yaj hlt] at hj
    exact hm.at_ hj
   ·rw [yam hge] at hj
    have:=f3.at_ hj
    rw [zfb] at this hge
    rwa [show a.off+(q+1) * τ.sz+(j-τ.sz)=a.off+q * τ.sz+j by rw [yb4];omega] at this
theorem trod_ty {g:G} (hg:∀ b o,¬ g.own b o):∀ (fuel:Nat) {t:TypeId} {τ:Ty} {cs:List Value} {z:DataW H×List MemPlace},TyOk P t τ→DataW.trod enc P W 0 sp true fuel t cs=some z→∃ x:τ.I,LRel g W (τ.enc x) cs∧τ.good x∧cs.length=τ.sz:=by
 intro fuel
 induction fuel with
 | zero=>intro t τ cs z _ h;simp [DataW.trod] at h
 | succ fuel ih =>
   intro t τ cs z ho h
   cases ho with
   | int ht =>
     obtain ⟨n,rfl,-,hw⟩:=DataW.trod_int ht h
     exact ⟨n,by simp [Ty.enc,LRel,VRel],hw,rfl⟩
   | bool ht =>
     obtain ⟨b,rfl,-⟩:=DataW.trod_bool ht h
     exact ⟨b,by simp [Ty.enc,LRel,VRel],trivial,rfl⟩
   | str ht =>
     obtain ⟨s,rfl,-,hw⟩:=DataW.trod_string ht h
     exact ⟨s,by simp [Ty.enc,LRel,VRel],hw,rfl⟩
   | @sl _ e τ ht hc h0 he =>
     rcases DataW.trod_slice ht h with ⟨rfl,-⟩|⟨a,len,cap,elems,rest,n,hn,rfl,-,-,hlc,hcm,hel,hget,-⟩
     ·refine ⟨([]:List τ.I),?_,⟨yah _,fun x hx=>by cases hx⟩,rfl⟩
      simp only [Ty.enc,LRel]
      refine ⟨_,_,rfl,?_,rfl⟩
      simp only [VRel]
      exact ⟨.none,0,rfl,yax _,.inl rfl,fun t h=>by cases h⟩
     ·cases hn
      obtain ⟨l,f1,f2,f3⟩:=row_mrel hg h0 (a:=a) len 0 (fun i hi=>by
       have hgi:=hget i hi
       rw [hc] at hgi
       have:elems[i]? = some (elems[i]'(by omega)):=yal (by omega)
       rw [this] at hgi
       obtain ⟨cs,hcs,htr⟩:=Option.bind_eq_some_iff.1 hgi
       obtain ⟨x,e1,e2,-⟩:=ih he htr
       exact ⟨x,cs,by simpa using hcs,e1,e2⟩)
      refine ⟨l,?_,⟨by rw [f1];omega,f2⟩,rfl⟩
      simp only [Ty.enc,LRel]
      refine ⟨_,_,rfl,?_,rfl⟩
      simp only [VRel]
      refine ⟨some a,cap,by rw [f1],by rw [f1];exact hlc,?_,fun t h=>by cases h⟩
      by_cases hl0:len=0
      ·left
       have:l=[]:=ya3 (by omega)
       rw [this];rfl
      ·right
       have hgi:=hget 0 (by omega)
       have:elems[0]? = some (elems[0]'(by omega)):=yal (by omega)
       rw [this] at hgi
       obtain ⟨cs,hcs,htr⟩:=Option.bind_eq_some_iff.1 hgi
       rw [hc] at hcs
       have h3:=(World.cells?_some hcs).2.2 0 h0
       have hl:=(World.cells?_some hcs).2.1
       have e0:cs[0]? = some (cs[0]'(by omega)):=yal (by omega)
       rw [e0] at h3
       have hsp:a.spot=.none:=by
        have:=World.cell?_spot h3
        simpa [Addr.add] using this
       obtain ⟨b,o,s⟩:=a
       simp only at hsp
       subst hsp
       exact ⟨b,o,rfl,by simpa using f3⟩
   | @st _ fs τ ht hc hf =>
     obtain ⟨xs,n,hn,-,hlen,hxl,hget⟩:=DataW.trod_struct ht h
     cases hn
     obtain ⟨x,e1,e2⟩:=flds_rel ih hf (fun f hfm=>by
      obtain ⟨i,hi⟩:=ycn hfm
      have hg':=hget i f (by simpa using hi)
      have hlt:i<xs.length:=by
       rw [hxl]
       have:=(yac.1 hi).1
       simpa using this
      rw [yal hlt] at hg'
      exact ⟨_,hg'⟩) (by rw [hlen,hc];omega)
     exact ⟨x,by simpa using e1,e2,by rw [hlen,hc]⟩
   | @tm _ fs f1 f2 f3 ht hc hfs ho1 hc1 h1 h2 h3 =>
     have self:TyOk P t .tm:=.tm ht hc hfs ho1 hc1 h1 h2 h3
     obtain ⟨xs,n,hn,-,hlen,hxl,hget⟩:=DataW.trod_struct ht h
     cases hn
     have hf:FldOk P fs.toList 0 (.pair .bool (.pair .str (.pair (.sl .tm) .unit))):=by
      rw [hfs]
      exact .cons ho1.1 hc1.1 (.bool h1) (.cons ho1.2.1 hc1.2.1 (.str h2) (.cons ho1.2.2 hc1.2.2 (.sl h3 hc (by decide) self) .nil))
     obtain ⟨x,e1,e2⟩:=flds_rel ih hf (fun f hfm=>by
      obtain ⟨i,hi⟩:=ycn hfm
      have hg':=hget i f (by simpa using hi)
      have hlt:i<xs.length:=by
       rw [hxl]
       have:=(yac.1 hi).1
       simpa using this
      rw [yal hlt] at hg'
      exact ⟨_,hg'⟩) (by rw [hlen,hc];rfl)
     obtain ⟨v,s,l,u⟩:=x
     refine ⟨Tm.mk v s l,?_,⟨e2.2.1,e2.2.2.1.1,zgs l e2.2.2.1.2⟩,by rw [hlen,hc];rfl⟩
     have he:Ty.enc .tm (Tm.mk v s l)=Ty.enc (.pair .bool (.pair .str (.pair (.sl .tm) .unit))) (v,s,l,u):=by
      exact Tm.cells_mk v s l
     rw [he]
     simpa using e1
   | @fo _ u fs f1 f2 f3 f4 ht hc hfs ho1 hc1 h1 h2 h3 h4 hcu hu =>
     have self:TyOk P t .fo:=.fo ht hc hfs ho1 hc1 h1 h2 h3 h4 hcu hu
     obtain ⟨xs,n,hn,-,hlen,hxl,hget⟩:=DataW.trod_struct ht h
     cases hn
     have hf:FldOk P fs.toList 0 (.pair (.int .u8) (.pair .str (.pair (.sl .tm) (.pair (.sl .fo) .unit)))):=by
      rw [hfs]
      exact .cons ho1.1 hc1.1 (.int h1) (.cons ho1.2.1 hc1.2.1 (.str h2) (.cons ho1.2.2.1 hc1.2.2.1 (.sl h3 hcu (by decide) hu) (.cons ho1.2.2.2 hc1.2.2.2 (.sl h4 hc (by decide) self) .nil)))
     obtain ⟨x,e1,e2⟩:=flds_rel ih hf (fun f hfm=>by
      obtain ⟨i,hi⟩:=ycn hfm
      have hg':=hget i f (by simpa using hi)
      have hlt:i<xs.length:=by
       rw [hxl]
       have:=(yac.1 hi).1
       simpa using this
      rw [yal hlt] at hg'
      exact ⟨_,hg'⟩) (by rw [hlen,hc];rfl)
     obtain ⟨op,s,l,m,w⟩:=x
     change Int at op
     have hop:0≤op∧op≤255:=by simpa [Lit.wf,IntKind.min,IntKind.max,IntKind.signed,IntKind.bits] using (show (Lit.int .u8 op).wf=true from e2.1)
     refine ⟨Fo.mk op.toNat s l m,?_,⟨by omega,e2.2.1,e2.2.2.1.1,zgs l e2.2.2.1.2,e2.2.2.2.1.1,Fo.goodL_of m e2.2.2.2.1.2⟩,by rw [hlen,hc];rfl⟩
     have he:Ty.enc .fo (Fo.mk op.toNat s l m)=Ty.enc (.pair (.int .u8) (.pair .str (.pair (.sl .tm) (.pair (.sl .fo) .unit)))) (op,s,l,m,w):=by
      refine (Fo.cells_mk op.toNat s l m).trans ?_
      rw [show ((op.toNat:Nat):Int)=op by omega]
      rfl
     rw [he]
     simpa using e1
   | @arr _ e n τ ht hc he hn =>
     obtain ⟨xs,m,hm,-,hlen,hxl,hget⟩:=DataW.trod_array ht h
     cases hm
     obtain ⟨x,e1,e2⟩:=rep_rel he ih n 0 (fun i hi=>by
      have hg':=hget i hi
      rw [yal (by omega),hc] at hg'
      exact ⟨_,by simpa using hg'⟩) (by rw [hlen,hn];omega)
     exact ⟨x,by simpa using e1,e2,by rw [hlen,hn,repTy_sz]⟩
end
end
section
open Go.ChangeShapes Go.WideShapes
def tyFlds (ty:TypeId→Option Ty) (szOf:TypeId→Option Nat):List (TypeId×Nat×Nat×Bool)→Nat→Option Ty
 | [],_=>some .unit
 | (ft,o,sz,_)::fs,off=>match Nat.beq o off with
   | true=>match ty ft with
     | some a=>match Nat.beq sz a.sz with
       | true=>match tyFlds ty szOf fs (off+a.sz) with
         | some b=>some (.pair a b)
         | none=>none
       | false=>none
     | none=>none
   | false=>none
def szT (T:TypeId→Option TI) (t:TypeId):Option Nat:=match T t with
 | some ti=>some ti.sz
 | none=>none
def kindT (T:TypeId→Option TI) (t:TypeId):Option TK:=match T t with
 | some ti=>some ti.kind
 | none=>none
def isSlT (T:TypeId→Option TI) (t e:TypeId):Bool:=match kindT T t with
 | some (.sl e')=>Nat.beq e' e
 | _=>false
def isBlT (T:TypeId→Option TI) (t:TypeId):Bool:=match kindT T t with
 | some .bool=>true
 | _=>false
def isStT (T:TypeId→Option TI) (t:TypeId):Bool:=match kindT T t with
 | some .str=>true
 | _=>false
def isU8T (T:TypeId→Option TI) (t:TypeId):Bool:=match kindT T t with
 | some (.int .u8)=>true
 | _=>false
def offOk:List (TypeId×Nat×Nat×Bool)→Nat→Bool
 | [],_=>true
 | (_,o,sz,_)::fs,n=>(Nat.beq o n&&Nat.beq sz 1)&&offOk fs (n+1)
def tmT (T:TypeId→Option TI) (t:TypeId):Bool:=match kindT T t with
 | some (.st [(a,x1),(b,x2),(c,x3)])=>match szT T t with
   | some 3=>offOk [(a,x1),(b,x2),(c,x3)] 0&&(isBlT T a&&(isStT T b&&isSlT T c t))
   | _=>false
 | _=>false
def foT (T:TypeId→Option TI) (t:TypeId):Bool:=match kindT T t with
 | some (.st [(a,x1),(b,x2),(c,x3),(d,x4)])=>match szT T t with
   | some 4=>match kindT T c with
     | some (.sl u)=>tmT T u&&(offOk [(a,x1),(b,x2),(c,x3),(d,x4)] 0&&(isU8T T a&&(isStT T b&&isSlT T d t)))
     | _=>false
   | _=>false
 | _=>false
def tyOf (T:TypeId→Option TI):Nat→TypeId→Option Ty
 | 0,_=>none
 | n+1,t=>match tmT T t with
   | true=>some .tm
   | false=>match foT T t with
   | true=>some .fo
   | false=>match T t with
   | some ti=>match ti.kind with
     | .int k=>some (.int k)
     | .bool=>some .bool
     | .str=>some .str
     | .sl e=>match tyOf T n e with
       | some τ=>match szT T e with
         | some s=>match Nat.beq s τ.sz with
           | true=>match τ.sz with
             | 0=>none
             | _+1=>some (.sl τ)
           | false=>none
         | none=>none
       | none=>none
     | .st fs=>match tyFlds (tyOf T n) (szT T) fs 0 with
       | some τ=>match Nat.beq ti.sz τ.sz with
         | true=>some τ
         | false=>none
       | none=>none
     | .arr m e=>match tyOf T n e with
       | some τ=>match szT T e with
         | some s=>match Nat.beq s τ.sz with
           | true=>match Nat.beq ti.sz (m * τ.sz) with
             | true=>some (repTy m τ)
             | false=>none
           | false=>none
         | none=>none
       | none=>none
     | _=>none
   | none=>none
section
variable {P:Program} {T:TypeId→Option TI}
theorem cellsOf_of {t:TypeId} {i:TypeInfo} (h:P.info? t=some i):P.cellsOf t=i.size:=by simp [Program.cellsOf,h]
theorem zgv (hT:TOk P T) {t:TypeId} {s:Nat} (h:szT T t=some s):P.cellsOf t=s:=by
 unfold szT at h
 split at h
 ·rename_i ti ht
  simp only [yad] at h;subst h
  obtain ⟨d,i,-,h2,-,h4,-⟩:=zaj (hT _ _ ht)
  rw [cellsOf_of h2,h4]
 ·cases h
theorem zdm (hT:TOk P T) {t:TypeId} {k:TK} (h:kindT T t=some k):∃ d,P.underlying t=some d∧tkOf P d=k:=by
 unfold kindT at h
 split at h
 ·rename_i ti ht
  simp only [yad] at h;subst h
  obtain ⟨d,i,h1,-,h3,-⟩:=zaj (hT _ _ ht)
  exact ⟨d,h1,h3.symm⟩
 ·cases h
theorem isSlT_ok (hT:TOk P T) {t e:TypeId} (h:isSlT T t e=true):P.underlying t=some (.slice e):=by
 unfold isSlT at h
 split at h
 ·rename_i e' hk
  obtain ⟨d,h1,h2⟩:=zdm hT hk
  obtain rfl:=yap h
  have hd:d=.slice e':=by cases d <;> simp [tkOf] at h2;rw [h2]
  exact hd▸h1
 ·cases h
theorem isBlT_ok (hT:TOk P T) {t:TypeId} (h:isBlT T t=true):P.underlying t=some .bool:=by
 unfold isBlT at h
 split at h
 ·rename_i hk
  obtain ⟨d,h1,h2⟩:=zdm hT hk
  have hd:d=.bool:=by cases d <;> simp [tkOf] at h2;rfl
  exact hd▸h1
 ·cases h
theorem isStT_ok (hT:TOk P T) {t:TypeId} (h:isStT T t=true):P.underlying t=some .string:=by
 unfold isStT at h
 split at h
 ·rename_i hk
  obtain ⟨d,h1,h2⟩:=zdm hT hk
  have hd:d=.string:=by cases d <;> simp [tkOf] at h2;rfl
  exact hd▸h1
 ·cases h
theorem isU8T_ok (hT:TOk P T) {t:TypeId} (h:isU8T T t=true):P.underlying t=some (.int .u8):=by
 unfold isU8T at h
 split at h
 ·rename_i hk
  obtain ⟨d,h1,h2⟩:=zdm hT hk
  have hd:d=.int .u8:=by cases d <;> simp [tkOf] at h2;rw [h2]
  exact hd▸h1
 ·cases h
theorem zd8 (t:TypeId):P.cellsOf t=isz P t:=by
 unfold Program.cellsOf isz
 cases P.info? t <;> rfl
theorem tmT_ok (hT:TOk P T) {t:TypeId} (h:tmT T t=true):TyOk P t .tm∧P.cellsOf t=3:=by
 unfold tmT at h
 split at h
 ·rename_i a x1 b x2 c x3 hk
  split at h
  ·rename_i hs
   have hc:=zgv hT hs
   obtain ⟨d,h1,h2⟩:=zdm hT hk
   obtain ⟨fields,rfl,hfs⟩:=zcb h2.symm
   simp only [yak,offOk] at h
   obtain ⟨⟨⟨o1,s1⟩,⟨o2,s2⟩,⟨o3,s3⟩,-⟩,g1,g2,g3⟩:=h
   match hl:fields.toList,hfs with
   | [f1,f2,f3],hfs =>
     simp only [ybx,yde,List.cons.injEq,yb7,and_true] at hfs
     obtain ⟨⟨rfl,rfl,rfl⟩,⟨rfl,rfl,rfl⟩,⟨rfl,rfl,rfl⟩⟩:=hfs
     exact ⟨.tm h1 hc hl ⟨yap o1,yap o2,yap o3⟩ ⟨by rw [zd8];exact yap s1,by rw [zd8];exact yap s2,by rw [zd8];exact yap s3⟩ (isBlT_ok hT g1) (isStT_ok hT g2) (isSlT_ok hT g3),hc⟩
   | [],hfs=>simp at hfs
   | [_],hfs=>simp at hfs
   | [_,_],hfs=>simp at hfs
   | _::_::_::_::_,hfs=>simp at hfs
  ·cases h
 ·cases h
theorem foT_ok (hT:TOk P T) {t:TypeId} (h:foT T t=true):TyOk P t .fo:=by
 unfold foT at h
 split at h
 ·rename_i a x1 b x2 c x3 d x4 hk
  split at h
  ·rename_i hs
   split at h
   ·rename_i u hu
    have hc:=zgv hT hs
    obtain ⟨e,h1,h2⟩:=zdm hT hk
    obtain ⟨fields,rfl,hfs⟩:=zcb h2.symm
    obtain ⟨e2,h3,h4⟩:=zdm hT hu
    have hd:e2=.slice u:=by cases e2 <;> simp [tkOf] at h4;rw [h4]
    subst hd
    simp only [yak,offOk] at h
    obtain ⟨gu,⟨⟨o1,s1⟩,⟨o2,s2⟩,⟨o3,s3⟩,⟨o4,s4⟩,-⟩,g1,g2,g3⟩:=h
    obtain ⟨gu1,gu2⟩:=tmT_ok hT gu
    match hl:fields.toList,hfs with
    | [f1,f2,f3,f4],hfs =>
      simp only [ybx,yde,List.cons.injEq,yb7,and_true] at hfs
      obtain ⟨⟨rfl,rfl,rfl⟩,⟨rfl,rfl,rfl⟩,⟨rfl,rfl,rfl⟩,⟨rfl,rfl,rfl⟩⟩:=hfs
      exact .fo h1 hc hl ⟨yap o1,yap o2,yap o3,yap o4⟩ ⟨by rw [zd8];exact yap s1,by rw [zd8];exact yap s2,by rw [zd8];exact yap s3,by rw [zd8];exact yap s4⟩ (isU8T_ok hT g1) (isStT_ok hT g2) h3 (isSlT_ok hT g3) gu2 gu1
    | [],hfs=>simp at hfs
    | [_],hfs=>simp at hfs
    | [_,_],hfs=>simp at hfs
    | [_,_,_],hfs=>simp at hfs
    | _::_::_::_::_::_,hfs=>simp at hfs
   ·cases h
  ·cases h
 ·cases h
theorem tyFlds_ok {ty:TypeId→Option Ty} {szOf:TypeId→Option Nat} (hty:∀ t τ,ty t=some τ→TyOk P t τ):∀ {fs:List Field} {off:Nat} {τ:Ty},tyFlds ty szOf (fs.map fun f=>(f.type,f.offset,isz P f.type,f.name == "_")) off=some τ→(∀ f∈fs,P.cellsOf f.type=isz P f.type)→FldOk P fs off τ
 | [],off,τ,h,_=>by simp only [yde,tyFlds,yad] at h;subst h;exact .nil
 | f::fs,off,τ,h,hc=>by
   simp only [ybx,tyFlds] at h
   split at h
   ·rename_i ho
    split at h
    ·rename_i a ha
     split at h
     ·rename_i hs
      split at h
      ·rename_i b hb
       simp only [yad] at h;subst h
       exact .cons (yap ho) (by rw [hc f (by simp)];exact yap hs) (hty _ _ ha) (tyFlds_ok hty hb fun g hg=>hc g (by simp [hg]))
      ·cases h
     ·cases h
    ·cases h
   ·cases h
theorem tyOf_ok (hT:TOk P T):∀ (n:Nat) (t:TypeId) (τ:Ty),tyOf T n t=some τ→TyOk P t τ
 | 0,_,_,h=>by cases h
 | n+1,t,τ,h=>by
   simp only [tyOf] at h
   cases htm:tmT T t with
   | true =>
     simp only [htm,yad] at h;subst h
     exact (tmT_ok hT htm).1
   | false =>
   cases hfo:foT T t with
   | true =>
     simp only [htm,hfo,yad] at h;subst h
     exact foT_ok hT hfo
   | false =>
   simp only [htm,hfo] at h
   split at h
   case h_2=>cases h
   rename_i ti ht
   obtain ⟨d,i,e1,e2,e3,e4,-⟩:=zaj (hT _ _ ht)
   split at h
   ·rename_i k hk
    simp only [yad] at h;subst h
    rw [hk] at e3
    have hd:d=.int k:=by cases d <;> simp [tkOf] at e3;rw [e3]
    subst hd;exact .int e1
   ·rename_i hk
    simp only [yad] at h;subst h
    rw [hk] at e3
    have hd:d=.bool:=by cases d <;> simp [tkOf] at e3;rfl
    subst hd;exact .bool e1
   ·rename_i hk
    simp only [yad] at h;subst h
    rw [hk] at e3
    have hd:d=.string:=by cases d <;> simp [tkOf] at e3;rfl
    subst hd;exact .str e1
   ·rename_i e hk
    rw [hk] at e3
    have hd:d=.slice e:=by cases d <;> simp [tkOf] at e3;rw [e3]
    subst hd
    split at h
    ·rename_i τ' hτ
     split at h
     ·rename_i s hs
      split at h
      ·rename_i hb
       split at h
       ·cases h
       ·rename_i q hq
        simp only [yad] at h;subst h
        exact .sl e1 (by rw [zgv hT hs];exact yap hb) (by omega) (tyOf_ok hT n e τ' hτ)
      ·cases h
     ·cases h
    ·cases h
   ·rename_i fs hk
    rw [hk] at e3
    obtain ⟨fields,rfl,hfs⟩:=zcb e3
    split at h
    ·rename_i τ' hτ
     split at h
     ·rename_i hb
      simp only [yad] at h;subst h
      rw [hfs] at hτ
      refine .st e1 (by rw [cellsOf_of e2,← e4];exact yap hb) (tyFlds_ok (tyOf_ok hT n) hτ fun f _=>?_)
      unfold Program.cellsOf isz
      cases P.info? f.type <;> rfl
     ·cases h
    ·cases h
   ·rename_i m e hk
    rw [hk] at e3
    have hd:d=.array m e:=by cases d <;> simp [tkOf] at e3;rw [e3.1,e3.2]
    subst hd
    split at h
    ·rename_i τ' hτ
     split at h
     ·rename_i s hs
      split at h
      ·rename_i hb
       split at h
       ·rename_i hz
        simp only [yad] at h;subst h
        exact .arr e1 (by rw [zgv hT hs];exact yap hb) (tyOf_ok hT n e τ' hτ) (by rw [cellsOf_of e2,← e4];exact yap hz)
       ·cases h
      ·cases h
     ·cases h
    ·cases h
   ·cases h
variable {H:Type} {enc:TypeId×Value→H} {W:World} {sp:Nat→Bool} {r:Reach} {b0:Nat}
theorem arg_agg {g:G} (hg:∀ b o,¬ g.own b o) {t:TypeId} {τ:Ty} {v:Value} {d:DataW H} {ps:List MemPlace} (hd:(∃ fs,P.underlying t=some (.struct fs))∨∃ n e,P.underlying t=some (.array n e)) (ht:TyOk P t τ) (hval:Value.okWide P W r b0 t v) (h:DataW.Trod enc P W 0 sp true t v d ps) :
  ∃ x:τ.I,VRel g W (.agg (τ.enc x)) v∧τ.good x:=by
 obtain ⟨fuel,hf⟩:=h
 obtain ⟨x,h1,h2,-⟩:=trod_ty hg fuel ht hf
 have:∃ cs,v=.agg cs:=by
  unfold Value.okWide at hval
  rcases hd with ⟨fs,hd⟩|⟨n,e,hd⟩
  ·rw [hd] at hval;obtain ⟨cs,h,-⟩:=hval;exact ⟨cs,h⟩
  ·rw [hd] at hval;obtain ⟨cs,h,-⟩:=hval;exact ⟨cs,h⟩
 obtain ⟨cs,rfl⟩:=this
 refine ⟨x,?_,h2⟩
 simp only [VRel]
 exact ⟨cs,rfl,h1⟩
theorem arg_one {g:G} (hg:∀ b o,¬ g.own b o) {t:TypeId} {τ:Ty} {v:Value} {d:DataW H} {ps:List MemPlace} (hd:(∃ k,P.underlying t=some (.int k))∨P.underlying t=some .bool∨P.underlying t=some .string∨∃ e,P.underlying t=some (.slice e)) (ht:TyOk P t τ) (hval:Value.okWide P W r b0 t v) (h:DataW.Trod enc P W 0 sp true t v d ps) :
  ∃ x:τ.I,LRel g W (τ.enc x) [v]∧τ.good x:=by
 obtain ⟨fuel,hf⟩:=h
 obtain ⟨x,h1,h2,-⟩:=trod_ty hg fuel ht hf
 have:v.cells.toList=[v]:=by
  unfold Value.okWide at hval
  rcases hd with ⟨k,hd⟩|hd|hd|⟨e,hd⟩ <;> rw [hd] at hval <;> cases v <;> simp_all [Value.cells,Cell.okWide,Cell.ok]
 rw [this] at h1
 exact ⟨x,h1,h2⟩
theorem post_of_ext {f:Func} {s:ChangeSpec} {again:Bool} {W W':World} {args:Array Value} {v:Value} {ds gs:List (DataW H)} {before:List MemPlace} {g g':G} {tb:TypeId}
  (hW:DataW.Whole enc P f.params.toList s.vars false W args.toList ds gs before) (hx:Ext g W g' W') (hg:∀ b o,¬ g.own b o)
  (hl:laidOutB P=true) (hr:f.params.all (fun t=>P.readableRec t&&decide (t<P.types.size))=true)
  (hres:f.resultTypes=#[tb]) (htb:P.underlying tb=some .bool) (hv:v=.bool true) (hvars:s.vars=[]) (hfn:s.fn H (ds++gs)={ results:=[.lit (.bool true)],args:=ds }) :
  s.post enc P f false true false again W args v W':=by
 subst hv
 have hb:∀ p∈before,p.block<W.heap.size:=fun p hp=>hW.lt p hp
 have hheap:∀ b,b<W.heap.size→W'.heap[b]? = W.heap[b]? := fun b hb=>hx.same b hb fun o=>hg b o
 obtain ⟨p,q,hA,hV,hpq,hfz,hnd⟩:=id hW
 rw [hvars] at hV
 obtain ⟨rfl,rfl⟩:gs=[]∧q=[]:=by
  cases gs with
  | nil=>exact ⟨rfl,hV⟩
  | cons g gs=>exact hV.elim
 rw [yat] at hpq
 subst hpq
 have hsame:∀ pl∈before,W.sameAt W' pl:=by
  intro pl hpl
  have h1:=hheap pl.block (hb pl hpl)
  cases pl with
  | cell b o =>
    simp only [MemPlace.block] at h1
    simp [World.sameAt,World.cell?,h1]
  | map b =>
    simp only [MemPlace.block] at h1
    simp [World.sameAt,h1]
 have hargs:∀ sp:Nat→Bool,(∀ p∈before,sp p.block=true)→DataW.TrodAll enc P W' 0 sp true f.params.toList args.toList ds before:=by
  intro sp hsp
  have key:∀ (ts:List TypeId) (vs:List Value) (ds:List (DataW H)) (ps:List MemPlace),(∀ t∈ts,P.readableRec t=true∧t<P.types.size)→(∀ p∈ps,W.sameAt W' p)→(∀ p∈ps,sp p.block=true)→DataW.TrodAll enc P W 0 (fun _=>true) true ts vs ds ps→DataW.TrodAll enc P W' 0 sp true ts vs ds ps:=by
   intro ts
   induction ts with
   | nil=>intro vs ds ps _ _ _ h;cases vs <;> cases ds <;> exact h
   | cons t ts ih =>
     intro vs ds ps h1 h2 h3 h
     cases vs with
     | nil=>exact h.elim
     | cons v vs =>
     cases ds with
     | nil=>exact h.elim
     | cons d ds =>
     obtain ⟨p1,q1,e1,e2,rfl⟩:=h
     obtain ⟨r1,r2⟩:=h1 t (by simp)
     exact ⟨p1,q1,Go.WideElems.Trod_stays hl r1 r2 e1 (fun p hp=>h2 p (by simp [hp])) (fun p hp=>h3 p (by simp [hp])),ih vs ds q1 (fun t ht=>h1 t (by simp [ht])) (fun p hp=>h2 p (by simp [hp])) (fun p hp=>h3 p (by simp [hp])) e2,rfl⟩
  refine key _ _ _ _ (fun t ht=>?_) hsame hsp hA
  rw [Array.all_eq_true] at hr
  obtain ⟨i,hi,rfl⟩:=ydd ht
  have:=hr i (by simpa using hi)
  simpa using this
 have hresT:∀ (b:Nat) (sp:Nat→Bool) (hd:Bool),DataW.TrodAll enc P W' b sp hd f.resultTypes.toList ((Value.bool true).resultList f.resultTypes.size) (s.fn H (ds++[])).results []:=by
  intro b sp hd
  rw [hfn,hres]
  exact ⟨[],[],Go.RowKit.shut_bool htb true,rfl,rfl⟩
 have hold:∀ p∈before,(fun b=>decide (b<W.heap.size)) p.block=true:=fun p hp=>by simpa using hb p hp
 have hvarsT:∀ sp:Nat→Bool,DataW.TrodVars enc P W' sp s.vars (s.fn H (ds++[])).vars []:=by
  intro sp
  rw [hvars,hfn]
  rfl
 have hargs':∀ sp:Nat→Bool,(∀ p∈before,sp p.block=true)→DataW.TrodAll enc P W' 0 sp true f.params.toList args.toList (s.fn H (ds++[])).args before:=by
  intro sp hsp
  rw [hfn]
  exact hargs sp hsp
 have hk:W.keptBut W' (·∈before):=by
  refine ⟨hx.os,hx.output,fun i hi=>?_⟩
  rw [hheap i hi]
  cases hh:W.heap[i]? with
  | none=>trivial
  | some o=>cases o <;> simp
 refine ⟨ds,[],before,[],before,[],hW,hresT _ _ _,hargs' _ hold,hvarsT _,World.keptBut_mono (fun p hp=>⟨hp,?_⟩) hk,fun _=>?_⟩
 ·simp [hp]
 ·refine ⟨Go.RowKit.ok_one hres rfl (Go.RowKit.okWide_bool_mk htb true),_,_,([]++before)++[],⟨[]++before,[],trodAll_append (hargs' _ (fun _ _=>rfl)) (hresT _ _ _),hvarsT _,rfl,?_,?_⟩,?_⟩
  ·intro b off hp
   have hp':MemPlace.cell b off∈before:=by simpa using hp
   have:=hheap b (hb _ hp')
   unfold World.frozen?
   simp only [this]
   exact hfz b off hp'
  ·intro ha;cases ha
  ·intro p hp _
   simpa using hp
theorem law_calls [Glob] {f:Func} {F:FuncId} {s:ChangeSpec} {again:Bool} {W:World} {args:Array Value} {ds gs:List (DataW H)} {before:List MemPlace} {as:List AV} {tb:TypeId}
  (hW:DataW.Whole enc P f.params.toList s.vars false W args.toList ds gs before) (hd:VDet P F as [] (.bool true)) (has:LRel G.none W as args.toList) (hgl:∀ p∈Glob.gl,MRel G.none W p.2 p.1 0)
  (hl:laidOutB P=true) (hr:f.params.all (fun t=>P.readableRec t&&decide (t<P.types.size))=true)
  (hres:f.resultTypes=#[tb]) (htb:P.underlying tb=some .bool) (hvars:s.vars=[]) (hfn:s.fn H (ds++gs)={ results:=[.lit (.bool true)],args:=ds }) :
  Calls P F args W fun e W'=>∃ v,e=.returned v∧s.post enc P f false true false again W args v W':=by
 refine (hd.2 G.none W args (hrel_none W hgl) has).mono ?_
 rintro e W' ⟨r,H',g',c,rfl,⟨-,rfl⟩,-,hv,hx⟩
 simp only [VRel] at hv
 subst hv
 exact ⟨_,rfl,post_of_ext hW hx (fun _ _ h=>h) hl hr hres htb rfl hvars hfn⟩
end
end
theorem LRel.head1 {g:G} {w:World} {a:AV} {v:Value} (h:LRel g w [a] [v]):VRel g w a v:=by
 simp only [LRel] at h
 obtain ⟨c,r,e,h1,h2⟩:=h
 cases e
 exact h1
theorem LRel.more {g:G} {w:World} {a:AV} {v:Value} {l:List AV} {vs:List Value} (h:VRel g w a v) (t:LRel g w l vs):LRel g w (a::l) (v::vs):=by
 simp only [LRel]
 exact ⟨v,vs,rfl,h,t⟩
theorem LRel.nil {g:G} {w:World}:LRel g w [] []:=by simp only [LRel]
end Go.Vsi
