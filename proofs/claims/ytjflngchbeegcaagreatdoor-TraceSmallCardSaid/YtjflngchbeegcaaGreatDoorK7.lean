/- A text of the proof: the parts B0, B1, B2, B3. -/
import Derived.RowKit
import Derived.RowKit3
import Derived.WideKeyArgs
import Derived.OpenShut
import Derived.Test.YtjflngchbeegcaaGreatDoorK6
set_option linter.unusedSimpArgs false
set_option linter.unusedVariables false
set_option maxHeartbeats 8000000
namespace Go.Vsi
section
open Go.ChangeShapes Go.WideShapes
inductive Tm where
 | mk (v:Bool) (nm:ByteArray) (args:List Tm)
inductive Fo where
 | mk (op:Nat) (nm:ByteArray) (args:List Tm) (sub:List Fo)
mutual
def Tm.cells:Tm→List AV
 | .mk v s l=>[.bool v,.str s,.sl none l.length (Tm.cellsL l)]
def Tm.cellsL:List Tm→List AV
 | []=>[]
 | x::l=>x.cells++Tm.cellsL l
end
mutual
def Fo.cells:Fo→List AV
 | .mk op s l m=>[.int .u8 op,.str s,.sl none l.length (Tm.cellsL l),.sl none m.length (Fo.cellsL m)]
def Fo.cellsL:List Fo→List AV
 | []=>[]
 | x::l=>x.cells++Fo.cellsL l
end
theorem zgj:∀ l:List Tm,Tm.cellsL l=l.flatMap Tm.cells
 | []=>rfl
 | x::l=>by rw [Tm.cellsL,zgj l,ya6]
theorem zi9:∀ l:List Fo,Fo.cellsL l=l.flatMap Fo.cells
 | []=>rfl
 | x::l=>by rw [Fo.cellsL,zi9 l,ya6]
theorem zay (v:Bool) (s:ByteArray) (l:List Tm):(Tm.mk v s l).cells=[.bool v,.str s,.sl none l.length (l.flatMap Tm.cells)]:=by
 rw [← zgj]
 unfold Tm.cells
 rfl
theorem zan (op:Nat) (s:ByteArray) (l:List Tm) (m:List Fo):(Fo.mk op s l m).cells=[.int .u8 op,.str s,.sl none l.length (l.flatMap Tm.cells),.sl none m.length (m.flatMap Fo.cells)]:=by
 rw [← zgj,← zi9]
 unfold Fo.cells
 rfl
mutual
def Tm.good:Tm→Prop
 | .mk _ s l=>s.size≤maxLen∧l.length≤maxLen∧Tm.goodL l
def Tm.goodL:List Tm→Prop
 | []=>True
 | x::l=>x.good∧Tm.goodL l
end
mutual
def Fo.good:Fo→Prop
 | .mk op s l m=>op≤255∧s.size≤maxLen∧l.length≤maxLen∧Tm.goodL l∧m.length≤maxLen∧Fo.goodL m
def Fo.goodL:List Fo→Prop
 | []=>True
 | x::l=>x.good∧Fo.goodL l
end
inductive Ty where
 | int (k:IntKind)
 | bool
 | str
 | sl (e:Ty)
 | unit
 | pair (a b:Ty)
 | tm
 | fo
def Ty.sz:Ty→Nat
 | .unit=>0
 | .pair a b=>a.sz+b.sz
 | .tm=>3
 | .fo=>4
 | _=>1
def repTy:Nat→Ty→Ty
 | 0,_=>.unit
 | n+1,τ=>.pair τ (repTy n τ)
section
variable {P:Program}
mutual
inductive TyOk (P:Program):TypeId→Ty→Prop where
 | int {t:TypeId} {k:IntKind}:P.underlying t=some (.int k)→TyOk P t (.int k)
 | bool {t:TypeId}:P.underlying t=some .bool→TyOk P t .bool
 | str {t:TypeId}:P.underlying t=some .string→TyOk P t .str
 | sl {t e:TypeId} {τ:Ty}:P.underlying t=some (.slice e)→P.cellsOf e=τ.sz→0<τ.sz→TyOk P e τ→TyOk P t (.sl τ)
 | st {t:TypeId} {fs:Array Field} {τ:Ty}:P.underlying t=some (.struct fs)→P.cellsOf t=τ.sz→FldOk P fs.toList 0 τ→TyOk P t τ
 | arr {t e:TypeId} {n:Nat} {τ:Ty}:P.underlying t=some (.array n e)→P.cellsOf e=τ.sz→TyOk P e τ→P.cellsOf t=n * τ.sz→TyOk P t (repTy n τ)
 | tm {t:TypeId} {fs:Array Field} {f1 f2 f3:Field}:P.underlying t=some (.struct fs)→P.cellsOf t=3→fs.toList=[f1,f2,f3]→(f1.offset=0∧f2.offset=1∧f3.offset=2)→(P.cellsOf f1.type=1∧P.cellsOf f2.type=1∧P.cellsOf f3.type=1)→P.underlying f1.type=some .bool→P.underlying f2.type=some .string→P.underlying f3.type=some (.slice t)→TyOk P t .tm
 | fo {t u:TypeId} {fs:Array Field} {f1 f2 f3 f4:Field}:P.underlying t=some (.struct fs)→P.cellsOf t=4→fs.toList=[f1,f2,f3,f4]→(f1.offset=0∧f2.offset=1∧f3.offset=2∧f4.offset=3)→(P.cellsOf f1.type=1∧P.cellsOf f2.type=1∧P.cellsOf f3.type=1∧P.cellsOf f4.type=1)→P.underlying f1.type=some (.int .u8)→P.underlying f2.type=some .string→P.underlying f3.type=some (.slice u)→P.underlying f4.type=some (.slice t)→P.cellsOf u=3→TyOk P u .tm→TyOk P t .fo
inductive FldOk (P:Program):List Field→Nat→Ty→Prop where
 | nil {off:Nat}:FldOk P [] off .unit
 | cons {f:Field} {fs:List Field} {off:Nat} {a b:Ty}:f.offset=off→P.cellsOf f.type=a.sz→TyOk P f.type a→FldOk P fs (off+a.sz) b→FldOk P (f::fs) off (.pair a b)
end
def G.none:G:={ n:=0,blk:=fun _=>0,tk:=fun _=>⟨0,0,0,.none⟩,own:=fun _ _=>False,pend:=fun _=>False }
theorem zy4 [Glob] (w:World) (hg:∀ p∈Glob.gl,MRel G.none w p.2 p.1 0):HRel G.none w (Hp.of []) :=
 ⟨rfl,rfl,fun i B h=>by simp [Hp.of,Hp.all] at h,fun b o h=>h.elim,fun i h=>h.elim,fun i j B C b h=>by simp [Hp.of,Hp.all] at h,hg⟩
variable {H:Type} {enc:TypeId×Value→H} {W:World} {sp:Nat→Bool}
end
end
section
open Go.ChangeShapes Go.WideShapes
def zof (ty:TypeId→Option Ty) (szOf:TypeId→Option Nat):List (TypeId×Nat×Nat×Bool)→Nat→Option Ty
 | [],_=>some .unit
 | (ft,o,sz,_)::fs,off=>match Nat.beq o off with
   | true=>match ty ft with
     | some a=>match Nat.beq sz a.sz with
       | true=>match zof ty szOf fs (off+a.sz) with
         | some b=>some (.pair a b)
         | none=>none
       | false=>none
     | none=>none
   | false=>none
def szT (T:TypeId→Option TI) (t:TypeId):Option Nat:=match T t with
 | some ti=>some ti.sz
 | none=>none
def kindT (T:TypeId→Option TI) (t:TypeId):Option TK:=match T t with
 | some ti=>some ti.kind
 | none=>none
def isSlT (T:TypeId→Option TI) (t e:TypeId):Bool:=match kindT T t with
 | some (.sl e')=>Nat.beq e' e
 | _=>false
def isBlT (T:TypeId→Option TI) (t:TypeId):Bool:=match kindT T t with
 | some .bool=>true
 | _=>false
def isStT (T:TypeId→Option TI) (t:TypeId):Bool:=match kindT T t with
 | some .str=>true
 | _=>false
def isU8T (T:TypeId→Option TI) (t:TypeId):Bool:=match kindT T t with
 | some (.int .u8)=>true
 | _=>false
def offOk:List (TypeId×Nat×Nat×Bool)→Nat→Bool
 | [],_=>true
 | (_,o,sz,_)::fs,n=>(Nat.beq o n&&Nat.beq sz 1)&&offOk fs (n+1)
def tmT (T:TypeId→Option TI) (t:TypeId):Bool:=match kindT T t with
 | some (.st [(a,x1),(b,x2),(c,x3)])=>match szT T t with
   | some 3=>offOk [(a,x1),(b,x2),(c,x3)] 0&&(isBlT T a&&(isStT T b&&isSlT T c t))
   | _=>false
 | _=>false
def foT (T:TypeId→Option TI) (t:TypeId):Bool:=match kindT T t with
 | some (.st [(a,x1),(b,x2),(c,x3),(d,x4)])=>match szT T t with
   | some 4=>match kindT T c with
     | some (.sl u)=>tmT T u&&(offOk [(a,x1),(b,x2),(c,x3),(d,x4)] 0&&(isU8T T a&&(isStT T b&&isSlT T d t)))
     | _=>false
   | _=>false
 | _=>false
def tyOf (T:TypeId→Option TI):Nat→TypeId→Option Ty
 | 0,_=>none
 | n+1,t=>match tmT T t with
   | true=>some .tm
   | false=>match foT T t with
   | true=>some .fo
   | false=>match T t with
   | some ti=>match ti.kind with
     | .int k=>some (.int k)
     | .bool=>some .bool
     | .str=>some .str
     | .sl e=>match tyOf T n e with
       | some τ=>match szT T e with
         | some s=>match Nat.beq s τ.sz with
           | true=>match τ.sz with
             | 0=>none
             | _+1=>some (.sl τ)
           | false=>none
         | none=>none
       | none=>none
     | .st fs=>match zof (tyOf T n) (szT T) fs 0 with
       | some τ=>match Nat.beq ti.sz τ.sz with
         | true=>some τ
         | false=>none
       | none=>none
     | .arr m e=>match tyOf T n e with
       | some τ=>match szT T e with
         | some s=>match Nat.beq s τ.sz with
           | true=>match Nat.beq ti.sz (m * τ.sz) with
             | true=>some (repTy m τ)
             | false=>none
           | false=>none
         | none=>none
       | none=>none
     | _=>none
   | none=>none
section
variable {P:Program} {T:TypeId→Option TI}
theorem zit {t:TypeId} {i:TypeInfo} (h:P.info? t=some i):P.cellsOf t=i.size:=by simp [Program.cellsOf,h]
theorem zhn (hT:TOk P T) {t:TypeId} {s:Nat} (h:szT T t=some s):P.cellsOf t=s:=by
 unfold szT at h
 split at h
 ·rename_i ti ht
  simp only [yad] at h;subst h
  obtain ⟨d,i,-,h2,-,h4,-⟩:=zae (hT _ _ ht)
  rw [zit h2,h4]
 ·cases h
theorem zdx (hT:TOk P T) {t:TypeId} {k:TK} (h:kindT T t=some k):∃ d,P.underlying t=some d∧tkOf P d=k:=by
 unfold kindT at h
 split at h
 ·rename_i ti ht
  simp only [yad] at h;subst h
  obtain ⟨d,i,h1,-,h3,-⟩:=zae (hT _ _ ht)
  exact ⟨d,h1,h3.symm⟩
 ·cases h
theorem zty (hT:TOk P T) {t e:TypeId} (h:isSlT T t e=true):P.underlying t=some (.slice e):=by
 unfold isSlT at h
 split at h
 ·rename_i e' hk
  obtain ⟨d,h1,h2⟩:=zdx hT hk
  obtain rfl:=yap h
  have hd:d=.slice e':=by cases d <;> simp [tkOf] at h2;rw [h2]
  exact hd▸h1
 ·cases h
theorem isBlT_ok (hT:TOk P T) {t:TypeId} (h:isBlT T t=true):P.underlying t=some .bool:=by
 unfold isBlT at h
 split at h
 ·rename_i hk
  obtain ⟨d,h1,h2⟩:=zdx hT hk
  have hd:d=.bool:=by cases d <;> simp [tkOf] at h2;rfl
  exact hd▸h1
 ·cases h
theorem ztx (hT:TOk P T) {t:TypeId} (h:isStT T t=true):P.underlying t=some .string:=by
 unfold isStT at h
 split at h
 ·rename_i hk
  obtain ⟨d,h1,h2⟩:=zdx hT hk
  have hd:d=.string:=by cases d <;> simp [tkOf] at h2;rfl
  exact hd▸h1
 ·cases h
theorem isU8T_ok (hT:TOk P T) {t:TypeId} (h:isU8T T t=true):P.underlying t=some (.int .u8):=by
 unfold isU8T at h
 split at h
 ·rename_i hk
  obtain ⟨d,h1,h2⟩:=zdx hT hk
  have hd:d=.int .u8:=by cases d <;> simp [tkOf] at h2;rw [h2]
  exact hd▸h1
 ·cases h
theorem zel (t:TypeId):P.cellsOf t=isz P t:=by
 unfold Program.cellsOf isz
 cases P.info? t <;> rfl
theorem tmT_ok (hT:TOk P T) {t:TypeId} (h:tmT T t=true):TyOk P t .tm∧P.cellsOf t=3:=by
 unfold tmT at h
 split at h
 ·rename_i a x1 b x2 c x3 hk
  split at h
  ·rename_i hs
   have hc:=zhn hT hs
   obtain ⟨d,h1,h2⟩:=zdx hT hk
   obtain ⟨fields,rfl,hfs⟩:=zcc h2.symm
   simp only [yak,offOk] at h
   obtain ⟨⟨⟨o1,s1⟩,⟨o2,s2⟩,⟨o3,s3⟩,-⟩,g1,g2,g3⟩:=h
   match hl:fields.toList,hfs with
   | [f1,f2,f3],hfs =>
     simp only [yb1,List.map_nil,List.cons.injEq,ycb,and_true] at hfs
     obtain ⟨⟨rfl,rfl,rfl⟩,⟨rfl,rfl,rfl⟩,⟨rfl,rfl,rfl⟩⟩:=hfs
     exact ⟨.tm h1 hc hl ⟨yap o1,yap o2,yap o3⟩ ⟨by rw [zel];exact yap s1,by rw [zel];exact yap s2,by rw [zel];exact yap s3⟩ (isBlT_ok hT g1) (ztx hT g2) (zty hT g3),hc⟩
   | [],hfs=>simp at hfs
   | [_],hfs=>simp at hfs
   | [_,_],hfs=>simp at hfs
   | _::_::_::_::_,hfs=>simp at hfs
  ·cases h
 ·cases h
theorem foT_ok (hT:TOk P T) {t:TypeId} (h:foT T t=true):TyOk P t .fo:=by
 unfold foT at h
 split at h
 ·rename_i a x1 b x2 c x3 d x4 hk
  split at h
  ·rename_i hs
   split at h
   ·rename_i u hu
    have hc:=zhn hT hs
    obtain ⟨e,h1,h2⟩:=zdx hT hk
    obtain ⟨fields,rfl,hfs⟩:=zcc h2.symm
    obtain ⟨e2,h3,h4⟩:=zdx hT hu
    have hd:e2=.slice u:=by cases e2 <;> simp [tkOf] at h4;rw [h4]
    subst hd
    simp only [yak,offOk] at h
    obtain ⟨gu,⟨⟨o1,s1⟩,⟨o2,s2⟩,⟨o3,s3⟩,⟨o4,s4⟩,-⟩,g1,g2,g3⟩:=h
    obtain ⟨gu1,gu2⟩:=tmT_ok hT gu
    match hl:fields.toList,hfs with
    | [f1,f2,f3,f4],hfs =>
      simp only [yb1,List.map_nil,List.cons.injEq,ycb,and_true] at hfs
      obtain ⟨⟨rfl,rfl,rfl⟩,⟨rfl,rfl,rfl⟩,⟨rfl,rfl,rfl⟩,⟨rfl,rfl,rfl⟩⟩:=hfs
      exact .fo h1 hc hl ⟨yap o1,yap o2,yap o3,yap o4⟩ ⟨by rw [zel];exact yap s1,by rw [zel];exact yap s2,by rw [zel];exact yap s3,by rw [zel];exact yap s4⟩ (isU8T_ok hT g1) (ztx hT g2) h3 (zty hT g3) gu2 gu1
    | [],hfs=>simp at hfs
    | [_],hfs=>simp at hfs
    | [_,_],hfs=>simp at hfs
    | [_,_,_],hfs=>simp at hfs
    | _::_::_::_::_::_,hfs=>simp at hfs
   ·cases h
  ·cases h
 ·cases h
theorem zoe {ty:TypeId→Option Ty} {szOf:TypeId→Option Nat} (hty:∀ t τ,ty t=some τ→TyOk P t τ):∀ {fs:List Field} {off:Nat} {τ:Ty},zof ty szOf (fs.map fun f=>(f.type,f.offset,isz P f.type,f.name == "_")) off=some τ→(∀ f∈fs,P.cellsOf f.type=isz P f.type)→FldOk P fs off τ
 | [],off,τ,h,_=>by simp only [List.map_nil,zof,yad] at h;subst h;exact .nil
 | f::fs,off,τ,h,hc=>by
   simp only [yb1,zof] at h
   split at h
   ·rename_i ho
    split at h
    ·rename_i a ha
     split at h
     ·rename_i hs
      split at h
      ·rename_i b hb
       simp only [yad] at h;subst h
       exact .cons (yap ho) (by rw [hc f (by simp)];exact yap hs) (hty _ _ ha) (zoe hty hb fun g hg=>hc g (by simp [hg]))
      ·cases h
     ·cases h
    ·cases h
   ·cases h
theorem zmn (hT:TOk P T):∀ (n:Nat) (t:TypeId) (τ:Ty),tyOf T n t=some τ→TyOk P t τ
 | 0,_,_,h=>by cases h
 | n+1,t,τ,h=>by
   simp only [tyOf] at h
   cases htm:tmT T t with
   | true =>
     simp only [htm,yad] at h;subst h
     exact (tmT_ok hT htm).1
   | false =>
   cases hfo:foT T t with
   | true =>
     simp only [htm,hfo,yad] at h;subst h
     exact foT_ok hT hfo
   | false =>
   simp only [htm,hfo] at h
   split at h
   case h_2=>cases h
   rename_i ti ht
   obtain ⟨d,i,e1,e2,e3,e4,-⟩:=zae (hT _ _ ht)
   split at h
   ·rename_i k hk
    simp only [yad] at h;subst h
    rw [hk] at e3
    have hd:d=.int k:=by cases d <;> simp [tkOf] at e3;rw [e3]
    subst hd;exact .int e1
   ·rename_i hk
    simp only [yad] at h;subst h
    rw [hk] at e3
    have hd:d=.bool:=by cases d <;> simp [tkOf] at e3;rfl
    subst hd;exact .bool e1
   ·rename_i hk
    simp only [yad] at h;subst h
    rw [hk] at e3
    have hd:d=.string:=by cases d <;> simp [tkOf] at e3;rfl
    subst hd;exact .str e1
   ·rename_i e hk
    rw [hk] at e3
    have hd:d=.slice e:=by cases d <;> simp [tkOf] at e3;rw [e3]
    subst hd
    split at h
    ·rename_i τ' hτ
     split at h
     ·rename_i s hs
      split at h
      ·rename_i hb
       split at h
       ·cases h
       ·rename_i q hq
        simp only [yad] at h;subst h
        exact .sl e1 (by rw [zhn hT hs];exact yap hb) (by omega) (zmn hT n e τ' hτ)
      ·cases h
     ·cases h
    ·cases h
   ·rename_i fs hk
    rw [hk] at e3
    obtain ⟨fields,rfl,hfs⟩:=zcc e3
    split at h
    ·rename_i τ' hτ
     split at h
     ·rename_i hb
      simp only [yad] at h;subst h
      rw [hfs] at hτ
      refine .st e1 (by rw [zit e2,← e4];exact yap hb) (zoe (zmn hT n) hτ fun f _=>?_)
      unfold Program.cellsOf isz
      cases P.info? f.type <;> rfl
     ·cases h
    ·cases h
   ·rename_i m e hk
    rw [hk] at e3
    have hd:d=.array m e:=by cases d <;> simp [tkOf] at e3;rw [e3.1,e3.2]
    subst hd
    split at h
    ·rename_i τ' hτ
     split at h
     ·rename_i s hs
      split at h
      ·rename_i hb
       split at h
       ·rename_i hz
        simp only [yad] at h;subst h
        exact .arr e1 (by rw [zhn hT hs];exact yap hb) (zmn hT n e τ' hτ) (by rw [zit e2,← e4];exact yap hz)
       ·cases h
      ·cases h
     ·cases h
    ·cases h
   ·cases h
variable {H:Type} {enc:TypeId×Value→H} {W:World} {sp:Nat→Bool} {r:Reach} {b0:Nat}
theorem zq3 {f:Func} {s:ChangeSpec} {again:Bool} {W W':World} {args:Array Value} {v:Value} {ds gs:List (DataW H)} {before:List MemPlace} {g g':G} {tb:TypeId}
  (hW:DataW.Whole enc P f.params.toList s.vars false W args.toList ds gs before) (hx:Ext g W g' W') (hg:∀ b o,¬ g.own b o)
  (hl:laidOutB P=true) (hr:f.params.all (fun t=>P.readableRec t&&decide (t<P.types.size))=true)
  (hres:f.resultTypes=#[tb]) (htb:P.underlying tb=some .bool) (hv:v=.bool true) (hvars:s.vars=[]) (hfn:s.fn H (ds++gs)={ results:=[.lit (.bool true)],args:=ds }) :
  s.post enc P f false true false again W args v W':=by
 subst hv
 have hb:∀ p∈before,p.block<W.heap.size:=fun p hp=>hW.lt p hp
 have hheap:∀ b,b<W.heap.size→W'.heap[b]? = W.heap[b]? := fun b hb=>hx.same b hb fun o=>hg b o
 obtain ⟨p,q,hA,hV,hpq,hfz,hnd⟩:=id hW
 rw [hvars] at hV
 obtain ⟨rfl,rfl⟩:gs=[]∧q=[]:=by
  cases gs with
  | nil=>exact ⟨rfl,hV⟩
  | cons g gs=>exact hV.elim
 rw [yat] at hpq
 subst hpq
 have hsame:∀ pl∈before,W.sameAt W' pl:=by
  intro pl hpl
  have h1:=hheap pl.block (hb pl hpl)
  cases pl with
  | cell b o =>
    simp only [MemPlace.block] at h1
    simp [World.sameAt,World.cell?,h1]
  | map b =>
    simp only [MemPlace.block] at h1
    simp [World.sameAt,h1]
 have hargs:∀ sp:Nat→Bool,(∀ p∈before,sp p.block=true)→DataW.TrodAll enc P W' 0 sp true f.params.toList args.toList ds before:=by
  intro sp hsp
  have key:∀ (ts:List TypeId) (vs:List Value) (ds:List (DataW H)) (ps:List MemPlace),(∀ t∈ts,P.readableRec t=true∧t<P.types.size)→(∀ p∈ps,W.sameAt W' p)→(∀ p∈ps,sp p.block=true)→DataW.TrodAll enc P W 0 (fun _=>true) true ts vs ds ps→DataW.TrodAll enc P W' 0 sp true ts vs ds ps:=by
   intro ts
   induction ts with
   | nil=>intro vs ds ps _ _ _ h;cases vs <;> cases ds <;> exact h
   | cons t ts ih =>
     intro vs ds ps h1 h2 h3 h
     cases vs with
     | nil=>exact h.elim
     | cons v vs =>
     cases ds with
     | nil=>exact h.elim
     | cons d ds =>
     obtain ⟨p1,q1,e1,e2,rfl⟩:=h
     obtain ⟨r1,r2⟩:=h1 t (by simp)
     exact ⟨p1,q1,Go.WideElems.Trod_stays hl r1 r2 e1 (fun p hp=>h2 p (by simp [hp])) (fun p hp=>h3 p (by simp [hp])),ih vs ds q1 (fun t ht=>h1 t (by simp [ht])) (fun p hp=>h2 p (by simp [hp])) (fun p hp=>h3 p (by simp [hp])) e2,rfl⟩
  refine key _ _ _ _ (fun t ht=>?_) hsame hsp hA
  rw [Array.all_eq_true] at hr
  obtain ⟨i,hi,rfl⟩:=ydj ht
  have:=hr i (by simpa using hi)
  simpa using this
 have hresT:∀ (b:Nat) (sp:Nat→Bool) (hd:Bool),DataW.TrodAll enc P W' b sp hd f.resultTypes.toList ((Value.bool true).resultList f.resultTypes.size) (s.fn H (ds++[])).results []:=by
  intro b sp hd
  rw [hfn,hres]
  exact ⟨[],[],Go.RowKit.shut_bool htb true,rfl,rfl⟩
 have hold:∀ p∈before,(fun b=>decide (b<W.heap.size)) p.block=true:=fun p hp=>by simpa using hb p hp
 have hvarsT:∀ sp:Nat→Bool,DataW.TrodVars enc P W' sp s.vars (s.fn H (ds++[])).vars []:=by
  intro sp
  rw [hvars,hfn]
  rfl
 have hargs':∀ sp:Nat→Bool,(∀ p∈before,sp p.block=true)→DataW.TrodAll enc P W' 0 sp true f.params.toList args.toList (s.fn H (ds++[])).args before:=by
  intro sp hsp
  rw [hfn]
  exact hargs sp hsp
 have hk:W.keptBut W' (·∈before):=by
  refine ⟨hx.os,hx.output,fun i hi=>?_⟩
  rw [hheap i hi]
  cases hh:W.heap[i]? with
  | none=>trivial
  | some o=>cases o <;> simp
 refine ⟨ds,[],before,[],before,[],hW,hresT _ _ _,hargs' _ hold,hvarsT _,World.keptBut_mono (fun p hp=>⟨hp,?_⟩) hk,fun _=>?_⟩
 ·simp [hp]
 ·refine ⟨Go.RowKit.ok_one hres rfl (Go.RowKit.okWide_bool_mk htb true),_,_,([]++before)++[],⟨[]++before,[],trodAll_append (hargs' _ (fun _ _=>rfl)) (hresT _ _ _),hvarsT _,rfl,?_,?_⟩,?_⟩
  ·intro b off hp
   have hp':MemPlace.cell b off∈before:=by simpa using hp
   have:=hheap b (hb _ hp')
   unfold World.frozen?
   simp only [this]
   exact hfz b off hp'
  ·intro ha;cases ha
  ·intro p hp _
   simpa using hp
theorem zyr [Glob] {f:Func} {F:FuncId} {s:ChangeSpec} {again:Bool} {W:World} {args:Array Value} {ds gs:List (DataW H)} {before:List MemPlace} {as:List AV} {tb:TypeId}
  (hW:DataW.Whole enc P f.params.toList s.vars false W args.toList ds gs before) (hd:VDet P F as [] (.bool true)) (has:LRel G.none W as args.toList) (hgl:∀ p∈Glob.gl,MRel G.none W p.2 p.1 0)
  (hl:laidOutB P=true) (hr:f.params.all (fun t=>P.readableRec t&&decide (t<P.types.size))=true)
  (hres:f.resultTypes=#[tb]) (htb:P.underlying tb=some .bool) (hvars:s.vars=[]) (hfn:s.fn H (ds++gs)={ results:=[.lit (.bool true)],args:=ds }) :
  Calls P F args W fun e W'=>∃ v,e=.returned v∧s.post enc P f false true false again W args v W':=by
 refine (hd.2 G.none W args (zy4 W hgl) has).mono ?_
 rintro e W' ⟨r,H',g',c,rfl,⟨-,rfl⟩,-,hv,hx⟩
 simp only [VRel] at hv
 subst hv
 exact ⟨_,rfl,zq3 hW hx (fun _ _ h=>h) hl hr hres htb rfl hvars hfn⟩
end
end
theorem LRel.nil {g:G} {w:World}:LRel g w [] []:=by simp only [LRel]
theorem zbq {n:Nat} (h:n≤maxLen):n≤9223372036854775807:=by simp only [maxLen] at h;omega
section
open Go.ChangeShapes Go.WideShapes
variable {H:Type}
mutual
inductive DatOf:DataW H→List AV→Prop where
 | int (k:IntKind) (n:Int):DatOf (.lit (.int k n)) [.int k n]
 | bool (b:Bool):DatOf (.lit (.bool b)) [.bool b]
 | agg {ds:List (DataW H)} {l:List AV} (h:DatsOf ds l):DatOf (.agg ds) l
inductive DatsOf:List (DataW H)→List AV→Prop where
 | nil:DatsOf [] []
 | cons {d:DataW H} {ds:List (DataW H)} {l l':List AV} (h:DatOf d l) (h':DatsOf ds l'):DatsOf (d::ds) (l++l')
end
mutual
theorem DatOf.det {d:DataW H} {l l':List AV}:DatOf d l→DatOf d l'→l=l'
 | .int _ _,.int _ _=>rfl
 | .bool _,.bool _=>rfl
 | .agg h,.agg h'=>h.det h'
theorem DatsOf.det {d:List (DataW H)} {l l':List AV}:DatsOf d l→DatsOf d l'→l=l'
 | .nil,.nil=>rfl
 | .cons h t,.cons h' t'=>by rw [h.det h',t.det t']
end
def PlTy:Ty→Prop
 | .int _=>True
 | .bool=>True
 | .unit=>True
 | .pair a b=>PlTy a∧PlTy b
 | _=>False
theorem PlTy.rep {τ:Ty}:∀ {n:Nat},0<n→PlTy (repTy n τ)→PlTy τ
 | _+1,_,h=>h.1
section
variable {P:Program} {enc:TypeId×Value→H} {W:World} {sp:Nat→Bool} {hd:Bool}
theorem zt6 {g:G} {n:Nat} (ih:∀ {t:TypeId} {τ:Ty} {cs:List Value} {z:DataW H×List MemPlace},PlTy τ→TyOk P t τ→DataW.trod enc P W 0 sp hd n t cs=some z→∃ l,DatOf z.1 l∧LRel g W l cs) {cs:List Value} :
  ∀ {fs:List Field} {off:Nat} {τ:Ty} (xs:List (DataW H×List MemPlace)),PlTy τ→FldOk P fs off τ→xs.length=fs.length→(∀ (i:Nat) f x,fs[i]? = some f→xs[i]? = some x→DataW.trod enc P W 0 sp hd n f.type ((cs.drop f.offset).take (P.cellsOf f.type))=some x)→off+τ.sz=cs.length→∃ l,DatsOf (xs.map (·.1)) l∧LRel g W l (cs.drop off)
 | [],off,.unit,xs,_,.nil,hl,_,hlen=>by
   obtain rfl:=ya3 hl
   refine ⟨[],.nil,?_⟩
   simp only [Ty.sz,yb2] at hlen
   rw [yc1 (by omega)]
   simp [LRel]
 | f::fs,off,.pair a b,x::xs,hp,.cons h1 h2 h3 h4,hl,hr,hlen=>by
   have hz:=hr 0 f x rfl rfl
   obtain ⟨l,e1,e2⟩:=ih hp.1 h3 hz
   simp only [Ty.sz] at hlen
   obtain ⟨l',e3,e4⟩:=zt6 ih xs hp.2 h4 (by simpa using hl) (fun i f x hf hx=>hr (i+1) f x (by simpa using hf) (by simpa using hx)) (by omega)
   refine ⟨l++l',.cons e1 e3,?_⟩
   rw [h1,h2] at e2
   have:cs.drop off=(cs.drop off).take a.sz++cs.drop (off+a.sz):=by
    rw [← List.drop_drop,ycp]
   rw [this]
   exact e2.append e4
theorem zxt {g:G} {n:Nat} {e:TypeId} {τ:Ty} (he:TyOk P e τ) (hp:PlTy τ) (ih:∀ {t:TypeId} {τ:Ty} {cs:List Value} {z:DataW H×List MemPlace},PlTy τ→TyOk P t τ→DataW.trod enc P W 0 sp hd n t cs=some z→∃ l,DatOf z.1 l∧LRel g W l cs) {cs:List Value} :
  ∀ (xs:List (DataW H×List MemPlace)) (off:Nat),(∀ (i:Nat) x,xs[i]? = some x→DataW.trod enc P W 0 sp hd n e ((cs.drop (off+i * τ.sz)).take τ.sz)=some x)→off+xs.length * τ.sz=cs.length→∃ l,DatsOf (xs.map (·.1)) l∧LRel g W l (cs.drop off)
 | [],off,_,hlen=>by
   refine ⟨[],.nil,?_⟩
   simp only [List.length_nil,Nat.zero_mul,yb2] at hlen
   rw [yc1 (by omega)]
   simp [LRel]
 | x::xs,off,hr,hlen=>by
   have hz:=hr 0 x rfl
   simp only [Nat.zero_mul,yb2] at hz
   obtain ⟨l,e1,e2⟩:=ih hp he hz
   obtain ⟨l',e3,e4⟩:=zxt he hp ih xs (off+τ.sz) (fun i x hx=>by
    have:=hr (i+1) x (by simpa using hx)
    rwa [show off+(i+1) * τ.sz=off+τ.sz+i * τ.sz by rw [yb8];omega] at this) (by rw [List.length_cons,yb8] at hlen;omega)
   refine ⟨l++l',.cons e1 e3,?_⟩
   have:cs.drop off=(cs.drop off).take τ.sz++cs.drop (off+τ.sz):=by
    rw [← List.drop_drop,ycp]
   rw [this]
   exact e2.append e4
theorem trod_dat {g:G}:∀ (fuel:Nat) {t:TypeId} {τ:Ty} {cs:List Value} {z:DataW H×List MemPlace},PlTy τ→TyOk P t τ→DataW.trod enc P W 0 sp hd fuel t cs=some z→∃ l,DatOf z.1 l∧LRel g W l cs:=by
 intro fuel
 induction fuel with
 | zero=>intro t τ cs z _ _ h;simp [DataW.trod] at h
 | succ fuel ih =>
   intro t τ cs z hp ho h
   cases ho with
   | int ht =>
     obtain ⟨n,rfl,rfl,hw⟩:=DataW.trod_int ht h
     exact ⟨_,.int _ n,by simp [LRel,VRel]⟩
   | bool ht =>
     obtain ⟨b,rfl,rfl⟩:=DataW.trod_bool ht h
     exact ⟨_,.bool b,by simp [LRel,VRel]⟩
   | str ht=>exact hp.elim
   | tm _ _ _ _ _ _ _ _=>exact hp.elim
   | fo _ _ _ _ _ _ _ _ _ _ _=>exact hp.elim
   | sl _ _ _ _=>exact hp.elim
   | @st _ fs τ ht hc hf =>
     obtain ⟨xs,n,hn,rfl,hlen,hxl,hget⟩:=DataW.trod_struct ht h
     cases hn
     obtain ⟨l,e1,e2⟩:=zt6 ih xs hp hf (by simpa using hxl) (fun i f x hfi hx=>by
      have hg':=hget i f (by simpa using hfi)
      rw [hx] at hg'
      exact hg') (by rw [hlen,hc];omega)
     exact ⟨l,.agg e1,by simpa using e2⟩
   | @arr _ e n τ ht hc he hn =>
     obtain ⟨xs,m,hm,rfl,hlen,hxl,hget⟩:=DataW.trod_array ht h
     cases hm
     by_cases h0:0<n
     ·obtain ⟨l,e1,e2⟩:=zxt he (PlTy.rep h0 hp) ih xs 0 (fun i x hx=>by
       have hlt:=(yac.1 hx).1
       have hg':=hget i (by omega)
       rw [hx,hc] at hg'
       simpa using hg') (by rw [hlen,hn,hxl];omega)
      exact ⟨l,.agg e1,by simpa using e2⟩
     ·have hn0:n=0:=by omega
      subst hn0
      obtain rfl:=ya3 hxl
      refine ⟨[],.agg .nil,?_⟩
      have:cs=[]:=ya3 (by rw [hlen,hn];omega)
      rw [this];simp [LRel]
end
end
end Go.Vsi
